/- What the small functions of layer 21 return: isPrintable, Plain, special, wordLength, Digits, and both Upper. Conditions: lengths. -/
import Derived.Test.YtomnljigoljldaaGreatDoorVerbPlain
import Derived.Test.YtomnljigoljldaaGreatDoorVerbUpper
import Derived.Test.YtomnljigoljldaaGreatDoorBuilderS
import Derived.Deep.AppendLies
namespace Go.Proofs.YtomnljigoljldaaGreatDoor.VB
open Go.RowKit Mailsack MM

theorem get_data (s : ByteArray) (k : Nat) (h : k < s.size) : s.data.toList[k]? = some s[k] := by
  rw [List.getElem?_eq_getElem (by rw [size_list]; exact h)]; rfl
theorem take_snoc (s : ByteArray) (k : Nat) (h : k < s.size) : s.data.toList.take (k + 1) = s.data.toList.take k ++ [s[k]] := by
  rw [List.take_succ_eq_append_getElem (by rw [size_list]; exact h)]; rfl
theorem take_all (s : ByteArray) : s.data.toList.take s.size = s.data.toList := by rw [← size_list, List.take_length]

theorem plain_get {s : ByteArray} {k : Nat} (h : k < s.size) (hc : plainB s[k] = false) : plainP s.data.toList = false := by
  cases hp : plainP s.data.toList with
  | false => rfl
  | true =>
    have := List.all_eq_true.1 hp s[k] (List.mem_of_getElem? (get_data s k h))
    rw [hc] at this; cases this
theorem plain_step {s : ByteArray} {k : Nat} (h : k < s.size) (hc : plainB s[k] = true) (hp : plainP (s.data.toList.take k) = true) : plainP (s.data.toList.take (k + 1)) = true := by
  rw [take_snoc s k h]; unfold plainP at *; rw [List.all_append, hp]; simp [hc]

set_option maxHeartbeats 400000 in
set_option maxRecDepth 100000 in
theorem printable_any (s : ByteArray) (w : World) (hs : s.size ≤ 1000000) :
    Calls Tryz.prog 130 #[.string s] w fun e w' => e = .returned (.bool (plainP s.data.toList)) ∧ w = w' := by
  go_enter Tryz.func130, Tryz.ntmps130
  go_wp2
  go_loop [6] (fun iv => ∃ k : Nat, k ≤ s.size ∧ iv = .int .i64 k ∧ Hid (plainP (s.data.toList.take k) = true)) (fun iv => s.size - (intOf iv).toNat)
  case atStart => exact ⟨0, Nat.zero_le _, rfl, Lib.hid rfl⟩
  case round =>
    obtain ⟨k, hk, rfl, hp⟩ := hrel
    by_cases hlt : k < s.size
    · have h256 : s[k].toNat < 256 := UInt8.toNat_lt _
      by_cases hc : 32 ≤ s[k].toNat ∧ s[k].toNat ≤ 126
      · have hp2 := Lib.hid (plain_step hlt (by simp [plainB, hc.1, hc.2]) hp.out)
        obtain ⟨h1, h2⟩ := hc
        go_wp2
        go_round
        case rel => exact ⟨k + 1, by omega, by go_num, hp2⟩
        case measure => simp [intOf]; omega
      · have hv := Lib.hid (plain_get hlt (show plainB s[k] = false by unfold plainB; rw [Bool.and_eq_false_iff]; simp; omega))
        have hc' : s[k].toNat < 32 ∨ 126 < s[k].toNat := by omega
        clear hc
        rcases hc' with hc' | hc'
        all_goals
          go_wp2
          go_ret
          exact ⟨by rw [hv.out]; rfl, rfl⟩
    · have hv := Lib.hid (show plainP s.data.toList = true by have := hp.out; rwa [show k = s.size by omega, take_all] at this)
      go_wp2
      go_ret
      exact ⟨by rw [hv.out]; rfl, rfl⟩

theorem plain_ascii {s : ByteArray} (h : plainP s.data.toList = true) : ∀ (j : Nat) b, s.data.toList[j]? = some b → b.toNat < 128 := fun j b hb => by
  have := List.all_eq_true.1 h b (List.mem_of_getElem? hb)
  unfold plainB at this
  rw [Bool.and_eq_true, decide_eq_true_iff, decide_eq_true_iff] at this
  omega
theorem word_any (s : ByteArray) (w : World) (hs : s.size ≤ 1000000) (hp : plainP s.data.toList = true) :
    Calls Tryz.prog 208 #[.string s] w fun e w' => e = .returned (.int .i64 (wordLen s.data.toList)) ∧ Below w.heap.size w w' := by
  have ha := Lib.hid (plain_ascii hp)
  have hle := wordLen_le s.data.toList
  rw [size_list] at hle
  have hi := indexAny_word s.data.toList
  rw [size_list] at hi
  generalize wordLen s.data.toList = n at hle hi
  by_cases h : n = s.size
  · rw [if_pos h] at hi
    have Hi := Lib.hid (show Lib.indexAny s.data.toList (⟨#[32, 40, 41, 34]⟩ : ByteArray).data.toList = -1 from hi)
    have Hn := Lib.hid h
    have q0 : decide ((-1 : Int) < 0) = true := rfl
    clear hi h hp
    go_enter Tryz.func208, Tryz.ntmps208
    go_wp2_with fail
    refine (Tryz.strings_IndexAny_laid s _ _ (by omega) (by decide) ha.out (plain_ascii (s := ⟨#[32, 40, 41, 34]⟩) (by decide))).mono ?_
    rw [Hi.out]
    rintro e w1 ⟨rfl, hb1⟩
    go_wp2
    go_ret
    exact ⟨by rw [Hn.out]; rfl, hb1⟩
  · rw [if_neg h] at hi
    have Hi := Lib.hid (show Lib.indexAny s.data.toList (⟨#[32, 40, 41, 34]⟩ : ByteArray).data.toList = n from hi)
    have q0 : decide ((n : Int) < 0) = false := by simp
    clear hi h hp
    go_enter Tryz.func208, Tryz.ntmps208
    go_wp2_with fail
    refine (Tryz.strings_IndexAny_laid s _ _ (by omega) (by decide) ha.out (plain_ascii (s := ⟨#[32, 40, 41, 34]⟩) (by decide))).mono ?_
    rw [Hi.out]
    rintro e w1 ⟨rfl, hb1⟩
    go_wp2
    go_ret
    exact ⟨rfl, hb1⟩
end Go.Proofs.YtomnljigoljldaaGreatDoor.VB

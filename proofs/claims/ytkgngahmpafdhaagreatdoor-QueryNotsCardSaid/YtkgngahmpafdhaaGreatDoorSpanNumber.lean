/- What span.number returns, for any text. Conditions: the text's length. -/
import Derived.Test.YtkgngahmpafdhaaGreatDoorSpanPlain
import Derived.Test.YtkgngahmpafdhaaGreatDoorShelf
import Derived.WalkKit
import Derived.WalkLawsBesides
import Derived.WalkSpells
import Derived.Lib.Hide
import Derived.Deep.QuietTactic
import Derived.BigQuiet
namespace Go.Proofs.YtkgngahmpafdhaaGreatDoor.SP
open Go.RowKit Mailsack

theorem take_snocS (s : ByteArray) (k : Nat) (h : k < s.size) : s.data.toList.take (k + 1) = s.data.toList.take k ++ [s[k]] := by
  rw [List.take_add_one, List.getElem?_eq_getElem (by rw [size_list]; exact h)]; rfl
set_option maxHeartbeats 800000 in
set_option maxRecDepth 100000 in
theorem number_any (s : ByteArray) (w : World) (hl : s.size ≤ 9223372036854775807) :
    Calls Tryz.prog 65 #[.string s] w fun e w' => e = .returned (.tuple #[.int .i64 (numS s.data.toList).1, .bool (numS s.data.toList).2]) ∧ w = w' := by
  have hz := size_list s
  by_cases hstar : s.data.toList = [42]
  · rw [hstar, numS_star]
    have hB : (s.toList == [42]) = true := by rw [ByteArray.toList_eq]; exact beq_iff_eq.2 hstar
    clear hstar hz
    go_enter Tryz.func65, Tryz.ntmps65
    go_wp2
    go_ret2
    exact ⟨rfl, rfl⟩
  have hB : (s.toList == [42]) = false := by rw [ByteArray.toList_eq]; exact beq_eq_false_iff_ne.2 hstar
  by_cases h0 : s.size = 0
  · rw [numS_no hstar (.inl (by omega))]
    have hE : s.toList.isEmpty = true := by rw [ByteArray.toList_eq, List.isEmpty_iff, ← List.length_eq_zero_iff, hz]; exact h0
    have hE2 : (s.toList == []) = true := by rw [ByteArray.toList_eq, beq_iff_eq, ← List.length_eq_zero_iff, hz]; exact h0
    clear hstar hz h0
    go_enter Tryz.func65, Tryz.ntmps65
    go_wp2
    all_goals (go_ret2; exact ⟨rfl, rfl⟩)
  have hE : s.toList.isEmpty = false := by rw [ByteArray.toList_eq, List.isEmpty_eq_false_iff, ne_eq, ← List.length_eq_zero_iff, hz]; exact h0
  have hE2 : (s.toList == []) = false := by rw [ByteArray.toList_eq, beq_eq_false_iff_ne, ne_eq, ← List.length_eq_zero_iff, hz]; exact h0
  have hp : 0 < s.size := by omega
  by_cases h10 : 10 < s.size
  · rw [numS_no hstar (.inr (.inl (by omega)))]
    clear hstar hz h0
    go_enter Tryz.func65, Tryz.ntmps65
    go_wp2
    go_ret2
    exact ⟨rfl, rfl⟩
  by_cases h48 : ((s[0]'hp).toNat : Int) = 48
  · rw [numS_no hstar (.inr (.inr (.inl (by
      rw [List.getElem?_eq_getElem (by omega)]
      have : s.data.toList[0]'(by omega) = 48 := (byte_eq (x := s.data.toList[0]'(by omega)) (n := 48) (by decide)).1 h48
      rw [this]))))]
    clear hstar hz h0
    go_enter Tryz.func65, Tryz.ntmps65
    go_wp2
    go_ret2
    exact ⟨rfl, rfl⟩
  have hb48 : (((s[0]'hp).toNat : Int) == 48) = false := by simpa using h48
  have Hyes := Lib.hid (show s.data.toList.all isDig = true → numP s.data.toList ≤ 4294967295 → numS s.data.toList = (numP s.data.toList, true) from
    numS_yes hstar (by omega) (by omega) (by
      rw [List.getElem?_eq_getElem (by omega)]
      intro e
      exact h48 ((byte_eq (x := s.data.toList[0]'(by omega)) (n := 48) (by decide)).2 (Option.some.inj e))))
  have Hbig := Lib.hid (fun (h : 4294967295 < numP s.data.toList) => numS_no hstar (.inr (.inr (.inr (.inr h)))))
  have Hbad := Lib.hid (fun (h : s.data.toList.all isDig = false) => numS_no hstar (.inr (.inr (.inr (.inl h)))))
  have Hz := Lib.hid hz
  clear hz hstar h48 h0
  go_enter Tryz.func65, Tryz.ntmps65
  go_wp2
  go_loop [4, 22] (fun n i => ∃ k : Nat, k ≤ s.size ∧ i = .int .i64 k ∧ n = .int .i64 (numP (s.data.toList.take k)) ∧ Hid (∀ c ∈ s.data.toList.take k, isDig c = true)) (fun _ i => s.size - (intOf i).toNat)
  case atStart => exact ⟨0, Nat.zero_le _, rfl, rfl, Lib.hid (by simp)⟩
  case round =>
    obtain ⟨k, hk, rfl, rfl, hd⟩ := hrel
    have hn := numP_ten hd.out (by rw [List.length_take]; omega)
    by_cases hlt : k < s.size
    · have hn9 : numP (s.data.toList.take k) < 1000000000 := by
        have h1 := numP_bound hd.out
        have h2 : ((10 ^ (s.data.toList.take k).length : Nat) : Int) ≤ ((10 ^ 9 : Nat) : Int) := Int.ofNat_le.2 (Nat.pow_le_pow_right (by decide) (by rw [List.length_take]; omega))
        have h3 : ((10 ^ (s.data.toList.take k).length : Nat) : Int) = (10 : Int) ^ (s.data.toList.take k).length := by rw [Int.natCast_pow]; rfl
        rw [h3] at h2
        have h4 : ((10 ^ 9 : Nat) : Int) = 1000000000 := by decide
        omega
      by_cases hdg : 48 ≤ ((s[k]'hlt).toNat : Int) ∧ ((s[k]'hlt).toNat : Int) ≤ 57
      · have Hs := Lib.hid (numP_snoc (s.data.toList.take k) (s[k]'hlt))
        have Hd2 := Lib.hid (dig_take (l := s.data.toList) (k := k) (by rw [Hz.out]; exact hlt) hd.out (dig_iff.2 hdg))
        obtain ⟨hd1, hd2⟩ := hdg
        go_wp2
        go_round
        case rel => exact ⟨k + 1, by omega, by go_num, (by rw [take_snocS s k hlt]; exact congrArg (Value.int .i64) Hs.out.symm), Hd2⟩
        case measure => simp [intOf]; omega
      · have Hn := Lib.hid (Hbad.out (by
          rw [List.all_eq_false]
          exact ⟨s[k]'hlt, List.getElem_mem (by rw [Hz.out]; exact hlt), by rw [isDig_no hdg]; decide⟩))
        have hdg : ((s[k]'hlt).toNat : Int) < 48 ∨ 57 < ((s[k]'hlt).toNat : Int) := by omega
        rcases hdg with hdg | hdg
        · go_wp2
          go_ret2
          rw [Hn.out]
          exact ⟨rfl, rfl⟩
        · go_wp2
          go_ret2
          rw [Hn.out]
          exact ⟨rfl, rfl⟩
    · have e : s.data.toList.take k = s.data.toList := List.take_of_length_le (by rw [Hz.out]; omega)
      rw [e] at hd hn ⊢
      have hall := Lib.hid (List.all_eq_true.2 hd.out)
      clear e
      by_cases hbig : 4294967295 < numP s.data.toList
      · have Hn := Lib.hid (Hbig.out hbig)
        go_wp2
        go_ret2
        rw [Hn.out]
        exact ⟨rfl, rfl⟩
      · have Hn := Lib.hid (Hyes.out hall.out (by omega))
        go_wp2
        go_ret2
        rw [Hn.out]
        exact ⟨rfl, rfl⟩
end Go.Proofs.YtkgngahmpafdhaaGreatDoor.SP

/- What lines.number returns, for any text. No condition but the text's length. -/
import Derived.Test.YtomnljigoljldaaGreatDoorTakePlain
import Derived.Test.YtomnljigoljldaaGreatDoorShelf
import Derived.WalkKit
import Derived.WalkLawsBesides
import Derived.WalkSpells
import Derived.Lib.Hide
import Derived.Deep.QuietTactic
import Derived.BigQuiet
namespace Go.Proofs.YtomnljigoljldaaGreatDoor.LN
open Go.RowKit Mailsack

set_option maxHeartbeats 400000 in
set_option maxRecDepth 100000 in
theorem number_any (s : ByteArray) (w : World) (hl : s.size < 4611686018427387904) :
    Calls Tryz.prog 128 #[.string s] w fun e w' => e = .returned (.tuple #[.int .i64 (numR s.data.toList).1, .bool (numR s.data.toList).2]) ∧ w = w' := by
  have hz := size_list s
  by_cases h1 : s.size < 1
  · rw [numR_no (goodNum_short (by omega))]
    clear hz
    go_enter Tryz.func128, Tryz.ntmps128
    go_wp2
    go_ret2
    exact ⟨rfl, rfl⟩
  by_cases h4 : 4 < s.size
  · rw [numR_no (goodNum_long (by omega))]
    clear hz
    go_enter Tryz.func128, Tryz.ntmps128
    go_wp2
    go_ret2
    exact ⟨rfl, rfl⟩
  have hp : 0 < s.size := by clear hz; omega
  by_cases h0 : 1 < s.size ∧ ((s[0]'hp).toNat : Int) = 48
  · rw [numR_no (goodNum_zero (l := s.data.toList) (by omega) h0.2)]
    clear hz
    obtain ⟨h0, h0'⟩ := h0
    go_enter Tryz.func128, Tryz.ntmps128
    go_wp2
    go_ret2
    exact ⟨rfl, rfl⟩
  have hok : s.size ≤ 1 ∨ (1 < s.size ∧ ((s[0]'hp).toNat : Int) ≠ 48) := by
    by_cases e : s.size ≤ 1
    · exact .inl e
    · exact .inr ⟨by omega, fun e' => h0 ⟨by omega, e'⟩⟩
  clear h0
  have Hg := Lib.hid (show (∀ c ∈ s.data.toList, isDig c = true) → goodNum s.data.toList = true from
    goodNum_ok (by omega) (by omega) (by rcases hok with e | e; exact .inl (by omega); exact .inr e.2))
  have Hz := Lib.hid hz
  clear hz
  have hok : s.size ≤ 1 ∨ (1 < s.size ∧ (((s[0]'hp).toNat : Int) == 48) = false) := hok.imp id (fun e => ⟨e.1, by simpa using e.2⟩)
  rcases hok with h5 | ⟨h5, h6⟩
  all_goals
    go_enter Tryz.func128, Tryz.ntmps128
    go_wp2
    go_loop [4, 26] (fun n i => ∃ k : Nat, k ≤ s.size ∧ i = .int .i64 k ∧ n = .int .i64 (numP (s.data.toList.take k)) ∧ Hid (∀ c ∈ s.data.toList.take k, isDig c = true)) (fun _ i => s.size - (intOf i).toNat)
    case atStart => exact ⟨0, Nat.zero_le _, rfl, rfl, Lib.hid (by simp)⟩
    case round =>
      obtain ⟨k, hk, rfl, rfl, hd⟩ := hrel
      by_cases hlt : k < s.size
      · have hn := numP_small hd.out (by rw [List.length_take]; omega)
        by_cases hdg : 48 ≤ ((s[k]'hlt).toNat : Int) ∧ ((s[k]'hlt).toNat : Int) ≤ 57
        · have Hs := Lib.hid (numP_snoc (s.data.toList.take k) (s[k]'hlt))
          have Hd2 := Lib.hid (dig_take (l := s.data.toList) (k := k) (by rw [Hz.out]; exact hlt) hd.out (dig_iff.2 hdg))
          obtain ⟨hd1, hd2⟩ := hdg
          go_wp2
          go_round
          case rel => exact ⟨k + 1, by omega, by go_num, (by rw [take_snoc (l := s.data.toList) (k := k) (by rw [Hz.out]; exact hlt)]; exact congrArg (Value.int .i64) Hs.out.symm), Hd2⟩
          case measure => simp [intOf]; omega
        · have Hn := Lib.hid (numR_no (goodNum_bad (l := s.data.toList) (k := k) (by rw [Hz.out]; exact hlt) (isDig_no hdg)))
          have hdg : ((s[k]'hlt).toNat : Int) < 48 ∨ 57 < ((s[k]'hlt).toNat : Int) := by omega
          rcases hdg with hdg | hdg
          · go_wp2
            go_ret2
            rw [Hn.out]
            exact ⟨rfl, rfl⟩
          · go_wp2
            go_ret2
            rw [Hn.out]
            exact ⟨rfl, rfl⟩
      · have e : s.data.toList.take k = s.data.toList := List.take_of_length_le (by rw [Hz.out]; omega)
        rw [e] at hd ⊢
        have Hn := Lib.hid (numR_yes (Hg.out hd.out))
        clear e
        go_wp2
        go_ret2
        rw [Hn.out]
        exact ⟨rfl, rfl⟩

set_option maxHeartbeats 400000 in
set_option maxRecDepth 100000 in
theorem literal_any (s : ByteArray) (w : World) (hl : s.size < 4611686018427387904) :
    Calls Tryz.prog 70 #[.string s] w fun e w' => e = .returned (.tuple #[.string ⟨(litR s.data.toList).1.toArray⟩, .int .i64 (litR s.data.toList).2.1, .bool (litR s.data.toList).2.2]) ∧ w = w' := by
  obtain ⟨b, hb⟩ : ∃ b : ByteArray, (⟨(Lib.trimSuffix s.data.toList (⟨#[125]⟩ : ByteArray).data.toList).toArray⟩ : ByteArray) = b := ⟨_, rfl⟩
  have hbl : b.data.toList = Lib.trimSuffix s.data.toList [125] := by rw [← hb]
  have Hb := Lib.hid hb
  clear hb
  have hbs : b.size < 4611686018427387904 := Nat.lt_of_le_of_lt (trim_size hbl) hl
  by_cases hs : Lib.hasSuffix s.data.toList [125] = true
  · have Hs := Lib.hid (show Lib.hasSuffix s.data.toList (⟨#[125]⟩ : ByteArray).data.toList = true from hs)
    rcases Lib.lastIndexByte_spec b 123 with ⟨hi, hno⟩ | ⟨i, hi, he, hc, hno⟩
    · have Hn := Lib.hid (litR_none (lit_nobrace hs hbl hno))
      have Hi := Lib.hid hi
      clear hi hno hs hbl
      go_enter Tryz.func70, Tryz.ntmps70
      go_wp2_with fail
      refine (Tryz.strings_CutSuffix s ⟨#[125]⟩ _ (by omega)).mono ?_
      rintro e w' ⟨rfl, rfl⟩
      rw [Hb.out, Hs.out]
      go_wp2_with fail
      refine (Tryz.strings_LastIndexByte b 123 hbs _).mono ?_
      rintro e w' ⟨rfl, rfl⟩
      rw [Hi.out]
      go_wp2
      go_ret3
      rw [Hn.out]
      exact ⟨rfl, rfl⟩
    · have Hi := Lib.hid he
      have his : i ≤ s.size := Nat.le_trans (Nat.le_of_lt hi) (trim_size hbl)
      have hn := lit_brace hs hbl hi hc hno
      have hes : (b.extract (i + 1) b.size).size < 4611686018427387904 := by rw [ext_size]; omega
      clear he hc hno hs hbl
      by_cases hg : goodNum (b.data.toList.drop (i + 1)) = true
      · rw [if_pos hg] at hn
        have Hn := Lib.hid (litR_some hn)
        have Hg := Lib.hid (show numR (b.extract (i + 1) b.size).data.toList = (numP (b.data.toList.drop (i + 1)), true) by rw [ext_drop]; exact numR_yes hg)
        clear hn hg
        go_enter Tryz.func70, Tryz.ntmps70
        go_wp2_with fail
        refine (Tryz.strings_CutSuffix s ⟨#[125]⟩ _ (by omega)).mono ?_
        rintro e w' ⟨rfl, rfl⟩
        rw [Hb.out, Hs.out]
        go_wp2_with fail
        refine (Tryz.strings_LastIndexByte b 123 hbs _).mono ?_
        rintro e w' ⟨rfl, rfl⟩
        rw [Hi.out]
        go_wp2_with fail
        refine (number_any (b.extract (i + 1) b.size) _ hes).mono ?_
        rintro e w' ⟨rfl, rfl⟩
        rw [Hg.out]
        go_wp2
        go_ret3
        rw [Hn.out, ← ext_take]
        exact ⟨rfl, rfl⟩
      · rw [if_neg hg] at hn
        have Hn := Lib.hid (litR_none hn)
        have Hg := Lib.hid (show numR (b.extract (i + 1) b.size).data.toList = (0, false) by rw [ext_drop]; exact numR_no (by simpa using hg))
        clear hn hg
        go_enter Tryz.func70, Tryz.ntmps70
        go_wp2_with fail
        refine (Tryz.strings_CutSuffix s ⟨#[125]⟩ _ (by omega)).mono ?_
        rintro e w' ⟨rfl, rfl⟩
        rw [Hb.out, Hs.out]
        go_wp2_with fail
        refine (Tryz.strings_LastIndexByte b 123 hbs _).mono ?_
        rintro e w' ⟨rfl, rfl⟩
        rw [Hi.out]
        go_wp2_with fail
        refine (number_any (b.extract (i + 1) b.size) _ hes).mono ?_
        rintro e w' ⟨rfl, rfl⟩
        rw [Hg.out]
        go_wp2
        go_ret3
        rw [Hn.out]
        exact ⟨rfl, rfl⟩
  · have hs : Lib.hasSuffix s.data.toList [125] = false := by simpa using hs
    have Hs := Lib.hid (show Lib.hasSuffix s.data.toList (⟨#[125]⟩ : ByteArray).data.toList = false from hs)
    have Hn := Lib.hid (litR_none (lit_noend hs))
    clear hs hbl
    go_enter Tryz.func70, Tryz.ntmps70
    go_wp2_with fail
    refine (Tryz.strings_CutSuffix s ⟨#[125]⟩ _ (by omega)).mono ?_
    rintro e w' ⟨rfl, rfl⟩
    rw [Hb.out, Hs.out]
    go_wp2
    go_ret3
    rw [Hn.out]
    exact ⟨rfl, rfl⟩
end Go.Proofs.YtomnljigoljldaaGreatDoor.LN

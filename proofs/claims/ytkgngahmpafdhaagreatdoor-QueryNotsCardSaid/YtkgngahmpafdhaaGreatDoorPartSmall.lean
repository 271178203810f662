/- What the small functions of package part return. Conditions: lengths, and that the cell of the library's MaxLen holds some int. -/
import Derived.Test.YtkgngahmpafdhaaGreatDoorPartUpper
import Derived.Deep.Cut
import Derived.Test.YtkgngahmpafdhaaGreatDoorPartPlain
import Derived.Test.YtkgngahmpafdhaaGreatDoorReg
namespace Go.Proofs.YtkgngahmpafdhaaGreatDoor.PT
open Go.RowKit Mailsack MM

theorem strV_take (s : ByteArray) (i : Nat) : strV (s.data.toList.take i) = .string (s.extract 0 i) := by rw [ext_take]
theorem strV_drop (s : ByteArray) (i : Nat) : strV (s.data.toList.drop i) = .string (s.extract i s.size) := by rw [ext_drop]
/-- where the body begins -/
def splitN (l : Bs) : Nat := if Lib.hasPrefix l [13, 10] = true then 2 else if 0 ≤ Lib.index l [13, 10, 13, 10] then (Lib.index l [13, 10, 13, 10]).toNat + 4 else l.length
theorem splitN_pre {l : Bs} (h : Lib.hasPrefix l [13, 10] = true) : splitN l = 2 ∧ 2 ≤ l.length := by
  refine ⟨by unfold splitN; rw [if_pos h], ?_⟩
  have := (List.isPrefixOf_iff_prefix.1 h).length_le
  simpa using this
theorem splitN_hit {l : Bs} {i : Nat} (h : Lib.hasPrefix l [13, 10] = false) (hi : Lib.index l [13, 10, 13, 10] = i) : splitN l = i + 4 ∧ i + 4 ≤ l.length := by
  refine ⟨by unfold splitN; rw [if_neg (by rw [h]; simp), if_pos (by omega), hi]; simp, ?_⟩
  have := index_le hi
  simpa using this
theorem splitN_miss {l : Bs} (h : Lib.hasPrefix l [13, 10] = false) (hi : Lib.index l [13, 10, 13, 10] = -1) : splitN l = l.length := by
  unfold splitN; rw [if_neg (by rw [h]; simp), if_neg (by omega)]
theorem splitN_le (l : Bs) : splitN l ≤ l.length := by
  cases h : Lib.hasPrefix l [13, 10]
  · rcases index_cases l [13, 10, 13, 10] with h1 | ⟨i, h1⟩
    · rw [splitN_miss h h1]; exact Nat.le_refl _
    · rw [(splitN_hit h h1).1]; exact (splitN_hit h h1).2
  · rw [(splitN_pre h).1]; exact (splitN_pre h).2

set_option maxHeartbeats 1000000 in
set_option maxRecDepth 100000 in
theorem split_any (s : ByteArray) (m : Int) (w : World) (hs : s.size < 4294967281) (hm : w.cell? ⟨0, 0, none⟩ = some (.int .i64 m)) :
    Calls Tryz.prog 48 #[.string s] w fun e w' => e = .returned (.tuple #[strV (s.data.toList.take (splitN s.data.toList)), strV (s.data.toList.drop (splitN s.data.toList))]) ∧ Below w.heap.size w w' := by
  have Hm := Lib.hid hm
  clear hm
  cases hp : Lib.hasPrefix s.data.toList [13, 10]
  · have Hp := Lib.hid (show Lib.hasPrefix s.data.toList (⟨#[13, 10]⟩ : ByteArray).data.toList = false from hp)
    rcases index_cases s.data.toList [13, 10, 13, 10] with h1 | ⟨i, h1⟩
    · have Hi := Lib.hid (show Lib.index s.data.toList (⟨#[13, 10, 13, 10]⟩ : ByteArray).data.toList = -1 from h1)
      have HN := Lib.hid (splitN_miss hp h1)
      clear hp h1
      go_enter Tryz.func48, Tryz.ntmps48
      go_wp2_with fail
      refine (Tryz.strings_HasPrefix s _ _).mono ?_
      rw [Hp.out]
      rintro e w' ⟨rfl, rfl⟩
      go_wp2_with fail
      refine (Tryz.strings_Index s _ m _ hs Hm.out).mono ?_
      rw [Hi.out]
      rintro e w' ⟨rfl, rfl⟩
      have q0 : decide ((-1 : Int) < 0) = true := rfl
      go_wp2
      all_goals first | (exfalso; omega) | skip
      go_ret2
      refine ⟨?_, Below.refl _ _⟩
      rw [HN.out, List.take_length, List.drop_length]
      rfl
    · have hl := (splitN_hit hp h1).2
      rw [size_list] at hl
      have Hi := Lib.hid (show Lib.index s.data.toList (⟨#[13, 10, 13, 10]⟩ : ByteArray).data.toList = i from h1)
      have HN := Lib.hid (splitN_hit hp h1).1
      clear hp h1
      go_enter Tryz.func48, Tryz.ntmps48
      go_wp2_with fail
      refine (Tryz.strings_HasPrefix s _ _).mono ?_
      rw [Hp.out]
      rintro e w' ⟨rfl, rfl⟩
      go_wp2_with fail
      refine (Tryz.strings_Index s _ m _ hs Hm.out).mono ?_
      rw [Hi.out]
      rintro e w' ⟨rfl, rfl⟩
      have q0 : decide ((i : Int) < 0) = false := by simp
      have q1 : (0 : Int) ≤ (i : Int) + 4 := by omega
      have q2 : ((i : Int) + 4).toNat = i + 4 := by omega
      have q3 : (i : Int) + 4 ≤ (s.size : Int) := by omega
      go_upto_region 7 with fail
      refine RG.wp_region_det (fun W => Below w'.heap.size w' W) (by kernel_rfl) (by kernel_rfl) ((Below.refl _ _).drew) ?_
      iterate 8
        apply RG.wpDet_cons
        · intro w9 hw9
          repeat go_step
          with_reducible refine RG.only_mk ?_
          exact hw9
        · rfl
      refine RG.wpDet_nil (fun w9 hw9 => ?_)
      go_wp2
      go_ret2
      refine ⟨?_, hw9⟩
      rw [HN.out]
      rw [strV_take, strV_drop]
      rfl
  · have Hp := Lib.hid (show Lib.hasPrefix s.data.toList (⟨#[13, 10]⟩ : ByteArray).data.toList = true from hp)
    have hl := (splitN_pre hp).2
    rw [size_list] at hl
    have HN := Lib.hid (splitN_pre hp).1
    clear hp
    have q3 : (2 : Int) ≤ (s.size : Int) := by omega
    go_enter Tryz.func48, Tryz.ntmps48
    go_wp2_with fail
    refine (Tryz.strings_HasPrefix s _ _).mono ?_
    rw [Hp.out]
    rintro e w' ⟨rfl, rfl⟩
    go_upto_region 2 with fail
    refine RG.wp_region_det (fun W => Below w'.heap.size w' W) (by kernel_rfl) (by kernel_rfl) ((Below.refl _ _).drew) ?_
    iterate 6
      apply RG.wpDet_cons
      · intro w9 hw9
        repeat go_step
        with_reducible refine RG.only_mk ?_
        exact hw9
      · rfl
    refine RG.wpDet_nil (fun w9 hw9 => ?_)
    go_wp2
    go_ret2
    refine ⟨?_, hw9⟩
    rw [HN.out, strV_take, strV_drop]
    rfl

theorem has_any (s t : ByteArray) (m : Int) (w : World) (hs : s.size < 4294967281) (ht : t.size < 4294967281) (hm : w.cell? ⟨0, 0, none⟩ = some (.int .i64 m)) :
    Calls Tryz.prog 47 #[.string s, .string t] w fun e w' => e = .returned (.bool (hasP s.data.toList t.data.toList)) ∧ Below w.heap.size w w' := by
  have hw0 : 0 < w.heap.size := World.block_lt_of_cell? w _ hm
  have Hm := Lib.hid hm
  clear hm
  go_enter Tryz.func47, Tryz.ntmps47
  go_wp2_with fail
  refine (upper_any s _ (by omega)).mono ?_
  rintro e w1 ⟨rfl, hb1⟩
  go_wp2_with fail
  refine (upper_any t _ (by omega)).mono ?_
  rintro e w2 ⟨rfl, hb2⟩
  have hb : Below w.heap.size w w2 := hb1.trans (hb2.mono hb1.size)
  go_wp2_with fail
  refine (Tryz.strings_Contains _ _ m _ (by rw [← size_list]; show (upP s.data.toList).length < _; rw [upP_length, size_list]; exact hs) ((hb.cell hw0).trans Hm.out)).mono ?_
  rintro e w3 ⟨rfl, rfl⟩
  go_wp2
  go_ret
  exact ⟨rfl, hb⟩
end Go.Proofs.YtkgngahmpafdhaaGreatDoor.PT

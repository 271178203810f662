/- The walk of LmtpReset: whatever a state is, the answer is true. Conditions: the cell of the library's MaxLen holds some int, the state's list reads as it is told, lengths. -/
import Derived.Test.YtnckfgihbimacaaLmtpElse
import Derived.Test.YtnckfgihbimacaaReg
import Derived.Deep.Cut
namespace Go.Proofs.Ytnckfgihbimacaa.LM
open Go.RowKit Mailsack MM

theorem reset_0 (h f l : Bool) (fr bo : Bs) (to : List Bs) : lineP ⟨h, f, false, l, fr, bo, to⟩ (⟨#[82, 83, 69, 84]⟩ : ByteArray).data.toList [] = (⟨h, false, false, false, [], [], []⟩, rFine) := by kernel_rfl
theorem reset_1 (h f l : Bool) (fr bo : Bs) (to : List Bs) : lineP ⟨h, f, false, l, fr, bo, to⟩ (⟨#[110, 111, 111, 112]⟩ : ByteArray).data.toList [] = (⟨h, f, false, l, fr, bo, to⟩, rFine) := by kernel_rfl
theorem reset_2 (h f l : Bool) (fr bo : Bs) (to : List Bs) : lineP ⟨h, f, false, l, fr, bo, to⟩ (⟨#[76, 72, 76, 79, 32, 109, 101]⟩ : ByteArray).data.toList [] = (⟨true, false, false, false, [], [], []⟩, rHello) := by kernel_rfl

theorem bel_step {w0 w w' : World} (hb : Below w.heap.size w w') (h : Hid (Below w0.heap.size w0 w)) : Below w0.heap.size w0 w' := h.out.trans (hb.mono h.out.size)
theorem bel_drew {B : Nat} {w0 w : World} (h : Hid (Below B w0 w)) : Below B w0 w.drew := h.out.drew
set_option maxHeartbeats 2000000 in
theorem reset_any (s : LSt) (A : Option Addr) (c : Nat) (m : Int) (w : World) (hm : w.cell? ⟨0, 0, none⟩ = some (.int .i64 m)) (hr : RdS w w.heap.size (.slice A s.to.length c) s.to) (h1 : s.to.length ≤ 9223372036854775807) (h2 : s.body.length ≤ 9223372036854775807) (h3 : s.frm.length ≤ 9223372036854775807) :
    Calls Try.prog 4 #[stV s (.slice A s.to.length c)] w fun e w' => e = .returned (.bool true) ∧ Below w.heap.size w w' := by
  have hw0 : 0 < w.heap.size := World.block_lt_of_cell? w _ hm
  have Hm := Lib.hid hm
  have Hr := Lib.hid hr
  clear hm hr
  by_cases hS : smallP s = true ∧ s.data = false
  · obtain ⟨hs, hd⟩ := hS
    obtain ⟨h, f, d, l, fr, bo, to⟩ := s
    simp only at hd h1 h2 h3 Hr
    subst hd
    have hl : to.length ≤ 10 ∧ bo.length ≤ 2000 ∧ fr.length ≤ 600 := by simpa [smallP, Bool.and_eq_true] using hs
    obtain ⟨l1, l2, l3⟩ := hl
    have Hs := Lib.hid hs
    clear hs
    go_enter Try.func4, Try.ntmps4
    go_wp2_with fail
    refine (small_any ⟨h, f, false, l, fr, bo, to⟩ A c _ h1 h2 h3).mono ?_
    rw [Hs.out]
    rintro e w1 ⟨rfl, hb1⟩
    have p0 := Lib.hid (blk_below (blk_new w (.cells #[.bool h, .bool f, .bool false, .bool l, strV fr, strV bo, .slice A to.length c] 25)) hb1 (by simp))
    have hB := ((Below.refl w.heap.size w).alloc (Nat.le_refl _) (.cells #[.bool h, .bool f, .bool false, .bool l, strV fr, strV bo, .slice A to.length c] 25)).trans (hb1.mono (by simp))
    replace Hr := Lib.hid (Hr.out.below hB (Nat.le_refl _))
    clear hb1 h1 h2 h3
    have k0 : w1.cell? ⟨w.heap.size, 0, none⟩ = some (.bool h) := cell_blk p0.out 0
    have k1 : w1.cell? ⟨w.heap.size, 1, none⟩ = some (.bool f) := cell_blk p0.out 1
    have k2 : w1.cell? ⟨w.heap.size, 2, none⟩ = some (.bool false) := cell_blk p0.out 2
    have k3 : w1.cell? ⟨w.heap.size, 3, none⟩ = some (.bool l) := cell_blk p0.out 3
    have k4 : w1.cell? ⟨w.heap.size, 4, none⟩ = some (strV fr) := cell_blk p0.out 4
    have k5 : w1.cell? ⟨w.heap.size, 5, none⟩ = some (strV bo) := cell_blk p0.out 5
    have k6 : w1.cell? ⟨w.heap.size, 6, none⟩ = some (.slice A to.length c) := cell_blk p0.out 6
    go_upto_region 3 with fail
    have hmx : w1.cell? ⟨0, 0, none⟩ = some (.int .i64 m) := (hB.cell hw0).trans Hm.out
    go_wp2_with fail
    refine (line_any ⟨h, f, false, l, fr, bo, to⟩ (.slice A to.length c) ⟨#[82, 83, 69, 84]⟩ (.slice none 0 0) [] m _ (Hr.out.more hB.size) (rds_none _ _) hmx (by show to.length ≤ _; omega) (by show bo.length ≤ _; omega) (by decide) (by decide)).mono ?_
    rw [reset_0]
    rintro e w2 ⟨tv, rfl, ho, hb1⟩
    obtain ⟨A1, c1, e1, _⟩ := ho.form
    subst e1
    clear k0 k1 k2 k3 k4 k5 k6
    have hA := hb1.alloc hb1.size (.cells #[.bool h, .bool false, .bool false, .bool false, strV [], strV [], .slice A1 0 c1] 25)
    replace p0 := Lib.hid (blk_below p0.out hA (blk_lt p0.out))
    have p1 := Lib.hid (blk_new w2 (.cells #[.bool h, .bool false, .bool false, .bool false, strV [], strV [], .slice A1 0 c1] 25))
    replace Hr := Lib.hid (Hr.out.below hA hB.size)
    replace hB := hB.trans (hA.mono hB.size)
    go_upto_region 4 with fail
    generalize w2.alloc (.cells #[.bool h, .bool false, .bool false, .bool false, strV [], strV [], .slice A1 0 c1] 25) = w2' at *
    generalize w2.heap.size = B1 at *
    clear hA ho hb1 hmx
    clear w2
    have k0 : w2'.cell? ⟨w.heap.size, 0, none⟩ = some (.bool h) := cell_blk p0.out 0
    have k1 : w2'.cell? ⟨w.heap.size, 1, none⟩ = some (.bool f) := cell_blk p0.out 1
    have k2 : w2'.cell? ⟨w.heap.size, 2, none⟩ = some (.bool false) := cell_blk p0.out 2
    have k3 : w2'.cell? ⟨w.heap.size, 3, none⟩ = some (.bool l) := cell_blk p0.out 3
    have k4 : w2'.cell? ⟨w.heap.size, 4, none⟩ = some (strV fr) := cell_blk p0.out 4
    have k5 : w2'.cell? ⟨w.heap.size, 5, none⟩ = some (strV bo) := cell_blk p0.out 5
    have k6 : w2'.cell? ⟨w.heap.size, 6, none⟩ = some (.slice A to.length c) := cell_blk p0.out 6
    have hmx : w2'.cell? ⟨0, 0, none⟩ = some (.int .i64 m) := (hB.cell hw0).trans Hm.out
    go_wp2_with fail
    refine (line_any ⟨h, f, false, l, fr, bo, to⟩ (.slice A to.length c) ⟨#[110, 111, 111, 112]⟩ (.slice none 0 0) [] m _ (Hr.out.more hB.size) (rds_none _ _) hmx (by show to.length ≤ _; omega) (by show bo.length ≤ _; omega) (by decide) (by decide)).mono ?_
    rw [reset_1]
    rintro e w3 ⟨tv, rfl, ho, hb1⟩
    obtain ⟨A2, c2, e1, _⟩ := ho.form
    subst e1
    clear k0 k1 k2 k3 k4 k5 k6
    have hA := hb1.alloc hb1.size (.cells #[.bool h, .bool f, .bool false, .bool l, strV fr, strV bo, .slice A2 to.length c2] 25)
    replace p0 := Lib.hid (blk_below p0.out hA (blk_lt p0.out))
    replace p1 := Lib.hid (blk_below p1.out hA (blk_lt p1.out))
    have p2 := Lib.hid (blk_new w3 (.cells #[.bool h, .bool f, .bool false, .bool l, strV fr, strV bo, .slice A2 to.length c2] 25))
    replace Hr := Lib.hid (Hr.out.below hA hB.size)
    replace hB := hB.trans (hA.mono hB.size)
    have Ho2 := Lib.hid ((ho.rd).below ((Below.refl _ _).alloc (Nat.le_refl _) (.cells #[.bool h, .bool f, .bool false, .bool l, strV fr, strV bo, .slice A2 to.length c2] 25)) (Nat.le_refl _))
    go_upto_region 5 with fail
    generalize w3.alloc (.cells #[.bool h, .bool f, .bool false, .bool l, strV fr, strV bo, .slice A2 to.length c2] 25) = w3' at *
    generalize w3.heap.size = B2 at *
    clear hA ho hb1 hmx
    clear w3
    have k0 : w3'.cell? ⟨w.heap.size, 0, none⟩ = some (.bool h) := cell_blk p0.out 0
    have k1 : w3'.cell? ⟨w.heap.size, 1, none⟩ = some (.bool f) := cell_blk p0.out 1
    have k2 : w3'.cell? ⟨w.heap.size, 2, none⟩ = some (.bool false) := cell_blk p0.out 2
    have k3 : w3'.cell? ⟨w.heap.size, 3, none⟩ = some (.bool l) := cell_blk p0.out 3
    have k4 : w3'.cell? ⟨w.heap.size, 4, none⟩ = some (strV fr) := cell_blk p0.out 4
    have k5 : w3'.cell? ⟨w.heap.size, 5, none⟩ = some (strV bo) := cell_blk p0.out 5
    have k6 : w3'.cell? ⟨w.heap.size, 6, none⟩ = some (.slice A to.length c) := cell_blk p0.out 6
    have hmx : w3'.cell? ⟨0, 0, none⟩ = some (.int .i64 m) := (hB.cell hw0).trans Hm.out
    go_wp2_with fail
    refine (line_any ⟨h, f, false, l, fr, bo, to⟩ (.slice A to.length c) ⟨#[76, 72, 76, 79, 32, 109, 101]⟩ (.slice none 0 0) [] m _ (Hr.out.more hB.size) (rds_none _ _) hmx (by show to.length ≤ _; omega) (by show bo.length ≤ _; omega) (by decide) (by decide)).mono ?_
    rw [reset_2]
    rintro e w4 ⟨tv, rfl, ho, hb1⟩
    obtain ⟨A3, c3, e1, _⟩ := ho.form
    subst e1
    clear k0 k1 k2 k3 k4 k5 k6
    have hlt2 := blk_lt p2.out
    have hA := hb1.alloc hb1.size (.cells #[.bool true, .bool false, .bool false, .bool false, strV [], strV [], .slice A3 0 c3] 25)
    replace p0 := Lib.hid (blk_below p0.out hA (blk_lt p0.out))
    replace p1 := Lib.hid (blk_below p1.out hA (blk_lt p1.out))
    replace p2 := Lib.hid (blk_below p2.out hA (blk_lt p2.out))
    have p3 := Lib.hid (blk_new w4 (.cells #[.bool true, .bool false, .bool false, .bool false, strV [], strV [], .slice A3 0 c3] 25))
    replace Hr := Lib.hid (Hr.out.below hA hB.size)
    replace hB := hB.trans (hA.mono hB.size)
    replace Ho2 := Lib.hid (Ho2.out.below hA (Nat.le_of_lt hlt2))
    go_upto_region 6 with fail
    generalize w4.alloc (.cells #[.bool true, .bool false, .bool false, .bool false, strV [], strV [], .slice A3 0 c3] 25) = w4' at *
    generalize w4.heap.size = B3 at *
    clear hA ho hb1 hmx
    clear w4
    have hmx : w4'.cell? ⟨0, 0, none⟩ = some (.int .i64 m) := (hB.cell hw0).trans Hm.out
    replace Hr := Lib.hid (Hr.out.more hB.size)
    replace Ho2 := Lib.hid (Ho2.out.more (Nat.le_of_lt (blk_lt p2.out)))
    have z1 : strV rFine = .string ⟨#[50, 53, 48, 32, 111, 107]⟩ := rfl
    have z2 : strV rHello = .string ⟨#[50, 53, 48, 32, 109, 97, 105, 108, 115, 97, 99, 107]⟩ := rfl
    rw [z1, z2]
    have hmx' := Lib.hid hmx
    have HB := Lib.hid hB
    clear z1 z2 Hs l2 l3 Hm hlt2 hmx hB
    try clear w1
    try clear w3'
    try clear w2'
    refine RG.wp_region_det (fun w' => Below w4'.heap.size w4' w') (by kernel_rfl) (by kernel_rfl) ((Below.refl _ _).drew) ?_
    apply RG.wpDet_cons
    · intro w9 hw9
      go_wp2_with fail
      with_reducible refine RG.only_mk ?_
      exact hw9
    · rfl
    apply RG.wpDet_cons
    · intro w9 hw9
      go_wp2_with fail
      with_reducible refine RG.only_mk ?_
      exact hw9
    · rfl
    apply RG.wpDet_cons
    · intro w9 hw9
      go_wp2_with fail
      with_reducible refine RG.only_mk ?_
      exact hw9
    · rfl
    apply RG.wpDet_cons
    · intro w9 hw9
      have p9 := blk_below p1.out hw9 (blk_lt p1.out)
      have k0 : w9.cell? ⟨B1, 0, none⟩ = some (.bool h) := cell_blk p9 0
      have k1 : w9.cell? ⟨B1, 1, none⟩ = some (.bool false) := cell_blk p9 1
      have k2 : w9.cell? ⟨B1, 2, none⟩ = some (.bool false) := cell_blk p9 2
      have k3 : w9.cell? ⟨B1, 3, none⟩ = some (.bool false) := cell_blk p9 3
      have k4 : w9.cell? ⟨B1, 4, none⟩ = some (strV []) := cell_blk p9 4
      have k5 : w9.cell? ⟨B1, 5, none⟩ = some (strV []) := cell_blk p9 5
      have k6 : w9.cell? ⟨B1, 6, none⟩ = some (.slice A1 0 c1) := cell_blk p9 6
      clear p9
      go_wp2_with fail
      with_reducible refine RG.only_mk ?_
      exact hw9
    · rfl
    apply RG.wpDet_cons
    · intro w9 hw9
      go_wp2_with (go_at_call 12; refine (ref_any _ _ _ _ _ _ _ _ _ _).mono ?_; rintro e w8 ⟨rfl, hb8⟩)
      with_reducible refine RG.only_mk ?_
      exact hw9.trans (hb8.mono hw9.size)
    · rfl
    apply RG.wpDet_cons
    · intro w9 hw9
      go_wp2_with fail
      with_reducible refine RG.only_mk ?_
      exact hw9
    · rfl
    apply RG.wpDet_cons
    · intro w9 hw9
      have p9 := blk_below p0.out hw9 (blk_lt p0.out)
      have k0 : w9.cell? ⟨w.heap.size, 0, none⟩ = some (.bool h) := cell_blk p9 0
      have k1 : w9.cell? ⟨w.heap.size, 1, none⟩ = some (.bool f) := cell_blk p9 1
      have k2 : w9.cell? ⟨w.heap.size, 2, none⟩ = some (.bool false) := cell_blk p9 2
      have k3 : w9.cell? ⟨w.heap.size, 3, none⟩ = some (.bool l) := cell_blk p9 3
      have k4 : w9.cell? ⟨w.heap.size, 4, none⟩ = some (strV fr) := cell_blk p9 4
      have k5 : w9.cell? ⟨w.heap.size, 5, none⟩ = some (strV bo) := cell_blk p9 5
      have k6 : w9.cell? ⟨w.heap.size, 6, none⟩ = some (.slice A to.length c) := cell_blk p9 6
      clear p9
      go_wp2_with fail
      with_reducible refine RG.only_mk ?_
      exact hw9
    · rfl
    apply RG.wpDet_cons
    · intro w9 hw9
      go_wp2_with fail
      with_reducible refine RG.only_mk ?_
      exact hw9
    · rfl
    apply RG.wpDet_cons
    · intro w9 hw9
      go_wp2_with (go_at_call 11; refine (equal_zero _ _ _ _ _ _ _ _ _ _ _).mono ?_; rintro e w8 ⟨rfl, hb8⟩)
      with_reducible refine RG.only_mk ?_
      exact hw9.trans (hb8.mono hw9.size)
    · rfl
    apply RG.wpDet_cons
    · intro w9 hw9
      go_wp2_with fail
      with_reducible refine RG.only_mk ?_
      exact hw9
    · rfl
    apply RG.wpDet_cons
    · intro w9 hw9
      go_wp2_with fail
      with_reducible refine RG.only_mk ?_
      exact hw9
    · rfl
    apply RG.wpDet_cons
    · intro w9 hw9
      go_wp2_with fail
      with_reducible refine RG.only_mk ?_
      exact hw9
    · rfl
    apply RG.wpDet_cons
    · intro w9 hw9
      go_wp2_with fail
      with_reducible refine RG.only_mk ?_
      exact hw9
    · rfl
    apply RG.wpDet_cons
    · intro w9 hw9
      go_wp2_with fail
      with_reducible refine RG.only_mk ?_
      exact hw9
    · rfl
    apply RG.wpDet_cons
    · intro w9 hw9
      go_wp2_with fail
      with_reducible refine RG.only_mk ?_
      exact hw9
    · rfl
    apply RG.wpDet_cons
    · intro w9 hw9
      have p9 := blk_below p2.out hw9 (blk_lt p2.out)
      have k0 : w9.cell? ⟨B2, 0, none⟩ = some (.bool h) := cell_blk p9 0
      have k1 : w9.cell? ⟨B2, 1, none⟩ = some (.bool f) := cell_blk p9 1
      have k2 : w9.cell? ⟨B2, 2, none⟩ = some (.bool false) := cell_blk p9 2
      have k3 : w9.cell? ⟨B2, 3, none⟩ = some (.bool l) := cell_blk p9 3
      have k4 : w9.cell? ⟨B2, 4, none⟩ = some (strV fr) := cell_blk p9 4
      have k5 : w9.cell? ⟨B2, 5, none⟩ = some (strV bo) := cell_blk p9 5
      have k6 : w9.cell? ⟨B2, 6, none⟩ = some (.slice A2 to.length c2) := cell_blk p9 6
      clear p9
      go_wp2_with fail
      with_reducible refine RG.only_mk ?_
      exact hw9
    · rfl
    apply RG.wpDet_cons
    · intro w9 hw9
      go_wp2_with (go_at_call 12; refine (ref_any _ _ _ _ _ _ _ _ _ _).mono ?_; rintro e w8 ⟨rfl, hb8⟩)
      with_reducible refine RG.only_mk ?_
      exact hw9.trans (hb8.mono hw9.size)
    · rfl
    apply RG.wpDet_cons
    · intro w9 hw9
      have p9 := blk_below p0.out hw9 (blk_lt p0.out)
      have k0 : w9.cell? ⟨w.heap.size, 0, none⟩ = some (.bool h) := cell_blk p9 0
      have k1 : w9.cell? ⟨w.heap.size, 1, none⟩ = some (.bool f) := cell_blk p9 1
      have k2 : w9.cell? ⟨w.heap.size, 2, none⟩ = some (.bool false) := cell_blk p9 2
      have k3 : w9.cell? ⟨w.heap.size, 3, none⟩ = some (.bool l) := cell_blk p9 3
      have k4 : w9.cell? ⟨w.heap.size, 4, none⟩ = some (strV fr) := cell_blk p9 4
      have k5 : w9.cell? ⟨w.heap.size, 5, none⟩ = some (strV bo) := cell_blk p9 5
      have k6 : w9.cell? ⟨w.heap.size, 6, none⟩ = some (.slice A to.length c) := cell_blk p9 6
      clear p9
      go_wp2_with fail
      with_reducible refine RG.only_mk ?_
      exact hw9
    · rfl
    apply RG.wpDet_cons
    · intro w9 hw9
      go_wp2_with (go_at_call 12; refine (ref_any _ _ _ _ _ _ _ _ _ _).mono ?_; rintro e w8 ⟨rfl, hb8⟩)
      with_reducible refine RG.only_mk ?_
      exact hw9.trans (hb8.mono hw9.size)
    · rfl
    apply RG.wpDet_cons
    · intro w9 hw9
      go_wp2_with (go_at_call 11; refine (equal_same _ _ _ _ _ _ _ _ _ _ w4'.heap.size to _ (Ho2.out.below hw9 (Nat.le_refl _)) (Hr.out.below hw9 (Nat.le_refl _)) (Below.size hw9) (by omega)).mono ?_; rintro e w8 ⟨rfl, hb8⟩)
      with_reducible refine RG.only_mk ?_
      exact hw9.trans (hb8.mono hw9.size)
    · rfl
    apply RG.wpDet_cons
    · intro w9 hw9
      go_wp2_with fail
      with_reducible refine RG.only_mk ?_
      exact hw9
    · rfl
    apply RG.wpDet_cons
    · intro w9 hw9
      go_wp2_with fail
      with_reducible refine RG.only_mk ?_
      exact hw9
    · rfl
    apply RG.wpDet_cons
    · intro w9 hw9
      go_wp2_with fail
      with_reducible refine RG.only_mk ?_
      exact hw9
    · rfl
    apply RG.wpDet_cons
    · intro w9 hw9
      go_wp2_with fail
      with_reducible refine RG.only_mk ?_
      exact hw9
    · rfl
    apply RG.wpDet_cons
    · intro w9 hw9
      go_wp2_with fail
      with_reducible refine RG.only_mk ?_
      exact hw9
    · rfl
    apply RG.wpDet_cons
    · intro w9 hw9
      go_wp2_with fail
      with_reducible refine RG.only_mk ?_
      exact hw9
    · rfl
    apply RG.wpDet_cons
    · intro w9 hw9
      have p9 := blk_below p3.out hw9 (blk_lt p3.out)
      have k0 : w9.cell? ⟨B3, 0, none⟩ = some (.bool true) := cell_blk p9 0
      have k1 : w9.cell? ⟨B3, 1, none⟩ = some (.bool false) := cell_blk p9 1
      have k2 : w9.cell? ⟨B3, 2, none⟩ = some (.bool false) := cell_blk p9 2
      have k3 : w9.cell? ⟨B3, 3, none⟩ = some (.bool false) := cell_blk p9 3
      have k4 : w9.cell? ⟨B3, 4, none⟩ = some (strV []) := cell_blk p9 4
      have k5 : w9.cell? ⟨B3, 5, none⟩ = some (strV []) := cell_blk p9 5
      have k6 : w9.cell? ⟨B3, 6, none⟩ = some (.slice A3 0 c3) := cell_blk p9 6
      clear p9
      go_wp2_with fail
      with_reducible refine RG.only_mk ?_
      exact hw9
    · rfl
    apply RG.wpDet_cons
    · intro w9 hw9
      go_wp2_with (go_at_call 12; refine (ref_any _ _ _ _ _ _ _ _ _ _).mono ?_; rintro e w8 ⟨rfl, hb8⟩)
      with_reducible refine RG.only_mk ?_
      exact hw9.trans (hb8.mono hw9.size)
    · rfl
    apply RG.wpDet_cons
    · intro w9 hw9
      go_wp2_with fail
      with_reducible refine RG.only_mk ?_
      exact hw9
    · rfl
    apply RG.wpDet_cons
    · intro w9 hw9
      go_wp2_with (go_at_call 11; refine (equal_zero _ _ _ _ _ _ _ _ _ _ _).mono ?_; rintro e w8 ⟨rfl, hb8⟩)
      with_reducible refine RG.only_mk ?_
      exact hw9.trans (hb8.mono hw9.size)
    · rfl
    apply RG.wpDet_cons
    · intro w9 hw9
      go_wp2_with fail
      with_reducible refine RG.only_mk ?_
      exact hw9
    · rfl
    apply RG.wpDet_cons
    · intro w9 hw9
      go_wp2_with fail
      with_reducible refine RG.only_mk ?_
      exact hw9
    · rfl
    apply RG.wpDet_cons
    · intro w9 hw9
      go_wp2_with (go_at_call 6; refine (awake_any m _ ((hw9.cell (Nat.lt_of_lt_of_le hw0 HB.out.size)).trans hmx'.out)).mono ?_; rintro e w8 ⟨rfl, hb8⟩)
      with_reducible refine RG.only_mk ?_
      exact hw9.trans (hb8.mono hw9.size)
    · rfl
    apply RG.wpDet_cons
    · intro w9 hw9
      go_wp2_with fail
      with_reducible refine RG.only_mk ?_
      exact hw9
    · rfl
    apply RG.wpDet_cons
    · intro w9 hw9
      go_wp2_with fail
      with_reducible refine RG.only_mk ?_
      exact hw9
    · rfl
    refine RG.wpDet_nil (fun w9 hw9 => ?_)
    go_wp2
    go_ret
    exact ⟨rfl, HB.out.trans (hw9.mono HB.out.size)⟩
  · exact reset_else s A c m w Hm.out h1 h2 h3 hS
end Go.Proofs.Ytnckfgihbimacaa.LM

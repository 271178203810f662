/- The walk of LmtpSame: whatever a state and a number are, the answer is true. Conditions: the cell of the library's MaxLen holds some int, the state's list reads as it is told, lengths. -/
import Derived.Test.YtnckfgihbimacaaLmtpElse
import Derived.Test.YtnckfgihbimacaaReg
import Derived.Test.YtnckfgihbimacaaLmtpLaws
import Derived.Deep.Cut
namespace Go.Proofs.Ytnckfgihbimacaa.LM
open Go.RowKit Mailsack MM

theorem same_eq0 (h f l : Bool) (fr bo : Bs) (to : List Bs) : lineP ⟨h, f, false, l, fr, bo, to⟩ (⟨#[76, 72, 76, 79, 32, 88]⟩ : ByteArray).data.toList [[97]] = lineP ⟨h, f, false, l, fr, bo, to⟩ (⟨#[108, 104, 108, 111, 32, 88]⟩ : ByteArray).data.toList [[97]] := by kernel_rfl
theorem same_eq1 (h f l : Bool) (fr bo : Bs) (to : List Bs) : lineP ⟨h, f, false, l, fr, bo, to⟩ (⟨#[77, 65, 73, 76, 32, 70, 82, 79, 77, 58, 60, 62]⟩ : ByteArray).data.toList [[97]] = lineP ⟨h, f, false, l, fr, bo, to⟩ (⟨#[109, 97, 105, 108, 32, 102, 114, 111, 109, 58, 60, 62]⟩ : ByteArray).data.toList [[97]] := by kernel_rfl
theorem same_eq2 (h f l : Bool) (fr bo : Bs) (to : List Bs) : lineP ⟨h, f, false, l, fr, bo, to⟩ (⟨#[68, 65, 84, 65]⟩ : ByteArray).data.toList [[97]] = lineP ⟨h, f, false, l, fr, bo, to⟩ (⟨#[100, 97, 116, 97]⟩ : ByteArray).data.toList [[97]] := by kernel_rfl
theorem same_eq3 (h f l : Bool) (fr bo : Bs) (to : List Bs) : lineP ⟨h, f, false, l, fr, bo, to⟩ (⟨#[82, 83, 69, 84]⟩ : ByteArray).data.toList [[97]] = lineP ⟨h, f, false, l, fr, bo, to⟩ (⟨#[114, 115, 101, 116]⟩ : ByteArray).data.toList [[97]] := by kernel_rfl
theorem same_eq4 (h f l : Bool) (fr bo : Bs) (to : List Bs) : lineP ⟨h, f, false, l, fr, bo, to⟩ (⟨#[78, 79, 79, 80]⟩ : ByteArray).data.toList [[97]] = lineP ⟨h, f, false, l, fr, bo, to⟩ (⟨#[110, 111, 111, 112]⟩ : ByteArray).data.toList [[97]] := by kernel_rfl
theorem same_eq5 (h f l : Bool) (fr bo : Bs) (to : List Bs) : lineP ⟨h, f, false, l, fr, bo, to⟩ (⟨#[81, 85, 73, 84]⟩ : ByteArray).data.toList [[97]] = lineP ⟨h, f, false, l, fr, bo, to⟩ (⟨#[113, 117, 105, 116]⟩ : ByteArray).data.toList [[97]] := by kernel_rfl
theorem same_eq6 (h f l : Bool) (fr bo : Bs) (to : List Bs) : lineP ⟨h, f, false, l, fr, bo, to⟩ (⟨#[87, 72, 65, 84]⟩ : ByteArray).data.toList [[97]] = lineP ⟨h, f, false, l, fr, bo, to⟩ (⟨#[119, 104, 97, 116]⟩ : ByteArray).data.toList [[97]] := by kernel_rfl
theorem same_eq7 (h f l : Bool) (fr bo : Bs) (to : List Bs) : lineP ⟨h, f, false, l, fr, bo, to⟩ (⟨#[82, 67, 80, 84, 32, 84, 79, 58, 60, 97, 62]⟩ : ByteArray).data.toList [[97]] = lineP ⟨h, f, false, l, fr, bo, to⟩ (⟨#[114, 99, 112, 116, 32, 116, 111, 58, 60, 97, 62]⟩ : ByteArray).data.toList [[97]] := by kernel_rfl
theorem rds_single (w : World) (x : Bs) (t : TypeId) : RdS (w.alloc (.cells #[strV x] t)) (w.alloc (.cells #[strV x] t)).heap.size (.slice (some ⟨w.heap.size, 0, none⟩) 1 1) [x] := by
  refine ⟨_, 1, rfl, Nat.le_refl _, fun _ => ⟨w.heap.size, 0, rfl, by simp, fun j y hj => ?_⟩⟩
  rw [cell_blk (blk_new w _)]
  match j, hj with
  | 0, hj => simp at hj; subst hj; rfl
set_option maxHeartbeats 4000000 in
theorem same_0 (n : Int) (hn0 : 0 ≤ n) (hn1 : n ≤ 255) (hk : n % 8 = 0) (h f l : Bool) (fr bo : Bs) (to : List Bs) (A : Option Addr) (c : Nat) (m : Int) (w : World) (hm : w.cell? ⟨0, 0, none⟩ = some (.int .i64 m)) (hr : RdS w w.heap.size (.slice A to.length c) to) (hs : smallP ⟨h, f, false, l, fr, bo, to⟩ = true) :
    Calls Try.prog 5 #[stV ⟨h, f, false, l, fr, bo, to⟩ (.slice A to.length c), .int .u8 n] w fun e w' => e = .returned (.bool true) ∧ Below w.heap.size w w' := by
  have hw0 : 0 < w.heap.size := World.block_lt_of_cell? w _ hm
  have Hm := Lib.hid hm
  have Hr := Lib.hid hr
  clear hm hr
  have hl : to.length ≤ 10 ∧ bo.length ≤ 2000 ∧ fr.length ≤ 600 := by simpa [smallP, Bool.and_eq_true] using hs
  obtain ⟨l1, l2, l3⟩ := hl
  have Hs := Lib.hid hs
  clear hs
  have ht := line_to ⟨h, f, false, l, fr, bo, to⟩ (⟨#[108, 104, 108, 111, 32, 88]⟩ : ByteArray).data.toList [[97]] rfl
  have hne := line_reply ⟨h, f, false, l, fr, bo, to⟩ (⟨#[108, 104, 108, 111, 32, 88]⟩ : ByteArray).data.toList [[97]] rfl
  have E2 := same_eq0 h f l fr bo to
  generalize hE : lineP ⟨h, f, false, l, fr, bo, to⟩ (⟨#[108, 104, 108, 111, 32, 88]⟩ : ByteArray).data.toList [[97]] = q at ht hne E2
  obtain ⟨⟨h', f', d', l', fr', bo', to'⟩, r⟩ := q
  have E1 := Lib.hid hE
  replace E2 := Lib.hid E2
  simp only at ht hne
  have hn1' : r.isEmpty = false := by cases r with | nil => exact absurd rfl hne | cons _ _ => rfl
  clear hE
  go_enter Try.func5, Try.ntmps5
  go_wp2_with fail
  refine (small_any ⟨h, f, false, l, fr, bo, to⟩ A c _ (by show to.length ≤ _; omega) (by show bo.length ≤ _; omega) (by show fr.length ≤ _; omega)).mono ?_
  rw [Hs.out]
  rintro e w1 ⟨rfl, hb1⟩
  have p0 := Lib.hid (blk_below (blk_new w (.cells #[.bool h, .bool f, .bool false, .bool l, strV fr, strV bo, .slice A to.length c] 25)) hb1 (by simp))
  have hB := ((Below.refl w.heap.size w).alloc (Nat.le_refl _) (.cells #[.bool h, .bool f, .bool false, .bool l, strV fr, strV bo, .slice A to.length c] 25)).trans (hb1.mono (by simp))
  replace Hr := Lib.hid (Hr.out.below hB (Nat.le_refl _))
  clear hb1
  have k0 : w1.cell? ⟨w.heap.size, 0, none⟩ = some (.bool h) := cell_blk p0.out 0
  have k1 : w1.cell? ⟨w.heap.size, 1, none⟩ = some (.bool f) := cell_blk p0.out 1
  have k2 : w1.cell? ⟨w.heap.size, 2, none⟩ = some (.bool false) := cell_blk p0.out 2
  have k3 : w1.cell? ⟨w.heap.size, 3, none⟩ = some (.bool l) := cell_blk p0.out 3
  have k4 : w1.cell? ⟨w.heap.size, 4, none⟩ = some (strV fr) := cell_blk p0.out 4
  have k5 : w1.cell? ⟨w.heap.size, 5, none⟩ = some (strV bo) := cell_blk p0.out 5
  have k6 : w1.cell? ⟨w.heap.size, 6, none⟩ = some (.slice A to.length c) := cell_blk p0.out 6
  go_upto_region 4 with fail
  clear k0 k1 k2 k3 k4 k5 k6
  have hA := ((Below.refl w1.heap.size w1).alloc (Nat.le_refl _) (.cells #[Value.string ⟨#[108, 104, 108, 111, 32, 88]⟩, Value.string ⟨#[76, 72, 76, 79, 32, 88]⟩, Value.string ⟨#[109, 97, 105, 108, 32, 102, 114, 111, 109, 58, 60, 62]⟩, Value.string ⟨#[77, 65, 73, 76, 32, 70, 82, 79, 77, 58, 60, 62]⟩, Value.string ⟨#[100, 97, 116, 97]⟩, Value.string ⟨#[68, 65, 84, 65]⟩, Value.string ⟨#[114, 115, 101, 116]⟩, Value.string ⟨#[82, 83, 69, 84]⟩, Value.string ⟨#[110, 111, 111, 112]⟩, Value.string ⟨#[78, 79, 79, 80]⟩, Value.string ⟨#[113, 117, 105, 116]⟩, Value.string ⟨#[81, 85, 73, 84]⟩, Value.string ⟨#[119, 104, 97, 116]⟩, Value.string ⟨#[87, 72, 65, 84]⟩, Value.string ⟨#[114, 99, 112, 116, 32, 116, 111, 58, 60, 97, 62]⟩, Value.string ⟨#[82, 67, 80, 84, 32, 84, 79, 58, 60, 97, 62]⟩] 35)).alloc (by simp) (.cells #[Value.string ⟨#[108, 104, 108, 111, 32, 88]⟩, Value.string ⟨#[76, 72, 76, 79, 32, 88]⟩] 35)
  replace p0 := Lib.hid (blk_below p0.out hA (blk_lt p0.out))
  have py := Lib.hid (two_new w1 (.cells #[Value.string ⟨#[108, 104, 108, 111, 32, 88]⟩, Value.string ⟨#[76, 72, 76, 79, 32, 88]⟩, Value.string ⟨#[109, 97, 105, 108, 32, 102, 114, 111, 109, 58, 60, 62]⟩, Value.string ⟨#[77, 65, 73, 76, 32, 70, 82, 79, 77, 58, 60, 62]⟩, Value.string ⟨#[100, 97, 116, 97]⟩, Value.string ⟨#[68, 65, 84, 65]⟩, Value.string ⟨#[114, 115, 101, 116]⟩, Value.string ⟨#[82, 83, 69, 84]⟩, Value.string ⟨#[110, 111, 111, 112]⟩, Value.string ⟨#[78, 79, 79, 80]⟩, Value.string ⟨#[113, 117, 105, 116]⟩, Value.string ⟨#[81, 85, 73, 84]⟩, Value.string ⟨#[119, 104, 97, 116]⟩, Value.string ⟨#[87, 72, 65, 84]⟩, Value.string ⟨#[114, 99, 112, 116, 32, 116, 111, 58, 60, 97, 62]⟩, Value.string ⟨#[82, 67, 80, 84, 32, 84, 79, 58, 60, 97, 62]⟩] 35) (.cells #[Value.string ⟨#[108, 104, 108, 111, 32, 88]⟩, Value.string ⟨#[76, 72, 76, 79, 32, 88]⟩] 35))
  replace Hr := Lib.hid (Hr.out.below hA hB.size)
  replace hB := hB.trans (hA.mono hB.size)
  generalize (w1.alloc (.cells #[Value.string ⟨#[108, 104, 108, 111, 32, 88]⟩, Value.string ⟨#[76, 72, 76, 79, 32, 88]⟩, Value.string ⟨#[109, 97, 105, 108, 32, 102, 114, 111, 109, 58, 60, 62]⟩, Value.string ⟨#[77, 65, 73, 76, 32, 70, 82, 79, 77, 58, 60, 62]⟩, Value.string ⟨#[100, 97, 116, 97]⟩, Value.string ⟨#[68, 65, 84, 65]⟩, Value.string ⟨#[114, 115, 101, 116]⟩, Value.string ⟨#[82, 83, 69, 84]⟩, Value.string ⟨#[110, 111, 111, 112]⟩, Value.string ⟨#[78, 79, 79, 80]⟩, Value.string ⟨#[113, 117, 105, 116]⟩, Value.string ⟨#[81, 85, 73, 84]⟩, Value.string ⟨#[119, 104, 97, 116]⟩, Value.string ⟨#[87, 72, 65, 84]⟩, Value.string ⟨#[114, 99, 112, 116, 32, 116, 111, 58, 60, 97, 62]⟩, Value.string ⟨#[82, 67, 80, 84, 32, 84, 79, 58, 60, 97, 62]⟩] 35)).alloc (.cells #[Value.string ⟨#[108, 104, 108, 111, 32, 88]⟩, Value.string ⟨#[76, 72, 76, 79, 32, 88]⟩] 35) = w2 at *
  generalize w1.heap.size + 1 = By at *
  clear hA hk hn0 hn1 hne
  have k0 : w2.cell? ⟨w.heap.size, 0, none⟩ = some (.bool h) := cell_blk p0.out 0
  have k1 : w2.cell? ⟨w.heap.size, 1, none⟩ = some (.bool f) := cell_blk p0.out 1
  have k2 : w2.cell? ⟨w.heap.size, 2, none⟩ = some (.bool false) := cell_blk p0.out 2
  have k3 : w2.cell? ⟨w.heap.size, 3, none⟩ = some (.bool l) := cell_blk p0.out 3
  have k4 : w2.cell? ⟨w.heap.size, 4, none⟩ = some (strV fr) := cell_blk p0.out 4
  have k5 : w2.cell? ⟨w.heap.size, 5, none⟩ = some (strV bo) := cell_blk p0.out 5
  have k6 : w2.cell? ⟨w.heap.size, 6, none⟩ = some (.slice A to.length c) := cell_blk p0.out 6
  have y0 : w2.cell? ⟨By, 0, none⟩ = some (Value.string ⟨#[108, 104, 108, 111, 32, 88]⟩) := cell_blk py.out 0
  have y1 : w2.cell? ⟨By, 1, none⟩ = some (Value.string ⟨#[76, 72, 76, 79, 32, 88]⟩) := cell_blk py.out 1
  go_wp2_with fail
  have hU := (Below.refl w2.heap.size w2).alloc (Nat.le_refl _) (.cells #[strV [97]] 9)
  have hmx : (w2.alloc (.cells #[strV [97]] 9)).cell? ⟨0, 0, none⟩ = some (.int .i64 m) := ((hB.trans (hU.mono hB.size)).cell hw0).trans Hm.out
  refine (line_any ⟨h, f, false, l, fr, bo, to⟩ (.slice A to.length c) ⟨#[108, 104, 108, 111, 32, 88]⟩ (.slice (some ⟨w2.heap.size, 0, none⟩) 1 1) [[97]] m _ ((Hr.out.below hU hB.size).more (hB.trans (hU.mono hB.size)).size) (rds_single w2 [97] 9) hmx (by show to.length ≤ _; omega) (by show bo.length ≤ _; omega) (by decide) (by decide)).mono ?_
  rw [E1.out]
  rintro e w3 ⟨tv, rfl, ho, hb1⟩
  obtain ⟨A1, c1, e1, _⟩ := ho.form
  simp only at e1
  subst e1
  clear k0 k1 k2 k3 k4 k5 k6 y0 y1
  have hb2 : Below w2.heap.size w2 w3 := hU.trans (hb1.mono hU.size)
  have hA := hb2.alloc hb2.size (.cells #[.bool h', .bool f', .bool d', .bool l', strV fr', strV bo', .slice A1 to'.length c1] 25)
  replace p0 := Lib.hid (blk_below p0.out hA (blk_lt p0.out))
  replace py := Lib.hid (blk_below py.out hA (blk_lt py.out))
  have p1 := Lib.hid (blk_new w3 (.cells #[.bool h', .bool f', .bool d', .bool l', strV fr', strV bo', .slice A1 to'.length c1] 25))
  replace Hr := Lib.hid (Hr.out.below hA hB.size)
  replace hB := hB.trans (hA.mono hB.size)
  have Ho1 := Lib.hid ((ho.rd).below ((Below.refl _ _).alloc (Nat.le_refl _) (.cells #[.bool h', .bool f', .bool d', .bool l', strV fr', strV bo', .slice A1 to'.length c1] 25)) (Nat.le_refl _))
  go_upto_region 5 with fail
  generalize w3.alloc (.cells #[.bool h', .bool f', .bool d', .bool l', strV fr', strV bo', .slice A1 to'.length c1] 25) = w3' at *
  generalize w3.heap.size = B1 at *
  clear hA ho hb1 hb2 hmx hU
  have k0 : w3'.cell? ⟨w.heap.size, 0, none⟩ = some (.bool h) := cell_blk p0.out 0
  have k1 : w3'.cell? ⟨w.heap.size, 1, none⟩ = some (.bool f) := cell_blk p0.out 1
  have k2 : w3'.cell? ⟨w.heap.size, 2, none⟩ = some (.bool false) := cell_blk p0.out 2
  have k3 : w3'.cell? ⟨w.heap.size, 3, none⟩ = some (.bool l) := cell_blk p0.out 3
  have k4 : w3'.cell? ⟨w.heap.size, 4, none⟩ = some (strV fr) := cell_blk p0.out 4
  have k5 : w3'.cell? ⟨w.heap.size, 5, none⟩ = some (strV bo) := cell_blk p0.out 5
  have k6 : w3'.cell? ⟨w.heap.size, 6, none⟩ = some (.slice A to.length c) := cell_blk p0.out 6
  have y0 : w3'.cell? ⟨By, 0, none⟩ = some (Value.string ⟨#[108, 104, 108, 111, 32, 88]⟩) := cell_blk py.out 0
  have y1 : w3'.cell? ⟨By, 1, none⟩ = some (Value.string ⟨#[76, 72, 76, 79, 32, 88]⟩) := cell_blk py.out 1
  go_wp2_with fail
  have hU := (Below.refl w3'.heap.size w3').alloc (Nat.le_refl _) (.cells #[strV [97]] 9)
  have hmx : (w3'.alloc (.cells #[strV [97]] 9)).cell? ⟨0, 0, none⟩ = some (.int .i64 m) := ((hB.trans (hU.mono hB.size)).cell hw0).trans Hm.out
  refine (line_any ⟨h, f, false, l, fr, bo, to⟩ (.slice A to.length c) ⟨#[76, 72, 76, 79, 32, 88]⟩ (.slice (some ⟨w3'.heap.size, 0, none⟩) 1 1) [[97]] m _ ((Hr.out.below hU hB.size).more (hB.trans (hU.mono hB.size)).size) (rds_single w3' [97] 9) hmx (by show to.length ≤ _; omega) (by show bo.length ≤ _; omega) (by decide) (by decide)).mono ?_
  rw [E2.out]
  rintro e w4 ⟨tv, rfl, ho, hb1⟩
  obtain ⟨A2, c2, e1, _⟩ := ho.form
  simp only at e1
  subst e1
  clear k0 k1 k2 k3 k4 k5 k6 y0 y1
  have hb2 : Below w3'.heap.size w3' w4 := hU.trans (hb1.mono hU.size)
  have hA := hb2.alloc hb2.size (.cells #[.bool h', .bool f', .bool d', .bool l', strV fr', strV bo', .slice A2 to'.length c2] 25)
  have hlt1 := blk_lt p1.out
  replace p0 := Lib.hid (blk_below p0.out hA (blk_lt p0.out))
  replace py := Lib.hid (blk_below py.out hA (blk_lt py.out))
  replace p1 := Lib.hid (blk_below p1.out hA (blk_lt p1.out))
  have p2 := Lib.hid (blk_new w4 (.cells #[.bool h', .bool f', .bool d', .bool l', strV fr', strV bo', .slice A2 to'.length c2] 25))
  replace Hr := Lib.hid (Hr.out.below hA hB.size)
  replace Ho1 := Lib.hid (Ho1.out.below hA (Nat.le_of_lt hlt1))
  replace hB := hB.trans (hA.mono hB.size)
  have Ho2 := Lib.hid ((ho.rd).below ((Below.refl _ _).alloc (Nat.le_refl _) (.cells #[.bool h', .bool f', .bool d', .bool l', strV fr', strV bo', .slice A2 to'.length c2] 25)) (Nat.le_refl _))
  go_upto_region 6 with fail
  generalize w4.alloc (.cells #[.bool h', .bool f', .bool d', .bool l', strV fr', strV bo', .slice A2 to'.length c2] 25) = w4' at *
  generalize w4.heap.size = B2 at *
  clear hA ho hb1 hb2 hmx hU
  replace Ho2 := Lib.hid (Ho2.out.more (Nat.le_of_lt (blk_lt p2.out)))
  replace Ho1 := Lib.hid (Ho1.out.more (Nat.le_of_lt (blk_lt p1.out)))
  have hmx' := Lib.hid ((hB.cell hw0).trans Hm.out)
  have HB := Lib.hid hB
  clear hB Hm Hs Hr E1 E2 p0 py
  refine RG.wp_region_det (fun w' => Below w4'.heap.size w4' w') (by kernel_rfl) (by kernel_rfl) ((Below.refl _ _).drew) ?_
  apply RG.wpDet_cons
  · intro w9 hw9
    go_wp2_with fail
    with_reducible refine RG.only_mk ?_
    exact hw9
  · rfl
  apply RG.wpDet_cons
  · intro w9 hw9
    go_wp2_with fail
    with_reducible refine RG.only_mk ?_
    exact hw9
  · rfl
  apply RG.wpDet_cons
  · intro w9 hw9
    go_wp2_with fail
    with_reducible refine RG.only_mk ?_
    exact hw9
  · rfl
  apply RG.wpDet_cons
  · intro w9 hw9
    go_wp2_with fail
    with_reducible refine RG.only_mk ?_
    exact hw9
  · rfl
  apply RG.wpDet_cons
  · intro w9 hw9
    go_wp2_with fail
    with_reducible refine RG.only_mk ?_
    exact hw9
  · rfl
  apply RG.wpDet_cons
  · intro w9 hw9
    go_wp2_with fail
    with_reducible refine RG.only_mk ?_
    exact hw9
  · rfl
  apply RG.wpDet_cons
  · intro w9 hw9
    go_wp2_with fail
    with_reducible refine RG.only_mk ?_
    exact hw9
  · rfl
  apply RG.wpDet_cons
  · intro w9 hw9
    go_wp2_with fail
    with_reducible refine RG.only_mk ?_
    exact hw9
  · rfl
  apply RG.wpDet_cons
  · intro w9 hw9
    have p9 := blk_below p1.out hw9 (blk_lt p1.out)
    have k0 : w9.cell? ⟨B1, 0, none⟩ = some (.bool h') := cell_blk p9 0
    have k1 : w9.cell? ⟨B1, 1, none⟩ = some (.bool f') := cell_blk p9 1
    have k2 : w9.cell? ⟨B1, 2, none⟩ = some (.bool d') := cell_blk p9 2
    have k3 : w9.cell? ⟨B1, 3, none⟩ = some (.bool l') := cell_blk p9 3
    have k4 : w9.cell? ⟨B1, 4, none⟩ = some (strV fr') := cell_blk p9 4
    have k5 : w9.cell? ⟨B1, 5, none⟩ = some (strV bo') := cell_blk p9 5
    have k6 : w9.cell? ⟨B1, 6, none⟩ = some (.slice A1 to'.length c1) := cell_blk p9 6
    clear p9
    go_wp2_with fail
    with_reducible refine RG.only_mk ?_
    exact hw9
  · rfl
  apply RG.wpDet_cons
  · intro w9 hw9
    go_wp2_with (go_at_call 12; refine (ref_any _ _ _ _ _ _ _ _ _ _).mono ?_; rintro e w8 ⟨rfl, hb8⟩)
    with_reducible refine RG.only_mk ?_
    exact hw9.trans (hb8.mono hw9.size)
  · rfl
  apply RG.wpDet_cons
  · intro w9 hw9
    have p9 := blk_below p2.out hw9 (blk_lt p2.out)
    have k0 : w9.cell? ⟨B2, 0, none⟩ = some (.bool h') := cell_blk p9 0
    have k1 : w9.cell? ⟨B2, 1, none⟩ = some (.bool f') := cell_blk p9 1
    have k2 : w9.cell? ⟨B2, 2, none⟩ = some (.bool d') := cell_blk p9 2
    have k3 : w9.cell? ⟨B2, 3, none⟩ = some (.bool l') := cell_blk p9 3
    have k4 : w9.cell? ⟨B2, 4, none⟩ = some (strV fr') := cell_blk p9 4
    have k5 : w9.cell? ⟨B2, 5, none⟩ = some (strV bo') := cell_blk p9 5
    have k6 : w9.cell? ⟨B2, 6, none⟩ = some (.slice A2 to'.length c2) := cell_blk p9 6
    clear p9
    go_wp2_with fail
    with_reducible refine RG.only_mk ?_
    exact hw9
  · rfl
  apply RG.wpDet_cons
  · intro w9 hw9
    go_wp2_with (go_at_call 12; refine (ref_any _ _ _ _ _ _ _ _ _ _).mono ?_; rintro e w8 ⟨rfl, hb8⟩)
    with_reducible refine RG.only_mk ?_
    exact hw9.trans (hb8.mono hw9.size)
  · rfl
  apply RG.wpDet_cons
  · intro w9 hw9
    go_wp2_with (go_at_call 11; refine (equal_same _ _ _ _ _ _ _ _ _ _ w4'.heap.size to' _ (Ho1.out.below hw9 (Nat.le_refl _)) (Ho2.out.below hw9 (Nat.le_refl _)) (Below.size hw9) (by omega)).mono ?_; rintro e w8 ⟨rfl, hb8⟩)
    with_reducible refine RG.only_mk ?_
    exact hw9.trans (hb8.mono hw9.size)
  · rfl
  apply RG.wpDet_cons
  · intro w9 hw9
    go_wp2_with fail
    with_reducible refine RG.only_mk ?_
    exact hw9
  · rfl
  apply RG.wpDet_cons
  · intro w9 hw9
    go_wp2_with fail
    with_reducible refine RG.only_mk ?_
    exact hw9
  · rfl
  apply RG.wpDet_cons
  · intro w9 hw9
    go_wp2_with (go_at_call 6; refine (awake_any m _ ((hw9.cell (Nat.lt_of_lt_of_le hw0 HB.out.size)).trans hmx'.out)).mono ?_; rintro e w8 ⟨rfl, hb8⟩)
    with_reducible refine RG.only_mk ?_
    exact hw9.trans (hb8.mono hw9.size)
  · rfl
  apply RG.wpDet_cons
  · intro w9 hw9
    go_wp2_with fail
    with_reducible refine RG.only_mk ?_
    exact hw9
  · rfl
  apply RG.wpDet_cons
  · intro w9 hw9
    go_wp2_with fail
    with_reducible refine RG.only_mk ?_
    exact hw9
  · rfl
  refine RG.wpDet_nil (fun w9 hw9 => ?_)
  go_wp2
  go_ret
  exact ⟨rfl, HB.out.trans (hw9.mono HB.out.size)⟩
set_option maxHeartbeats 4000000 in
theorem same_1 (n : Int) (hn0 : 0 ≤ n) (hn1 : n ≤ 255) (hk : n % 8 = 1) (h f l : Bool) (fr bo : Bs) (to : List Bs) (A : Option Addr) (c : Nat) (m : Int) (w : World) (hm : w.cell? ⟨0, 0, none⟩ = some (.int .i64 m)) (hr : RdS w w.heap.size (.slice A to.length c) to) (hs : smallP ⟨h, f, false, l, fr, bo, to⟩ = true) :
    Calls Try.prog 5 #[stV ⟨h, f, false, l, fr, bo, to⟩ (.slice A to.length c), .int .u8 n] w fun e w' => e = .returned (.bool true) ∧ Below w.heap.size w w' := by
  have hw0 : 0 < w.heap.size := World.block_lt_of_cell? w _ hm
  have Hm := Lib.hid hm
  have Hr := Lib.hid hr
  clear hm hr
  have hl : to.length ≤ 10 ∧ bo.length ≤ 2000 ∧ fr.length ≤ 600 := by simpa [smallP, Bool.and_eq_true] using hs
  obtain ⟨l1, l2, l3⟩ := hl
  have Hs := Lib.hid hs
  clear hs
  have ht := line_to ⟨h, f, false, l, fr, bo, to⟩ (⟨#[109, 97, 105, 108, 32, 102, 114, 111, 109, 58, 60, 62]⟩ : ByteArray).data.toList [[97]] rfl
  have hne := line_reply ⟨h, f, false, l, fr, bo, to⟩ (⟨#[109, 97, 105, 108, 32, 102, 114, 111, 109, 58, 60, 62]⟩ : ByteArray).data.toList [[97]] rfl
  have E2 := same_eq1 h f l fr bo to
  generalize hE : lineP ⟨h, f, false, l, fr, bo, to⟩ (⟨#[109, 97, 105, 108, 32, 102, 114, 111, 109, 58, 60, 62]⟩ : ByteArray).data.toList [[97]] = q at ht hne E2
  obtain ⟨⟨h', f', d', l', fr', bo', to'⟩, r⟩ := q
  have E1 := Lib.hid hE
  replace E2 := Lib.hid E2
  simp only at ht hne
  have hn1' : r.isEmpty = false := by cases r with | nil => exact absurd rfl hne | cons _ _ => rfl
  clear hE
  go_enter Try.func5, Try.ntmps5
  go_wp2_with fail
  refine (small_any ⟨h, f, false, l, fr, bo, to⟩ A c _ (by show to.length ≤ _; omega) (by show bo.length ≤ _; omega) (by show fr.length ≤ _; omega)).mono ?_
  rw [Hs.out]
  rintro e w1 ⟨rfl, hb1⟩
  have p0 := Lib.hid (blk_below (blk_new w (.cells #[.bool h, .bool f, .bool false, .bool l, strV fr, strV bo, .slice A to.length c] 25)) hb1 (by simp))
  have hB := ((Below.refl w.heap.size w).alloc (Nat.le_refl _) (.cells #[.bool h, .bool f, .bool false, .bool l, strV fr, strV bo, .slice A to.length c] 25)).trans (hb1.mono (by simp))
  replace Hr := Lib.hid (Hr.out.below hB (Nat.le_refl _))
  clear hb1
  have k0 : w1.cell? ⟨w.heap.size, 0, none⟩ = some (.bool h) := cell_blk p0.out 0
  have k1 : w1.cell? ⟨w.heap.size, 1, none⟩ = some (.bool f) := cell_blk p0.out 1
  have k2 : w1.cell? ⟨w.heap.size, 2, none⟩ = some (.bool false) := cell_blk p0.out 2
  have k3 : w1.cell? ⟨w.heap.size, 3, none⟩ = some (.bool l) := cell_blk p0.out 3
  have k4 : w1.cell? ⟨w.heap.size, 4, none⟩ = some (strV fr) := cell_blk p0.out 4
  have k5 : w1.cell? ⟨w.heap.size, 5, none⟩ = some (strV bo) := cell_blk p0.out 5
  have k6 : w1.cell? ⟨w.heap.size, 6, none⟩ = some (.slice A to.length c) := cell_blk p0.out 6
  go_upto_region 4 with fail
  clear k0 k1 k2 k3 k4 k5 k6
  have hA := ((Below.refl w1.heap.size w1).alloc (Nat.le_refl _) (.cells #[Value.string ⟨#[108, 104, 108, 111, 32, 88]⟩, Value.string ⟨#[76, 72, 76, 79, 32, 88]⟩, Value.string ⟨#[109, 97, 105, 108, 32, 102, 114, 111, 109, 58, 60, 62]⟩, Value.string ⟨#[77, 65, 73, 76, 32, 70, 82, 79, 77, 58, 60, 62]⟩, Value.string ⟨#[100, 97, 116, 97]⟩, Value.string ⟨#[68, 65, 84, 65]⟩, Value.string ⟨#[114, 115, 101, 116]⟩, Value.string ⟨#[82, 83, 69, 84]⟩, Value.string ⟨#[110, 111, 111, 112]⟩, Value.string ⟨#[78, 79, 79, 80]⟩, Value.string ⟨#[113, 117, 105, 116]⟩, Value.string ⟨#[81, 85, 73, 84]⟩, Value.string ⟨#[119, 104, 97, 116]⟩, Value.string ⟨#[87, 72, 65, 84]⟩, Value.string ⟨#[114, 99, 112, 116, 32, 116, 111, 58, 60, 97, 62]⟩, Value.string ⟨#[82, 67, 80, 84, 32, 84, 79, 58, 60, 97, 62]⟩] 35)).alloc (by simp) (.cells #[Value.string ⟨#[109, 97, 105, 108, 32, 102, 114, 111, 109, 58, 60, 62]⟩, Value.string ⟨#[77, 65, 73, 76, 32, 70, 82, 79, 77, 58, 60, 62]⟩] 35)
  replace p0 := Lib.hid (blk_below p0.out hA (blk_lt p0.out))
  have py := Lib.hid (two_new w1 (.cells #[Value.string ⟨#[108, 104, 108, 111, 32, 88]⟩, Value.string ⟨#[76, 72, 76, 79, 32, 88]⟩, Value.string ⟨#[109, 97, 105, 108, 32, 102, 114, 111, 109, 58, 60, 62]⟩, Value.string ⟨#[77, 65, 73, 76, 32, 70, 82, 79, 77, 58, 60, 62]⟩, Value.string ⟨#[100, 97, 116, 97]⟩, Value.string ⟨#[68, 65, 84, 65]⟩, Value.string ⟨#[114, 115, 101, 116]⟩, Value.string ⟨#[82, 83, 69, 84]⟩, Value.string ⟨#[110, 111, 111, 112]⟩, Value.string ⟨#[78, 79, 79, 80]⟩, Value.string ⟨#[113, 117, 105, 116]⟩, Value.string ⟨#[81, 85, 73, 84]⟩, Value.string ⟨#[119, 104, 97, 116]⟩, Value.string ⟨#[87, 72, 65, 84]⟩, Value.string ⟨#[114, 99, 112, 116, 32, 116, 111, 58, 60, 97, 62]⟩, Value.string ⟨#[82, 67, 80, 84, 32, 84, 79, 58, 60, 97, 62]⟩] 35) (.cells #[Value.string ⟨#[109, 97, 105, 108, 32, 102, 114, 111, 109, 58, 60, 62]⟩, Value.string ⟨#[77, 65, 73, 76, 32, 70, 82, 79, 77, 58, 60, 62]⟩] 35))
  replace Hr := Lib.hid (Hr.out.below hA hB.size)
  replace hB := hB.trans (hA.mono hB.size)
  generalize (w1.alloc (.cells #[Value.string ⟨#[108, 104, 108, 111, 32, 88]⟩, Value.string ⟨#[76, 72, 76, 79, 32, 88]⟩, Value.string ⟨#[109, 97, 105, 108, 32, 102, 114, 111, 109, 58, 60, 62]⟩, Value.string ⟨#[77, 65, 73, 76, 32, 70, 82, 79, 77, 58, 60, 62]⟩, Value.string ⟨#[100, 97, 116, 97]⟩, Value.string ⟨#[68, 65, 84, 65]⟩, Value.string ⟨#[114, 115, 101, 116]⟩, Value.string ⟨#[82, 83, 69, 84]⟩, Value.string ⟨#[110, 111, 111, 112]⟩, Value.string ⟨#[78, 79, 79, 80]⟩, Value.string ⟨#[113, 117, 105, 116]⟩, Value.string ⟨#[81, 85, 73, 84]⟩, Value.string ⟨#[119, 104, 97, 116]⟩, Value.string ⟨#[87, 72, 65, 84]⟩, Value.string ⟨#[114, 99, 112, 116, 32, 116, 111, 58, 60, 97, 62]⟩, Value.string ⟨#[82, 67, 80, 84, 32, 84, 79, 58, 60, 97, 62]⟩] 35)).alloc (.cells #[Value.string ⟨#[109, 97, 105, 108, 32, 102, 114, 111, 109, 58, 60, 62]⟩, Value.string ⟨#[77, 65, 73, 76, 32, 70, 82, 79, 77, 58, 60, 62]⟩] 35) = w2 at *
  generalize w1.heap.size + 1 = By at *
  clear hA hk hn0 hn1 hne
  have k0 : w2.cell? ⟨w.heap.size, 0, none⟩ = some (.bool h) := cell_blk p0.out 0
  have k1 : w2.cell? ⟨w.heap.size, 1, none⟩ = some (.bool f) := cell_blk p0.out 1
  have k2 : w2.cell? ⟨w.heap.size, 2, none⟩ = some (.bool false) := cell_blk p0.out 2
  have k3 : w2.cell? ⟨w.heap.size, 3, none⟩ = some (.bool l) := cell_blk p0.out 3
  have k4 : w2.cell? ⟨w.heap.size, 4, none⟩ = some (strV fr) := cell_blk p0.out 4
  have k5 : w2.cell? ⟨w.heap.size, 5, none⟩ = some (strV bo) := cell_blk p0.out 5
  have k6 : w2.cell? ⟨w.heap.size, 6, none⟩ = some (.slice A to.length c) := cell_blk p0.out 6
  have y0 : w2.cell? ⟨By, 0, none⟩ = some (Value.string ⟨#[109, 97, 105, 108, 32, 102, 114, 111, 109, 58, 60, 62]⟩) := cell_blk py.out 0
  have y1 : w2.cell? ⟨By, 1, none⟩ = some (Value.string ⟨#[77, 65, 73, 76, 32, 70, 82, 79, 77, 58, 60, 62]⟩) := cell_blk py.out 1
  go_wp2_with fail
  have hU := (Below.refl w2.heap.size w2).alloc (Nat.le_refl _) (.cells #[strV [97]] 9)
  have hmx : (w2.alloc (.cells #[strV [97]] 9)).cell? ⟨0, 0, none⟩ = some (.int .i64 m) := ((hB.trans (hU.mono hB.size)).cell hw0).trans Hm.out
  refine (line_any ⟨h, f, false, l, fr, bo, to⟩ (.slice A to.length c) ⟨#[109, 97, 105, 108, 32, 102, 114, 111, 109, 58, 60, 62]⟩ (.slice (some ⟨w2.heap.size, 0, none⟩) 1 1) [[97]] m _ ((Hr.out.below hU hB.size).more (hB.trans (hU.mono hB.size)).size) (rds_single w2 [97] 9) hmx (by show to.length ≤ _; omega) (by show bo.length ≤ _; omega) (by decide) (by decide)).mono ?_
  rw [E1.out]
  rintro e w3 ⟨tv, rfl, ho, hb1⟩
  obtain ⟨A1, c1, e1, _⟩ := ho.form
  simp only at e1
  subst e1
  clear k0 k1 k2 k3 k4 k5 k6 y0 y1
  have hb2 : Below w2.heap.size w2 w3 := hU.trans (hb1.mono hU.size)
  have hA := hb2.alloc hb2.size (.cells #[.bool h', .bool f', .bool d', .bool l', strV fr', strV bo', .slice A1 to'.length c1] 25)
  replace p0 := Lib.hid (blk_below p0.out hA (blk_lt p0.out))
  replace py := Lib.hid (blk_below py.out hA (blk_lt py.out))
  have p1 := Lib.hid (blk_new w3 (.cells #[.bool h', .bool f', .bool d', .bool l', strV fr', strV bo', .slice A1 to'.length c1] 25))
  replace Hr := Lib.hid (Hr.out.below hA hB.size)
  replace hB := hB.trans (hA.mono hB.size)
  have Ho1 := Lib.hid ((ho.rd).below ((Below.refl _ _).alloc (Nat.le_refl _) (.cells #[.bool h', .bool f', .bool d', .bool l', strV fr', strV bo', .slice A1 to'.length c1] 25)) (Nat.le_refl _))
  go_upto_region 5 with fail
  generalize w3.alloc (.cells #[.bool h', .bool f', .bool d', .bool l', strV fr', strV bo', .slice A1 to'.length c1] 25) = w3' at *
  generalize w3.heap.size = B1 at *
  clear hA ho hb1 hb2 hmx hU
  have k0 : w3'.cell? ⟨w.heap.size, 0, none⟩ = some (.bool h) := cell_blk p0.out 0
  have k1 : w3'.cell? ⟨w.heap.size, 1, none⟩ = some (.bool f) := cell_blk p0.out 1
  have k2 : w3'.cell? ⟨w.heap.size, 2, none⟩ = some (.bool false) := cell_blk p0.out 2
  have k3 : w3'.cell? ⟨w.heap.size, 3, none⟩ = some (.bool l) := cell_blk p0.out 3
  have k4 : w3'.cell? ⟨w.heap.size, 4, none⟩ = some (strV fr) := cell_blk p0.out 4
  have k5 : w3'.cell? ⟨w.heap.size, 5, none⟩ = some (strV bo) := cell_blk p0.out 5
  have k6 : w3'.cell? ⟨w.heap.size, 6, none⟩ = some (.slice A to.length c) := cell_blk p0.out 6
  have y0 : w3'.cell? ⟨By, 0, none⟩ = some (Value.string ⟨#[109, 97, 105, 108, 32, 102, 114, 111, 109, 58, 60, 62]⟩) := cell_blk py.out 0
  have y1 : w3'.cell? ⟨By, 1, none⟩ = some (Value.string ⟨#[77, 65, 73, 76, 32, 70, 82, 79, 77, 58, 60, 62]⟩) := cell_blk py.out 1
  go_wp2_with fail
  have hU := (Below.refl w3'.heap.size w3').alloc (Nat.le_refl _) (.cells #[strV [97]] 9)
  have hmx : (w3'.alloc (.cells #[strV [97]] 9)).cell? ⟨0, 0, none⟩ = some (.int .i64 m) := ((hB.trans (hU.mono hB.size)).cell hw0).trans Hm.out
  refine (line_any ⟨h, f, false, l, fr, bo, to⟩ (.slice A to.length c) ⟨#[77, 65, 73, 76, 32, 70, 82, 79, 77, 58, 60, 62]⟩ (.slice (some ⟨w3'.heap.size, 0, none⟩) 1 1) [[97]] m _ ((Hr.out.below hU hB.size).more (hB.trans (hU.mono hB.size)).size) (rds_single w3' [97] 9) hmx (by show to.length ≤ _; omega) (by show bo.length ≤ _; omega) (by decide) (by decide)).mono ?_
  rw [E2.out]
  rintro e w4 ⟨tv, rfl, ho, hb1⟩
  obtain ⟨A2, c2, e1, _⟩ := ho.form
  simp only at e1
  subst e1
  clear k0 k1 k2 k3 k4 k5 k6 y0 y1
  have hb2 : Below w3'.heap.size w3' w4 := hU.trans (hb1.mono hU.size)
  have hA := hb2.alloc hb2.size (.cells #[.bool h', .bool f', .bool d', .bool l', strV fr', strV bo', .slice A2 to'.length c2] 25)
  have hlt1 := blk_lt p1.out
  replace p0 := Lib.hid (blk_below p0.out hA (blk_lt p0.out))
  replace py := Lib.hid (blk_below py.out hA (blk_lt py.out))
  replace p1 := Lib.hid (blk_below p1.out hA (blk_lt p1.out))
  have p2 := Lib.hid (blk_new w4 (.cells #[.bool h', .bool f', .bool d', .bool l', strV fr', strV bo', .slice A2 to'.length c2] 25))
  replace Hr := Lib.hid (Hr.out.below hA hB.size)
  replace Ho1 := Lib.hid (Ho1.out.below hA (Nat.le_of_lt hlt1))
  replace hB := hB.trans (hA.mono hB.size)
  have Ho2 := Lib.hid ((ho.rd).below ((Below.refl _ _).alloc (Nat.le_refl _) (.cells #[.bool h', .bool f', .bool d', .bool l', strV fr', strV bo', .slice A2 to'.length c2] 25)) (Nat.le_refl _))
  go_upto_region 6 with fail
  generalize w4.alloc (.cells #[.bool h', .bool f', .bool d', .bool l', strV fr', strV bo', .slice A2 to'.length c2] 25) = w4' at *
  generalize w4.heap.size = B2 at *
  clear hA ho hb1 hb2 hmx hU
  replace Ho2 := Lib.hid (Ho2.out.more (Nat.le_of_lt (blk_lt p2.out)))
  replace Ho1 := Lib.hid (Ho1.out.more (Nat.le_of_lt (blk_lt p1.out)))
  have hmx' := Lib.hid ((hB.cell hw0).trans Hm.out)
  have HB := Lib.hid hB
  clear hB Hm Hs Hr E1 E2 p0 py
  refine RG.wp_region_det (fun w' => Below w4'.heap.size w4' w') (by kernel_rfl) (by kernel_rfl) ((Below.refl _ _).drew) ?_
  apply RG.wpDet_cons
  · intro w9 hw9
    go_wp2_with fail
    with_reducible refine RG.only_mk ?_
    exact hw9
  · rfl
  apply RG.wpDet_cons
  · intro w9 hw9
    go_wp2_with fail
    with_reducible refine RG.only_mk ?_
    exact hw9
  · rfl
  apply RG.wpDet_cons
  · intro w9 hw9
    go_wp2_with fail
    with_reducible refine RG.only_mk ?_
    exact hw9
  · rfl
  apply RG.wpDet_cons
  · intro w9 hw9
    go_wp2_with fail
    with_reducible refine RG.only_mk ?_
    exact hw9
  · rfl
  apply RG.wpDet_cons
  · intro w9 hw9
    go_wp2_with fail
    with_reducible refine RG.only_mk ?_
    exact hw9
  · rfl
  apply RG.wpDet_cons
  · intro w9 hw9
    go_wp2_with fail
    with_reducible refine RG.only_mk ?_
    exact hw9
  · rfl
  apply RG.wpDet_cons
  · intro w9 hw9
    go_wp2_with fail
    with_reducible refine RG.only_mk ?_
    exact hw9
  · rfl
  apply RG.wpDet_cons
  · intro w9 hw9
    go_wp2_with fail
    with_reducible refine RG.only_mk ?_
    exact hw9
  · rfl
  apply RG.wpDet_cons
  · intro w9 hw9
    have p9 := blk_below p1.out hw9 (blk_lt p1.out)
    have k0 : w9.cell? ⟨B1, 0, none⟩ = some (.bool h') := cell_blk p9 0
    have k1 : w9.cell? ⟨B1, 1, none⟩ = some (.bool f') := cell_blk p9 1
    have k2 : w9.cell? ⟨B1, 2, none⟩ = some (.bool d') := cell_blk p9 2
    have k3 : w9.cell? ⟨B1, 3, none⟩ = some (.bool l') := cell_blk p9 3
    have k4 : w9.cell? ⟨B1, 4, none⟩ = some (strV fr') := cell_blk p9 4
    have k5 : w9.cell? ⟨B1, 5, none⟩ = some (strV bo') := cell_blk p9 5
    have k6 : w9.cell? ⟨B1, 6, none⟩ = some (.slice A1 to'.length c1) := cell_blk p9 6
    clear p9
    go_wp2_with fail
    with_reducible refine RG.only_mk ?_
    exact hw9
  · rfl
  apply RG.wpDet_cons
  · intro w9 hw9
    go_wp2_with (go_at_call 12; refine (ref_any _ _ _ _ _ _ _ _ _ _).mono ?_; rintro e w8 ⟨rfl, hb8⟩)
    with_reducible refine RG.only_mk ?_
    exact hw9.trans (hb8.mono hw9.size)
  · rfl
  apply RG.wpDet_cons
  · intro w9 hw9
    have p9 := blk_below p2.out hw9 (blk_lt p2.out)
    have k0 : w9.cell? ⟨B2, 0, none⟩ = some (.bool h') := cell_blk p9 0
    have k1 : w9.cell? ⟨B2, 1, none⟩ = some (.bool f') := cell_blk p9 1
    have k2 : w9.cell? ⟨B2, 2, none⟩ = some (.bool d') := cell_blk p9 2
    have k3 : w9.cell? ⟨B2, 3, none⟩ = some (.bool l') := cell_blk p9 3
    have k4 : w9.cell? ⟨B2, 4, none⟩ = some (strV fr') := cell_blk p9 4
    have k5 : w9.cell? ⟨B2, 5, none⟩ = some (strV bo') := cell_blk p9 5
    have k6 : w9.cell? ⟨B2, 6, none⟩ = some (.slice A2 to'.length c2) := cell_blk p9 6
    clear p9
    go_wp2_with fail
    with_reducible refine RG.only_mk ?_
    exact hw9
  · rfl
  apply RG.wpDet_cons
  · intro w9 hw9
    go_wp2_with (go_at_call 12; refine (ref_any _ _ _ _ _ _ _ _ _ _).mono ?_; rintro e w8 ⟨rfl, hb8⟩)
    with_reducible refine RG.only_mk ?_
    exact hw9.trans (hb8.mono hw9.size)
  · rfl
  apply RG.wpDet_cons
  · intro w9 hw9
    go_wp2_with (go_at_call 11; refine (equal_same _ _ _ _ _ _ _ _ _ _ w4'.heap.size to' _ (Ho1.out.below hw9 (Nat.le_refl _)) (Ho2.out.below hw9 (Nat.le_refl _)) (Below.size hw9) (by omega)).mono ?_; rintro e w8 ⟨rfl, hb8⟩)
    with_reducible refine RG.only_mk ?_
    exact hw9.trans (hb8.mono hw9.size)
  · rfl
  apply RG.wpDet_cons
  · intro w9 hw9
    go_wp2_with fail
    with_reducible refine RG.only_mk ?_
    exact hw9
  · rfl
  apply RG.wpDet_cons
  · intro w9 hw9
    go_wp2_with fail
    with_reducible refine RG.only_mk ?_
    exact hw9
  · rfl
  apply RG.wpDet_cons
  · intro w9 hw9
    go_wp2_with (go_at_call 6; refine (awake_any m _ ((hw9.cell (Nat.lt_of_lt_of_le hw0 HB.out.size)).trans hmx'.out)).mono ?_; rintro e w8 ⟨rfl, hb8⟩)
    with_reducible refine RG.only_mk ?_
    exact hw9.trans (hb8.mono hw9.size)
  · rfl
  apply RG.wpDet_cons
  · intro w9 hw9
    go_wp2_with fail
    with_reducible refine RG.only_mk ?_
    exact hw9
  · rfl
  apply RG.wpDet_cons
  · intro w9 hw9
    go_wp2_with fail
    with_reducible refine RG.only_mk ?_
    exact hw9
  · rfl
  refine RG.wpDet_nil (fun w9 hw9 => ?_)
  go_wp2
  go_ret
  exact ⟨rfl, HB.out.trans (hw9.mono HB.out.size)⟩
set_option maxHeartbeats 4000000 in
theorem same_2 (n : Int) (hn0 : 0 ≤ n) (hn1 : n ≤ 255) (hk : n % 8 = 2) (h f l : Bool) (fr bo : Bs) (to : List Bs) (A : Option Addr) (c : Nat) (m : Int) (w : World) (hm : w.cell? ⟨0, 0, none⟩ = some (.int .i64 m)) (hr : RdS w w.heap.size (.slice A to.length c) to) (hs : smallP ⟨h, f, false, l, fr, bo, to⟩ = true) :
    Calls Try.prog 5 #[stV ⟨h, f, false, l, fr, bo, to⟩ (.slice A to.length c), .int .u8 n] w fun e w' => e = .returned (.bool true) ∧ Below w.heap.size w w' := by
  have hw0 : 0 < w.heap.size := World.block_lt_of_cell? w _ hm
  have Hm := Lib.hid hm
  have Hr := Lib.hid hr
  clear hm hr
  have hl : to.length ≤ 10 ∧ bo.length ≤ 2000 ∧ fr.length ≤ 600 := by simpa [smallP, Bool.and_eq_true] using hs
  obtain ⟨l1, l2, l3⟩ := hl
  have Hs := Lib.hid hs
  clear hs
  have ht := line_to ⟨h, f, false, l, fr, bo, to⟩ (⟨#[100, 97, 116, 97]⟩ : ByteArray).data.toList [[97]] rfl
  have hne := line_reply ⟨h, f, false, l, fr, bo, to⟩ (⟨#[100, 97, 116, 97]⟩ : ByteArray).data.toList [[97]] rfl
  have E2 := same_eq2 h f l fr bo to
  generalize hE : lineP ⟨h, f, false, l, fr, bo, to⟩ (⟨#[100, 97, 116, 97]⟩ : ByteArray).data.toList [[97]] = q at ht hne E2
  obtain ⟨⟨h', f', d', l', fr', bo', to'⟩, r⟩ := q
  have E1 := Lib.hid hE
  replace E2 := Lib.hid E2
  simp only at ht hne
  have hn1' : r.isEmpty = false := by cases r with | nil => exact absurd rfl hne | cons _ _ => rfl
  clear hE
  go_enter Try.func5, Try.ntmps5
  go_wp2_with fail
  refine (small_any ⟨h, f, false, l, fr, bo, to⟩ A c _ (by show to.length ≤ _; omega) (by show bo.length ≤ _; omega) (by show fr.length ≤ _; omega)).mono ?_
  rw [Hs.out]
  rintro e w1 ⟨rfl, hb1⟩
  have p0 := Lib.hid (blk_below (blk_new w (.cells #[.bool h, .bool f, .bool false, .bool l, strV fr, strV bo, .slice A to.length c] 25)) hb1 (by simp))
  have hB := ((Below.refl w.heap.size w).alloc (Nat.le_refl _) (.cells #[.bool h, .bool f, .bool false, .bool l, strV fr, strV bo, .slice A to.length c] 25)).trans (hb1.mono (by simp))
  replace Hr := Lib.hid (Hr.out.below hB (Nat.le_refl _))
  clear hb1
  have k0 : w1.cell? ⟨w.heap.size, 0, none⟩ = some (.bool h) := cell_blk p0.out 0
  have k1 : w1.cell? ⟨w.heap.size, 1, none⟩ = some (.bool f) := cell_blk p0.out 1
  have k2 : w1.cell? ⟨w.heap.size, 2, none⟩ = some (.bool false) := cell_blk p0.out 2
  have k3 : w1.cell? ⟨w.heap.size, 3, none⟩ = some (.bool l) := cell_blk p0.out 3
  have k4 : w1.cell? ⟨w.heap.size, 4, none⟩ = some (strV fr) := cell_blk p0.out 4
  have k5 : w1.cell? ⟨w.heap.size, 5, none⟩ = some (strV bo) := cell_blk p0.out 5
  have k6 : w1.cell? ⟨w.heap.size, 6, none⟩ = some (.slice A to.length c) := cell_blk p0.out 6
  go_upto_region 4 with fail
  clear k0 k1 k2 k3 k4 k5 k6
  have hA := ((Below.refl w1.heap.size w1).alloc (Nat.le_refl _) (.cells #[Value.string ⟨#[108, 104, 108, 111, 32, 88]⟩, Value.string ⟨#[76, 72, 76, 79, 32, 88]⟩, Value.string ⟨#[109, 97, 105, 108, 32, 102, 114, 111, 109, 58, 60, 62]⟩, Value.string ⟨#[77, 65, 73, 76, 32, 70, 82, 79, 77, 58, 60, 62]⟩, Value.string ⟨#[100, 97, 116, 97]⟩, Value.string ⟨#[68, 65, 84, 65]⟩, Value.string ⟨#[114, 115, 101, 116]⟩, Value.string ⟨#[82, 83, 69, 84]⟩, Value.string ⟨#[110, 111, 111, 112]⟩, Value.string ⟨#[78, 79, 79, 80]⟩, Value.string ⟨#[113, 117, 105, 116]⟩, Value.string ⟨#[81, 85, 73, 84]⟩, Value.string ⟨#[119, 104, 97, 116]⟩, Value.string ⟨#[87, 72, 65, 84]⟩, Value.string ⟨#[114, 99, 112, 116, 32, 116, 111, 58, 60, 97, 62]⟩, Value.string ⟨#[82, 67, 80, 84, 32, 84, 79, 58, 60, 97, 62]⟩] 35)).alloc (by simp) (.cells #[Value.string ⟨#[100, 97, 116, 97]⟩, Value.string ⟨#[68, 65, 84, 65]⟩] 35)
  replace p0 := Lib.hid (blk_below p0.out hA (blk_lt p0.out))
  have py := Lib.hid (two_new w1 (.cells #[Value.string ⟨#[108, 104, 108, 111, 32, 88]⟩, Value.string ⟨#[76, 72, 76, 79, 32, 88]⟩, Value.string ⟨#[109, 97, 105, 108, 32, 102, 114, 111, 109, 58, 60, 62]⟩, Value.string ⟨#[77, 65, 73, 76, 32, 70, 82, 79, 77, 58, 60, 62]⟩, Value.string ⟨#[100, 97, 116, 97]⟩, Value.string ⟨#[68, 65, 84, 65]⟩, Value.string ⟨#[114, 115, 101, 116]⟩, Value.string ⟨#[82, 83, 69, 84]⟩, Value.string ⟨#[110, 111, 111, 112]⟩, Value.string ⟨#[78, 79, 79, 80]⟩, Value.string ⟨#[113, 117, 105, 116]⟩, Value.string ⟨#[81, 85, 73, 84]⟩, Value.string ⟨#[119, 104, 97, 116]⟩, Value.string ⟨#[87, 72, 65, 84]⟩, Value.string ⟨#[114, 99, 112, 116, 32, 116, 111, 58, 60, 97, 62]⟩, Value.string ⟨#[82, 67, 80, 84, 32, 84, 79, 58, 60, 97, 62]⟩] 35) (.cells #[Value.string ⟨#[100, 97, 116, 97]⟩, Value.string ⟨#[68, 65, 84, 65]⟩] 35))
  replace Hr := Lib.hid (Hr.out.below hA hB.size)
  replace hB := hB.trans (hA.mono hB.size)
  generalize (w1.alloc (.cells #[Value.string ⟨#[108, 104, 108, 111, 32, 88]⟩, Value.string ⟨#[76, 72, 76, 79, 32, 88]⟩, Value.string ⟨#[109, 97, 105, 108, 32, 102, 114, 111, 109, 58, 60, 62]⟩, Value.string ⟨#[77, 65, 73, 76, 32, 70, 82, 79, 77, 58, 60, 62]⟩, Value.string ⟨#[100, 97, 116, 97]⟩, Value.string ⟨#[68, 65, 84, 65]⟩, Value.string ⟨#[114, 115, 101, 116]⟩, Value.string ⟨#[82, 83, 69, 84]⟩, Value.string ⟨#[110, 111, 111, 112]⟩, Value.string ⟨#[78, 79, 79, 80]⟩, Value.string ⟨#[113, 117, 105, 116]⟩, Value.string ⟨#[81, 85, 73, 84]⟩, Value.string ⟨#[119, 104, 97, 116]⟩, Value.string ⟨#[87, 72, 65, 84]⟩, Value.string ⟨#[114, 99, 112, 116, 32, 116, 111, 58, 60, 97, 62]⟩, Value.string ⟨#[82, 67, 80, 84, 32, 84, 79, 58, 60, 97, 62]⟩] 35)).alloc (.cells #[Value.string ⟨#[100, 97, 116, 97]⟩, Value.string ⟨#[68, 65, 84, 65]⟩] 35) = w2 at *
  generalize w1.heap.size + 1 = By at *
  clear hA hk hn0 hn1 hne
  have k0 : w2.cell? ⟨w.heap.size, 0, none⟩ = some (.bool h) := cell_blk p0.out 0
  have k1 : w2.cell? ⟨w.heap.size, 1, none⟩ = some (.bool f) := cell_blk p0.out 1
  have k2 : w2.cell? ⟨w.heap.size, 2, none⟩ = some (.bool false) := cell_blk p0.out 2
  have k3 : w2.cell? ⟨w.heap.size, 3, none⟩ = some (.bool l) := cell_blk p0.out 3
  have k4 : w2.cell? ⟨w.heap.size, 4, none⟩ = some (strV fr) := cell_blk p0.out 4
  have k5 : w2.cell? ⟨w.heap.size, 5, none⟩ = some (strV bo) := cell_blk p0.out 5
  have k6 : w2.cell? ⟨w.heap.size, 6, none⟩ = some (.slice A to.length c) := cell_blk p0.out 6
  have y0 : w2.cell? ⟨By, 0, none⟩ = some (Value.string ⟨#[100, 97, 116, 97]⟩) := cell_blk py.out 0
  have y1 : w2.cell? ⟨By, 1, none⟩ = some (Value.string ⟨#[68, 65, 84, 65]⟩) := cell_blk py.out 1
  go_wp2_with fail
  have hU := (Below.refl w2.heap.size w2).alloc (Nat.le_refl _) (.cells #[strV [97]] 9)
  have hmx : (w2.alloc (.cells #[strV [97]] 9)).cell? ⟨0, 0, none⟩ = some (.int .i64 m) := ((hB.trans (hU.mono hB.size)).cell hw0).trans Hm.out
  refine (line_any ⟨h, f, false, l, fr, bo, to⟩ (.slice A to.length c) ⟨#[100, 97, 116, 97]⟩ (.slice (some ⟨w2.heap.size, 0, none⟩) 1 1) [[97]] m _ ((Hr.out.below hU hB.size).more (hB.trans (hU.mono hB.size)).size) (rds_single w2 [97] 9) hmx (by show to.length ≤ _; omega) (by show bo.length ≤ _; omega) (by decide) (by decide)).mono ?_
  rw [E1.out]
  rintro e w3 ⟨tv, rfl, ho, hb1⟩
  obtain ⟨A1, c1, e1, _⟩ := ho.form
  simp only at e1
  subst e1
  clear k0 k1 k2 k3 k4 k5 k6 y0 y1
  have hb2 : Below w2.heap.size w2 w3 := hU.trans (hb1.mono hU.size)
  have hA := hb2.alloc hb2.size (.cells #[.bool h', .bool f', .bool d', .bool l', strV fr', strV bo', .slice A1 to'.length c1] 25)
  replace p0 := Lib.hid (blk_below p0.out hA (blk_lt p0.out))
  replace py := Lib.hid (blk_below py.out hA (blk_lt py.out))
  have p1 := Lib.hid (blk_new w3 (.cells #[.bool h', .bool f', .bool d', .bool l', strV fr', strV bo', .slice A1 to'.length c1] 25))
  replace Hr := Lib.hid (Hr.out.below hA hB.size)
  replace hB := hB.trans (hA.mono hB.size)
  have Ho1 := Lib.hid ((ho.rd).below ((Below.refl _ _).alloc (Nat.le_refl _) (.cells #[.bool h', .bool f', .bool d', .bool l', strV fr', strV bo', .slice A1 to'.length c1] 25)) (Nat.le_refl _))
  go_upto_region 5 with fail
  generalize w3.alloc (.cells #[.bool h', .bool f', .bool d', .bool l', strV fr', strV bo', .slice A1 to'.length c1] 25) = w3' at *
  generalize w3.heap.size = B1 at *
  clear hA ho hb1 hb2 hmx hU
  have k0 : w3'.cell? ⟨w.heap.size, 0, none⟩ = some (.bool h) := cell_blk p0.out 0
  have k1 : w3'.cell? ⟨w.heap.size, 1, none⟩ = some (.bool f) := cell_blk p0.out 1
  have k2 : w3'.cell? ⟨w.heap.size, 2, none⟩ = some (.bool false) := cell_blk p0.out 2
  have k3 : w3'.cell? ⟨w.heap.size, 3, none⟩ = some (.bool l) := cell_blk p0.out 3
  have k4 : w3'.cell? ⟨w.heap.size, 4, none⟩ = some (strV fr) := cell_blk p0.out 4
  have k5 : w3'.cell? ⟨w.heap.size, 5, none⟩ = some (strV bo) := cell_blk p0.out 5
  have k6 : w3'.cell? ⟨w.heap.size, 6, none⟩ = some (.slice A to.length c) := cell_blk p0.out 6
  have y0 : w3'.cell? ⟨By, 0, none⟩ = some (Value.string ⟨#[100, 97, 116, 97]⟩) := cell_blk py.out 0
  have y1 : w3'.cell? ⟨By, 1, none⟩ = some (Value.string ⟨#[68, 65, 84, 65]⟩) := cell_blk py.out 1
  go_wp2_with fail
  have hU := (Below.refl w3'.heap.size w3').alloc (Nat.le_refl _) (.cells #[strV [97]] 9)
  have hmx : (w3'.alloc (.cells #[strV [97]] 9)).cell? ⟨0, 0, none⟩ = some (.int .i64 m) := ((hB.trans (hU.mono hB.size)).cell hw0).trans Hm.out
  refine (line_any ⟨h, f, false, l, fr, bo, to⟩ (.slice A to.length c) ⟨#[68, 65, 84, 65]⟩ (.slice (some ⟨w3'.heap.size, 0, none⟩) 1 1) [[97]] m _ ((Hr.out.below hU hB.size).more (hB.trans (hU.mono hB.size)).size) (rds_single w3' [97] 9) hmx (by show to.length ≤ _; omega) (by show bo.length ≤ _; omega) (by decide) (by decide)).mono ?_
  rw [E2.out]
  rintro e w4 ⟨tv, rfl, ho, hb1⟩
  obtain ⟨A2, c2, e1, _⟩ := ho.form
  simp only at e1
  subst e1
  clear k0 k1 k2 k3 k4 k5 k6 y0 y1
  have hb2 : Below w3'.heap.size w3' w4 := hU.trans (hb1.mono hU.size)
  have hA := hb2.alloc hb2.size (.cells #[.bool h', .bool f', .bool d', .bool l', strV fr', strV bo', .slice A2 to'.length c2] 25)
  have hlt1 := blk_lt p1.out
  replace p0 := Lib.hid (blk_below p0.out hA (blk_lt p0.out))
  replace py := Lib.hid (blk_below py.out hA (blk_lt py.out))
  replace p1 := Lib.hid (blk_below p1.out hA (blk_lt p1.out))
  have p2 := Lib.hid (blk_new w4 (.cells #[.bool h', .bool f', .bool d', .bool l', strV fr', strV bo', .slice A2 to'.length c2] 25))
  replace Hr := Lib.hid (Hr.out.below hA hB.size)
  replace Ho1 := Lib.hid (Ho1.out.below hA (Nat.le_of_lt hlt1))
  replace hB := hB.trans (hA.mono hB.size)
  have Ho2 := Lib.hid ((ho.rd).below ((Below.refl _ _).alloc (Nat.le_refl _) (.cells #[.bool h', .bool f', .bool d', .bool l', strV fr', strV bo', .slice A2 to'.length c2] 25)) (Nat.le_refl _))
  go_upto_region 6 with fail
  generalize w4.alloc (.cells #[.bool h', .bool f', .bool d', .bool l', strV fr', strV bo', .slice A2 to'.length c2] 25) = w4' at *
  generalize w4.heap.size = B2 at *
  clear hA ho hb1 hb2 hmx hU
  replace Ho2 := Lib.hid (Ho2.out.more (Nat.le_of_lt (blk_lt p2.out)))
  replace Ho1 := Lib.hid (Ho1.out.more (Nat.le_of_lt (blk_lt p1.out)))
  have hmx' := Lib.hid ((hB.cell hw0).trans Hm.out)
  have HB := Lib.hid hB
  clear hB Hm Hs Hr E1 E2 p0 py
  refine RG.wp_region_det (fun w' => Below w4'.heap.size w4' w') (by kernel_rfl) (by kernel_rfl) ((Below.refl _ _).drew) ?_
  apply RG.wpDet_cons
  · intro w9 hw9
    go_wp2_with fail
    with_reducible refine RG.only_mk ?_
    exact hw9
  · rfl
  apply RG.wpDet_cons
  · intro w9 hw9
    go_wp2_with fail
    with_reducible refine RG.only_mk ?_
    exact hw9
  · rfl
  apply RG.wpDet_cons
  · intro w9 hw9
    go_wp2_with fail
    with_reducible refine RG.only_mk ?_
    exact hw9
  · rfl
  apply RG.wpDet_cons
  · intro w9 hw9
    go_wp2_with fail
    with_reducible refine RG.only_mk ?_
    exact hw9
  · rfl
  apply RG.wpDet_cons
  · intro w9 hw9
    go_wp2_with fail
    with_reducible refine RG.only_mk ?_
    exact hw9
  · rfl
  apply RG.wpDet_cons
  · intro w9 hw9
    go_wp2_with fail
    with_reducible refine RG.only_mk ?_
    exact hw9
  · rfl
  apply RG.wpDet_cons
  · intro w9 hw9
    go_wp2_with fail
    with_reducible refine RG.only_mk ?_
    exact hw9
  · rfl
  apply RG.wpDet_cons
  · intro w9 hw9
    go_wp2_with fail
    with_reducible refine RG.only_mk ?_
    exact hw9
  · rfl
  apply RG.wpDet_cons
  · intro w9 hw9
    have p9 := blk_below p1.out hw9 (blk_lt p1.out)
    have k0 : w9.cell? ⟨B1, 0, none⟩ = some (.bool h') := cell_blk p9 0
    have k1 : w9.cell? ⟨B1, 1, none⟩ = some (.bool f') := cell_blk p9 1
    have k2 : w9.cell? ⟨B1, 2, none⟩ = some (.bool d') := cell_blk p9 2
    have k3 : w9.cell? ⟨B1, 3, none⟩ = some (.bool l') := cell_blk p9 3
    have k4 : w9.cell? ⟨B1, 4, none⟩ = some (strV fr') := cell_blk p9 4
    have k5 : w9.cell? ⟨B1, 5, none⟩ = some (strV bo') := cell_blk p9 5
    have k6 : w9.cell? ⟨B1, 6, none⟩ = some (.slice A1 to'.length c1) := cell_blk p9 6
    clear p9
    go_wp2_with fail
    with_reducible refine RG.only_mk ?_
    exact hw9
  · rfl
  apply RG.wpDet_cons
  · intro w9 hw9
    go_wp2_with (go_at_call 12; refine (ref_any _ _ _ _ _ _ _ _ _ _).mono ?_; rintro e w8 ⟨rfl, hb8⟩)
    with_reducible refine RG.only_mk ?_
    exact hw9.trans (hb8.mono hw9.size)
  · rfl
  apply RG.wpDet_cons
  · intro w9 hw9
    have p9 := blk_below p2.out hw9 (blk_lt p2.out)
    have k0 : w9.cell? ⟨B2, 0, none⟩ = some (.bool h') := cell_blk p9 0
    have k1 : w9.cell? ⟨B2, 1, none⟩ = some (.bool f') := cell_blk p9 1
    have k2 : w9.cell? ⟨B2, 2, none⟩ = some (.bool d') := cell_blk p9 2
    have k3 : w9.cell? ⟨B2, 3, none⟩ = some (.bool l') := cell_blk p9 3
    have k4 : w9.cell? ⟨B2, 4, none⟩ = some (strV fr') := cell_blk p9 4
    have k5 : w9.cell? ⟨B2, 5, none⟩ = some (strV bo') := cell_blk p9 5
    have k6 : w9.cell? ⟨B2, 6, none⟩ = some (.slice A2 to'.length c2) := cell_blk p9 6
    clear p9
    go_wp2_with fail
    with_reducible refine RG.only_mk ?_
    exact hw9
  · rfl
  apply RG.wpDet_cons
  · intro w9 hw9
    go_wp2_with (go_at_call 12; refine (ref_any _ _ _ _ _ _ _ _ _ _).mono ?_; rintro e w8 ⟨rfl, hb8⟩)
    with_reducible refine RG.only_mk ?_
    exact hw9.trans (hb8.mono hw9.size)
  · rfl
  apply RG.wpDet_cons
  · intro w9 hw9
    go_wp2_with (go_at_call 11; refine (equal_same _ _ _ _ _ _ _ _ _ _ w4'.heap.size to' _ (Ho1.out.below hw9 (Nat.le_refl _)) (Ho2.out.below hw9 (Nat.le_refl _)) (Below.size hw9) (by omega)).mono ?_; rintro e w8 ⟨rfl, hb8⟩)
    with_reducible refine RG.only_mk ?_
    exact hw9.trans (hb8.mono hw9.size)
  · rfl
  apply RG.wpDet_cons
  · intro w9 hw9
    go_wp2_with fail
    with_reducible refine RG.only_mk ?_
    exact hw9
  · rfl
  apply RG.wpDet_cons
  · intro w9 hw9
    go_wp2_with fail
    with_reducible refine RG.only_mk ?_
    exact hw9
  · rfl
  apply RG.wpDet_cons
  · intro w9 hw9
    go_wp2_with (go_at_call 6; refine (awake_any m _ ((hw9.cell (Nat.lt_of_lt_of_le hw0 HB.out.size)).trans hmx'.out)).mono ?_; rintro e w8 ⟨rfl, hb8⟩)
    with_reducible refine RG.only_mk ?_
    exact hw9.trans (hb8.mono hw9.size)
  · rfl
  apply RG.wpDet_cons
  · intro w9 hw9
    go_wp2_with fail
    with_reducible refine RG.only_mk ?_
    exact hw9
  · rfl
  apply RG.wpDet_cons
  · intro w9 hw9
    go_wp2_with fail
    with_reducible refine RG.only_mk ?_
    exact hw9
  · rfl
  refine RG.wpDet_nil (fun w9 hw9 => ?_)
  go_wp2
  go_ret
  exact ⟨rfl, HB.out.trans (hw9.mono HB.out.size)⟩
set_option maxHeartbeats 4000000 in
theorem same_3 (n : Int) (hn0 : 0 ≤ n) (hn1 : n ≤ 255) (hk : n % 8 = 3) (h f l : Bool) (fr bo : Bs) (to : List Bs) (A : Option Addr) (c : Nat) (m : Int) (w : World) (hm : w.cell? ⟨0, 0, none⟩ = some (.int .i64 m)) (hr : RdS w w.heap.size (.slice A to.length c) to) (hs : smallP ⟨h, f, false, l, fr, bo, to⟩ = true) :
    Calls Try.prog 5 #[stV ⟨h, f, false, l, fr, bo, to⟩ (.slice A to.length c), .int .u8 n] w fun e w' => e = .returned (.bool true) ∧ Below w.heap.size w w' := by
  have hw0 : 0 < w.heap.size := World.block_lt_of_cell? w _ hm
  have Hm := Lib.hid hm
  have Hr := Lib.hid hr
  clear hm hr
  have hl : to.length ≤ 10 ∧ bo.length ≤ 2000 ∧ fr.length ≤ 600 := by simpa [smallP, Bool.and_eq_true] using hs
  obtain ⟨l1, l2, l3⟩ := hl
  have Hs := Lib.hid hs
  clear hs
  have ht := line_to ⟨h, f, false, l, fr, bo, to⟩ (⟨#[114, 115, 101, 116]⟩ : ByteArray).data.toList [[97]] rfl
  have hne := line_reply ⟨h, f, false, l, fr, bo, to⟩ (⟨#[114, 115, 101, 116]⟩ : ByteArray).data.toList [[97]] rfl
  have E2 := same_eq3 h f l fr bo to
  generalize hE : lineP ⟨h, f, false, l, fr, bo, to⟩ (⟨#[114, 115, 101, 116]⟩ : ByteArray).data.toList [[97]] = q at ht hne E2
  obtain ⟨⟨h', f', d', l', fr', bo', to'⟩, r⟩ := q
  have E1 := Lib.hid hE
  replace E2 := Lib.hid E2
  simp only at ht hne
  have hn1' : r.isEmpty = false := by cases r with | nil => exact absurd rfl hne | cons _ _ => rfl
  clear hE
  go_enter Try.func5, Try.ntmps5
  go_wp2_with fail
  refine (small_any ⟨h, f, false, l, fr, bo, to⟩ A c _ (by show to.length ≤ _; omega) (by show bo.length ≤ _; omega) (by show fr.length ≤ _; omega)).mono ?_
  rw [Hs.out]
  rintro e w1 ⟨rfl, hb1⟩
  have p0 := Lib.hid (blk_below (blk_new w (.cells #[.bool h, .bool f, .bool false, .bool l, strV fr, strV bo, .slice A to.length c] 25)) hb1 (by simp))
  have hB := ((Below.refl w.heap.size w).alloc (Nat.le_refl _) (.cells #[.bool h, .bool f, .bool false, .bool l, strV fr, strV bo, .slice A to.length c] 25)).trans (hb1.mono (by simp))
  replace Hr := Lib.hid (Hr.out.below hB (Nat.le_refl _))
  clear hb1
  have k0 : w1.cell? ⟨w.heap.size, 0, none⟩ = some (.bool h) := cell_blk p0.out 0
  have k1 : w1.cell? ⟨w.heap.size, 1, none⟩ = some (.bool f) := cell_blk p0.out 1
  have k2 : w1.cell? ⟨w.heap.size, 2, none⟩ = some (.bool false) := cell_blk p0.out 2
  have k3 : w1.cell? ⟨w.heap.size, 3, none⟩ = some (.bool l) := cell_blk p0.out 3
  have k4 : w1.cell? ⟨w.heap.size, 4, none⟩ = some (strV fr) := cell_blk p0.out 4
  have k5 : w1.cell? ⟨w.heap.size, 5, none⟩ = some (strV bo) := cell_blk p0.out 5
  have k6 : w1.cell? ⟨w.heap.size, 6, none⟩ = some (.slice A to.length c) := cell_blk p0.out 6
  go_upto_region 4 with fail
  clear k0 k1 k2 k3 k4 k5 k6
  have hA := ((Below.refl w1.heap.size w1).alloc (Nat.le_refl _) (.cells #[Value.string ⟨#[108, 104, 108, 111, 32, 88]⟩, Value.string ⟨#[76, 72, 76, 79, 32, 88]⟩, Value.string ⟨#[109, 97, 105, 108, 32, 102, 114, 111, 109, 58, 60, 62]⟩, Value.string ⟨#[77, 65, 73, 76, 32, 70, 82, 79, 77, 58, 60, 62]⟩, Value.string ⟨#[100, 97, 116, 97]⟩, Value.string ⟨#[68, 65, 84, 65]⟩, Value.string ⟨#[114, 115, 101, 116]⟩, Value.string ⟨#[82, 83, 69, 84]⟩, Value.string ⟨#[110, 111, 111, 112]⟩, Value.string ⟨#[78, 79, 79, 80]⟩, Value.string ⟨#[113, 117, 105, 116]⟩, Value.string ⟨#[81, 85, 73, 84]⟩, Value.string ⟨#[119, 104, 97, 116]⟩, Value.string ⟨#[87, 72, 65, 84]⟩, Value.string ⟨#[114, 99, 112, 116, 32, 116, 111, 58, 60, 97, 62]⟩, Value.string ⟨#[82, 67, 80, 84, 32, 84, 79, 58, 60, 97, 62]⟩] 35)).alloc (by simp) (.cells #[Value.string ⟨#[114, 115, 101, 116]⟩, Value.string ⟨#[82, 83, 69, 84]⟩] 35)
  replace p0 := Lib.hid (blk_below p0.out hA (blk_lt p0.out))
  have py := Lib.hid (two_new w1 (.cells #[Value.string ⟨#[108, 104, 108, 111, 32, 88]⟩, Value.string ⟨#[76, 72, 76, 79, 32, 88]⟩, Value.string ⟨#[109, 97, 105, 108, 32, 102, 114, 111, 109, 58, 60, 62]⟩, Value.string ⟨#[77, 65, 73, 76, 32, 70, 82, 79, 77, 58, 60, 62]⟩, Value.string ⟨#[100, 97, 116, 97]⟩, Value.string ⟨#[68, 65, 84, 65]⟩, Value.string ⟨#[114, 115, 101, 116]⟩, Value.string ⟨#[82, 83, 69, 84]⟩, Value.string ⟨#[110, 111, 111, 112]⟩, Value.string ⟨#[78, 79, 79, 80]⟩, Value.string ⟨#[113, 117, 105, 116]⟩, Value.string ⟨#[81, 85, 73, 84]⟩, Value.string ⟨#[119, 104, 97, 116]⟩, Value.string ⟨#[87, 72, 65, 84]⟩, Value.string ⟨#[114, 99, 112, 116, 32, 116, 111, 58, 60, 97, 62]⟩, Value.string ⟨#[82, 67, 80, 84, 32, 84, 79, 58, 60, 97, 62]⟩] 35) (.cells #[Value.string ⟨#[114, 115, 101, 116]⟩, Value.string ⟨#[82, 83, 69, 84]⟩] 35))
  replace Hr := Lib.hid (Hr.out.below hA hB.size)
  replace hB := hB.trans (hA.mono hB.size)
  generalize (w1.alloc (.cells #[Value.string ⟨#[108, 104, 108, 111, 32, 88]⟩, Value.string ⟨#[76, 72, 76, 79, 32, 88]⟩, Value.string ⟨#[109, 97, 105, 108, 32, 102, 114, 111, 109, 58, 60, 62]⟩, Value.string ⟨#[77, 65, 73, 76, 32, 70, 82, 79, 77, 58, 60, 62]⟩, Value.string ⟨#[100, 97, 116, 97]⟩, Value.string ⟨#[68, 65, 84, 65]⟩, Value.string ⟨#[114, 115, 101, 116]⟩, Value.string ⟨#[82, 83, 69, 84]⟩, Value.string ⟨#[110, 111, 111, 112]⟩, Value.string ⟨#[78, 79, 79, 80]⟩, Value.string ⟨#[113, 117, 105, 116]⟩, Value.string ⟨#[81, 85, 73, 84]⟩, Value.string ⟨#[119, 104, 97, 116]⟩, Value.string ⟨#[87, 72, 65, 84]⟩, Value.string ⟨#[114, 99, 112, 116, 32, 116, 111, 58, 60, 97, 62]⟩, Value.string ⟨#[82, 67, 80, 84, 32, 84, 79, 58, 60, 97, 62]⟩] 35)).alloc (.cells #[Value.string ⟨#[114, 115, 101, 116]⟩, Value.string ⟨#[82, 83, 69, 84]⟩] 35) = w2 at *
  generalize w1.heap.size + 1 = By at *
  clear hA hk hn0 hn1 hne
  have k0 : w2.cell? ⟨w.heap.size, 0, none⟩ = some (.bool h) := cell_blk p0.out 0
  have k1 : w2.cell? ⟨w.heap.size, 1, none⟩ = some (.bool f) := cell_blk p0.out 1
  have k2 : w2.cell? ⟨w.heap.size, 2, none⟩ = some (.bool false) := cell_blk p0.out 2
  have k3 : w2.cell? ⟨w.heap.size, 3, none⟩ = some (.bool l) := cell_blk p0.out 3
  have k4 : w2.cell? ⟨w.heap.size, 4, none⟩ = some (strV fr) := cell_blk p0.out 4
  have k5 : w2.cell? ⟨w.heap.size, 5, none⟩ = some (strV bo) := cell_blk p0.out 5
  have k6 : w2.cell? ⟨w.heap.size, 6, none⟩ = some (.slice A to.length c) := cell_blk p0.out 6
  have y0 : w2.cell? ⟨By, 0, none⟩ = some (Value.string ⟨#[114, 115, 101, 116]⟩) := cell_blk py.out 0
  have y1 : w2.cell? ⟨By, 1, none⟩ = some (Value.string ⟨#[82, 83, 69, 84]⟩) := cell_blk py.out 1
  go_wp2_with fail
  have hU := (Below.refl w2.heap.size w2).alloc (Nat.le_refl _) (.cells #[strV [97]] 9)
  have hmx : (w2.alloc (.cells #[strV [97]] 9)).cell? ⟨0, 0, none⟩ = some (.int .i64 m) := ((hB.trans (hU.mono hB.size)).cell hw0).trans Hm.out
  refine (line_any ⟨h, f, false, l, fr, bo, to⟩ (.slice A to.length c) ⟨#[114, 115, 101, 116]⟩ (.slice (some ⟨w2.heap.size, 0, none⟩) 1 1) [[97]] m _ ((Hr.out.below hU hB.size).more (hB.trans (hU.mono hB.size)).size) (rds_single w2 [97] 9) hmx (by show to.length ≤ _; omega) (by show bo.length ≤ _; omega) (by decide) (by decide)).mono ?_
  rw [E1.out]
  rintro e w3 ⟨tv, rfl, ho, hb1⟩
  obtain ⟨A1, c1, e1, _⟩ := ho.form
  simp only at e1
  subst e1
  clear k0 k1 k2 k3 k4 k5 k6 y0 y1
  have hb2 : Below w2.heap.size w2 w3 := hU.trans (hb1.mono hU.size)
  have hA := hb2.alloc hb2.size (.cells #[.bool h', .bool f', .bool d', .bool l', strV fr', strV bo', .slice A1 to'.length c1] 25)
  replace p0 := Lib.hid (blk_below p0.out hA (blk_lt p0.out))
  replace py := Lib.hid (blk_below py.out hA (blk_lt py.out))
  have p1 := Lib.hid (blk_new w3 (.cells #[.bool h', .bool f', .bool d', .bool l', strV fr', strV bo', .slice A1 to'.length c1] 25))
  replace Hr := Lib.hid (Hr.out.below hA hB.size)
  replace hB := hB.trans (hA.mono hB.size)
  have Ho1 := Lib.hid ((ho.rd).below ((Below.refl _ _).alloc (Nat.le_refl _) (.cells #[.bool h', .bool f', .bool d', .bool l', strV fr', strV bo', .slice A1 to'.length c1] 25)) (Nat.le_refl _))
  go_upto_region 5 with fail
  generalize w3.alloc (.cells #[.bool h', .bool f', .bool d', .bool l', strV fr', strV bo', .slice A1 to'.length c1] 25) = w3' at *
  generalize w3.heap.size = B1 at *
  clear hA ho hb1 hb2 hmx hU
  have k0 : w3'.cell? ⟨w.heap.size, 0, none⟩ = some (.bool h) := cell_blk p0.out 0
  have k1 : w3'.cell? ⟨w.heap.size, 1, none⟩ = some (.bool f) := cell_blk p0.out 1
  have k2 : w3'.cell? ⟨w.heap.size, 2, none⟩ = some (.bool false) := cell_blk p0.out 2
  have k3 : w3'.cell? ⟨w.heap.size, 3, none⟩ = some (.bool l) := cell_blk p0.out 3
  have k4 : w3'.cell? ⟨w.heap.size, 4, none⟩ = some (strV fr) := cell_blk p0.out 4
  have k5 : w3'.cell? ⟨w.heap.size, 5, none⟩ = some (strV bo) := cell_blk p0.out 5
  have k6 : w3'.cell? ⟨w.heap.size, 6, none⟩ = some (.slice A to.length c) := cell_blk p0.out 6
  have y0 : w3'.cell? ⟨By, 0, none⟩ = some (Value.string ⟨#[114, 115, 101, 116]⟩) := cell_blk py.out 0
  have y1 : w3'.cell? ⟨By, 1, none⟩ = some (Value.string ⟨#[82, 83, 69, 84]⟩) := cell_blk py.out 1
  go_wp2_with fail
  have hU := (Below.refl w3'.heap.size w3').alloc (Nat.le_refl _) (.cells #[strV [97]] 9)
  have hmx : (w3'.alloc (.cells #[strV [97]] 9)).cell? ⟨0, 0, none⟩ = some (.int .i64 m) := ((hB.trans (hU.mono hB.size)).cell hw0).trans Hm.out
  refine (line_any ⟨h, f, false, l, fr, bo, to⟩ (.slice A to.length c) ⟨#[82, 83, 69, 84]⟩ (.slice (some ⟨w3'.heap.size, 0, none⟩) 1 1) [[97]] m _ ((Hr.out.below hU hB.size).more (hB.trans (hU.mono hB.size)).size) (rds_single w3' [97] 9) hmx (by show to.length ≤ _; omega) (by show bo.length ≤ _; omega) (by decide) (by decide)).mono ?_
  rw [E2.out]
  rintro e w4 ⟨tv, rfl, ho, hb1⟩
  obtain ⟨A2, c2, e1, _⟩ := ho.form
  simp only at e1
  subst e1
  clear k0 k1 k2 k3 k4 k5 k6 y0 y1
  have hb2 : Below w3'.heap.size w3' w4 := hU.trans (hb1.mono hU.size)
  have hA := hb2.alloc hb2.size (.cells #[.bool h', .bool f', .bool d', .bool l', strV fr', strV bo', .slice A2 to'.length c2] 25)
  have hlt1 := blk_lt p1.out
  replace p0 := Lib.hid (blk_below p0.out hA (blk_lt p0.out))
  replace py := Lib.hid (blk_below py.out hA (blk_lt py.out))
  replace p1 := Lib.hid (blk_below p1.out hA (blk_lt p1.out))
  have p2 := Lib.hid (blk_new w4 (.cells #[.bool h', .bool f', .bool d', .bool l', strV fr', strV bo', .slice A2 to'.length c2] 25))
  replace Hr := Lib.hid (Hr.out.below hA hB.size)
  replace Ho1 := Lib.hid (Ho1.out.below hA (Nat.le_of_lt hlt1))
  replace hB := hB.trans (hA.mono hB.size)
  have Ho2 := Lib.hid ((ho.rd).below ((Below.refl _ _).alloc (Nat.le_refl _) (.cells #[.bool h', .bool f', .bool d', .bool l', strV fr', strV bo', .slice A2 to'.length c2] 25)) (Nat.le_refl _))
  go_upto_region 6 with fail
  generalize w4.alloc (.cells #[.bool h', .bool f', .bool d', .bool l', strV fr', strV bo', .slice A2 to'.length c2] 25) = w4' at *
  generalize w4.heap.size = B2 at *
  clear hA ho hb1 hb2 hmx hU
  replace Ho2 := Lib.hid (Ho2.out.more (Nat.le_of_lt (blk_lt p2.out)))
  replace Ho1 := Lib.hid (Ho1.out.more (Nat.le_of_lt (blk_lt p1.out)))
  have hmx' := Lib.hid ((hB.cell hw0).trans Hm.out)
  have HB := Lib.hid hB
  clear hB Hm Hs Hr E1 E2 p0 py
  refine RG.wp_region_det (fun w' => Below w4'.heap.size w4' w') (by kernel_rfl) (by kernel_rfl) ((Below.refl _ _).drew) ?_
  apply RG.wpDet_cons
  · intro w9 hw9
    go_wp2_with fail
    with_reducible refine RG.only_mk ?_
    exact hw9
  · rfl
  apply RG.wpDet_cons
  · intro w9 hw9
    go_wp2_with fail
    with_reducible refine RG.only_mk ?_
    exact hw9
  · rfl
  apply RG.wpDet_cons
  · intro w9 hw9
    go_wp2_with fail
    with_reducible refine RG.only_mk ?_
    exact hw9
  · rfl
  apply RG.wpDet_cons
  · intro w9 hw9
    go_wp2_with fail
    with_reducible refine RG.only_mk ?_
    exact hw9
  · rfl
  apply RG.wpDet_cons
  · intro w9 hw9
    go_wp2_with fail
    with_reducible refine RG.only_mk ?_
    exact hw9
  · rfl
  apply RG.wpDet_cons
  · intro w9 hw9
    go_wp2_with fail
    with_reducible refine RG.only_mk ?_
    exact hw9
  · rfl
  apply RG.wpDet_cons
  · intro w9 hw9
    go_wp2_with fail
    with_reducible refine RG.only_mk ?_
    exact hw9
  · rfl
  apply RG.wpDet_cons
  · intro w9 hw9
    go_wp2_with fail
    with_reducible refine RG.only_mk ?_
    exact hw9
  · rfl
  apply RG.wpDet_cons
  · intro w9 hw9
    have p9 := blk_below p1.out hw9 (blk_lt p1.out)
    have k0 : w9.cell? ⟨B1, 0, none⟩ = some (.bool h') := cell_blk p9 0
    have k1 : w9.cell? ⟨B1, 1, none⟩ = some (.bool f') := cell_blk p9 1
    have k2 : w9.cell? ⟨B1, 2, none⟩ = some (.bool d') := cell_blk p9 2
    have k3 : w9.cell? ⟨B1, 3, none⟩ = some (.bool l') := cell_blk p9 3
    have k4 : w9.cell? ⟨B1, 4, none⟩ = some (strV fr') := cell_blk p9 4
    have k5 : w9.cell? ⟨B1, 5, none⟩ = some (strV bo') := cell_blk p9 5
    have k6 : w9.cell? ⟨B1, 6, none⟩ = some (.slice A1 to'.length c1) := cell_blk p9 6
    clear p9
    go_wp2_with fail
    with_reducible refine RG.only_mk ?_
    exact hw9
  · rfl
  apply RG.wpDet_cons
  · intro w9 hw9
    go_wp2_with (go_at_call 12; refine (ref_any _ _ _ _ _ _ _ _ _ _).mono ?_; rintro e w8 ⟨rfl, hb8⟩)
    with_reducible refine RG.only_mk ?_
    exact hw9.trans (hb8.mono hw9.size)
  · rfl
  apply RG.wpDet_cons
  · intro w9 hw9
    have p9 := blk_below p2.out hw9 (blk_lt p2.out)
    have k0 : w9.cell? ⟨B2, 0, none⟩ = some (.bool h') := cell_blk p9 0
    have k1 : w9.cell? ⟨B2, 1, none⟩ = some (.bool f') := cell_blk p9 1
    have k2 : w9.cell? ⟨B2, 2, none⟩ = some (.bool d') := cell_blk p9 2
    have k3 : w9.cell? ⟨B2, 3, none⟩ = some (.bool l') := cell_blk p9 3
    have k4 : w9.cell? ⟨B2, 4, none⟩ = some (strV fr') := cell_blk p9 4
    have k5 : w9.cell? ⟨B2, 5, none⟩ = some (strV bo') := cell_blk p9 5
    have k6 : w9.cell? ⟨B2, 6, none⟩ = some (.slice A2 to'.length c2) := cell_blk p9 6
    clear p9
    go_wp2_with fail
    with_reducible refine RG.only_mk ?_
    exact hw9
  · rfl
  apply RG.wpDet_cons
  · intro w9 hw9
    go_wp2_with (go_at_call 12; refine (ref_any _ _ _ _ _ _ _ _ _ _).mono ?_; rintro e w8 ⟨rfl, hb8⟩)
    with_reducible refine RG.only_mk ?_
    exact hw9.trans (hb8.mono hw9.size)
  · rfl
  apply RG.wpDet_cons
  · intro w9 hw9
    go_wp2_with (go_at_call 11; refine (equal_same _ _ _ _ _ _ _ _ _ _ w4'.heap.size to' _ (Ho1.out.below hw9 (Nat.le_refl _)) (Ho2.out.below hw9 (Nat.le_refl _)) (Below.size hw9) (by omega)).mono ?_; rintro e w8 ⟨rfl, hb8⟩)
    with_reducible refine RG.only_mk ?_
    exact hw9.trans (hb8.mono hw9.size)
  · rfl
  apply RG.wpDet_cons
  · intro w9 hw9
    go_wp2_with fail
    with_reducible refine RG.only_mk ?_
    exact hw9
  · rfl
  apply RG.wpDet_cons
  · intro w9 hw9
    go_wp2_with fail
    with_reducible refine RG.only_mk ?_
    exact hw9
  · rfl
  apply RG.wpDet_cons
  · intro w9 hw9
    go_wp2_with (go_at_call 6; refine (awake_any m _ ((hw9.cell (Nat.lt_of_lt_of_le hw0 HB.out.size)).trans hmx'.out)).mono ?_; rintro e w8 ⟨rfl, hb8⟩)
    with_reducible refine RG.only_mk ?_
    exact hw9.trans (hb8.mono hw9.size)
  · rfl
  apply RG.wpDet_cons
  · intro w9 hw9
    go_wp2_with fail
    with_reducible refine RG.only_mk ?_
    exact hw9
  · rfl
  apply RG.wpDet_cons
  · intro w9 hw9
    go_wp2_with fail
    with_reducible refine RG.only_mk ?_
    exact hw9
  · rfl
  refine RG.wpDet_nil (fun w9 hw9 => ?_)
  go_wp2
  go_ret
  exact ⟨rfl, HB.out.trans (hw9.mono HB.out.size)⟩
set_option maxHeartbeats 4000000 in
theorem same_4 (n : Int) (hn0 : 0 ≤ n) (hn1 : n ≤ 255) (hk : n % 8 = 4) (h f l : Bool) (fr bo : Bs) (to : List Bs) (A : Option Addr) (c : Nat) (m : Int) (w : World) (hm : w.cell? ⟨0, 0, none⟩ = some (.int .i64 m)) (hr : RdS w w.heap.size (.slice A to.length c) to) (hs : smallP ⟨h, f, false, l, fr, bo, to⟩ = true) :
    Calls Try.prog 5 #[stV ⟨h, f, false, l, fr, bo, to⟩ (.slice A to.length c), .int .u8 n] w fun e w' => e = .returned (.bool true) ∧ Below w.heap.size w w' := by
  have hw0 : 0 < w.heap.size := World.block_lt_of_cell? w _ hm
  have Hm := Lib.hid hm
  have Hr := Lib.hid hr
  clear hm hr
  have hl : to.length ≤ 10 ∧ bo.length ≤ 2000 ∧ fr.length ≤ 600 := by simpa [smallP, Bool.and_eq_true] using hs
  obtain ⟨l1, l2, l3⟩ := hl
  have Hs := Lib.hid hs
  clear hs
  have ht := line_to ⟨h, f, false, l, fr, bo, to⟩ (⟨#[110, 111, 111, 112]⟩ : ByteArray).data.toList [[97]] rfl
  have hne := line_reply ⟨h, f, false, l, fr, bo, to⟩ (⟨#[110, 111, 111, 112]⟩ : ByteArray).data.toList [[97]] rfl
  have E2 := same_eq4 h f l fr bo to
  generalize hE : lineP ⟨h, f, false, l, fr, bo, to⟩ (⟨#[110, 111, 111, 112]⟩ : ByteArray).data.toList [[97]] = q at ht hne E2
  obtain ⟨⟨h', f', d', l', fr', bo', to'⟩, r⟩ := q
  have E1 := Lib.hid hE
  replace E2 := Lib.hid E2
  simp only at ht hne
  have hn1' : r.isEmpty = false := by cases r with | nil => exact absurd rfl hne | cons _ _ => rfl
  clear hE
  go_enter Try.func5, Try.ntmps5
  go_wp2_with fail
  refine (small_any ⟨h, f, false, l, fr, bo, to⟩ A c _ (by show to.length ≤ _; omega) (by show bo.length ≤ _; omega) (by show fr.length ≤ _; omega)).mono ?_
  rw [Hs.out]
  rintro e w1 ⟨rfl, hb1⟩
  have p0 := Lib.hid (blk_below (blk_new w (.cells #[.bool h, .bool f, .bool false, .bool l, strV fr, strV bo, .slice A to.length c] 25)) hb1 (by simp))
  have hB := ((Below.refl w.heap.size w).alloc (Nat.le_refl _) (.cells #[.bool h, .bool f, .bool false, .bool l, strV fr, strV bo, .slice A to.length c] 25)).trans (hb1.mono (by simp))
  replace Hr := Lib.hid (Hr.out.below hB (Nat.le_refl _))
  clear hb1
  have k0 : w1.cell? ⟨w.heap.size, 0, none⟩ = some (.bool h) := cell_blk p0.out 0
  have k1 : w1.cell? ⟨w.heap.size, 1, none⟩ = some (.bool f) := cell_blk p0.out 1
  have k2 : w1.cell? ⟨w.heap.size, 2, none⟩ = some (.bool false) := cell_blk p0.out 2
  have k3 : w1.cell? ⟨w.heap.size, 3, none⟩ = some (.bool l) := cell_blk p0.out 3
  have k4 : w1.cell? ⟨w.heap.size, 4, none⟩ = some (strV fr) := cell_blk p0.out 4
  have k5 : w1.cell? ⟨w.heap.size, 5, none⟩ = some (strV bo) := cell_blk p0.out 5
  have k6 : w1.cell? ⟨w.heap.size, 6, none⟩ = some (.slice A to.length c) := cell_blk p0.out 6
  go_upto_region 4 with fail
  clear k0 k1 k2 k3 k4 k5 k6
  have hA := ((Below.refl w1.heap.size w1).alloc (Nat.le_refl _) (.cells #[Value.string ⟨#[108, 104, 108, 111, 32, 88]⟩, Value.string ⟨#[76, 72, 76, 79, 32, 88]⟩, Value.string ⟨#[109, 97, 105, 108, 32, 102, 114, 111, 109, 58, 60, 62]⟩, Value.string ⟨#[77, 65, 73, 76, 32, 70, 82, 79, 77, 58, 60, 62]⟩, Value.string ⟨#[100, 97, 116, 97]⟩, Value.string ⟨#[68, 65, 84, 65]⟩, Value.string ⟨#[114, 115, 101, 116]⟩, Value.string ⟨#[82, 83, 69, 84]⟩, Value.string ⟨#[110, 111, 111, 112]⟩, Value.string ⟨#[78, 79, 79, 80]⟩, Value.string ⟨#[113, 117, 105, 116]⟩, Value.string ⟨#[81, 85, 73, 84]⟩, Value.string ⟨#[119, 104, 97, 116]⟩, Value.string ⟨#[87, 72, 65, 84]⟩, Value.string ⟨#[114, 99, 112, 116, 32, 116, 111, 58, 60, 97, 62]⟩, Value.string ⟨#[82, 67, 80, 84, 32, 84, 79, 58, 60, 97, 62]⟩] 35)).alloc (by simp) (.cells #[Value.string ⟨#[110, 111, 111, 112]⟩, Value.string ⟨#[78, 79, 79, 80]⟩] 35)
  replace p0 := Lib.hid (blk_below p0.out hA (blk_lt p0.out))
  have py := Lib.hid (two_new w1 (.cells #[Value.string ⟨#[108, 104, 108, 111, 32, 88]⟩, Value.string ⟨#[76, 72, 76, 79, 32, 88]⟩, Value.string ⟨#[109, 97, 105, 108, 32, 102, 114, 111, 109, 58, 60, 62]⟩, Value.string ⟨#[77, 65, 73, 76, 32, 70, 82, 79, 77, 58, 60, 62]⟩, Value.string ⟨#[100, 97, 116, 97]⟩, Value.string ⟨#[68, 65, 84, 65]⟩, Value.string ⟨#[114, 115, 101, 116]⟩, Value.string ⟨#[82, 83, 69, 84]⟩, Value.string ⟨#[110, 111, 111, 112]⟩, Value.string ⟨#[78, 79, 79, 80]⟩, Value.string ⟨#[113, 117, 105, 116]⟩, Value.string ⟨#[81, 85, 73, 84]⟩, Value.string ⟨#[119, 104, 97, 116]⟩, Value.string ⟨#[87, 72, 65, 84]⟩, Value.string ⟨#[114, 99, 112, 116, 32, 116, 111, 58, 60, 97, 62]⟩, Value.string ⟨#[82, 67, 80, 84, 32, 84, 79, 58, 60, 97, 62]⟩] 35) (.cells #[Value.string ⟨#[110, 111, 111, 112]⟩, Value.string ⟨#[78, 79, 79, 80]⟩] 35))
  replace Hr := Lib.hid (Hr.out.below hA hB.size)
  replace hB := hB.trans (hA.mono hB.size)
  generalize (w1.alloc (.cells #[Value.string ⟨#[108, 104, 108, 111, 32, 88]⟩, Value.string ⟨#[76, 72, 76, 79, 32, 88]⟩, Value.string ⟨#[109, 97, 105, 108, 32, 102, 114, 111, 109, 58, 60, 62]⟩, Value.string ⟨#[77, 65, 73, 76, 32, 70, 82, 79, 77, 58, 60, 62]⟩, Value.string ⟨#[100, 97, 116, 97]⟩, Value.string ⟨#[68, 65, 84, 65]⟩, Value.string ⟨#[114, 115, 101, 116]⟩, Value.string ⟨#[82, 83, 69, 84]⟩, Value.string ⟨#[110, 111, 111, 112]⟩, Value.string ⟨#[78, 79, 79, 80]⟩, Value.string ⟨#[113, 117, 105, 116]⟩, Value.string ⟨#[81, 85, 73, 84]⟩, Value.string ⟨#[119, 104, 97, 116]⟩, Value.string ⟨#[87, 72, 65, 84]⟩, Value.string ⟨#[114, 99, 112, 116, 32, 116, 111, 58, 60, 97, 62]⟩, Value.string ⟨#[82, 67, 80, 84, 32, 84, 79, 58, 60, 97, 62]⟩] 35)).alloc (.cells #[Value.string ⟨#[110, 111, 111, 112]⟩, Value.string ⟨#[78, 79, 79, 80]⟩] 35) = w2 at *
  generalize w1.heap.size + 1 = By at *
  clear hA hk hn0 hn1 hne
  have k0 : w2.cell? ⟨w.heap.size, 0, none⟩ = some (.bool h) := cell_blk p0.out 0
  have k1 : w2.cell? ⟨w.heap.size, 1, none⟩ = some (.bool f) := cell_blk p0.out 1
  have k2 : w2.cell? ⟨w.heap.size, 2, none⟩ = some (.bool false) := cell_blk p0.out 2
  have k3 : w2.cell? ⟨w.heap.size, 3, none⟩ = some (.bool l) := cell_blk p0.out 3
  have k4 : w2.cell? ⟨w.heap.size, 4, none⟩ = some (strV fr) := cell_blk p0.out 4
  have k5 : w2.cell? ⟨w.heap.size, 5, none⟩ = some (strV bo) := cell_blk p0.out 5
  have k6 : w2.cell? ⟨w.heap.size, 6, none⟩ = some (.slice A to.length c) := cell_blk p0.out 6
  have y0 : w2.cell? ⟨By, 0, none⟩ = some (Value.string ⟨#[110, 111, 111, 112]⟩) := cell_blk py.out 0
  have y1 : w2.cell? ⟨By, 1, none⟩ = some (Value.string ⟨#[78, 79, 79, 80]⟩) := cell_blk py.out 1
  go_wp2_with fail
  have hU := (Below.refl w2.heap.size w2).alloc (Nat.le_refl _) (.cells #[strV [97]] 9)
  have hmx : (w2.alloc (.cells #[strV [97]] 9)).cell? ⟨0, 0, none⟩ = some (.int .i64 m) := ((hB.trans (hU.mono hB.size)).cell hw0).trans Hm.out
  refine (line_any ⟨h, f, false, l, fr, bo, to⟩ (.slice A to.length c) ⟨#[110, 111, 111, 112]⟩ (.slice (some ⟨w2.heap.size, 0, none⟩) 1 1) [[97]] m _ ((Hr.out.below hU hB.size).more (hB.trans (hU.mono hB.size)).size) (rds_single w2 [97] 9) hmx (by show to.length ≤ _; omega) (by show bo.length ≤ _; omega) (by decide) (by decide)).mono ?_
  rw [E1.out]
  rintro e w3 ⟨tv, rfl, ho, hb1⟩
  obtain ⟨A1, c1, e1, _⟩ := ho.form
  simp only at e1
  subst e1
  clear k0 k1 k2 k3 k4 k5 k6 y0 y1
  have hb2 : Below w2.heap.size w2 w3 := hU.trans (hb1.mono hU.size)
  have hA := hb2.alloc hb2.size (.cells #[.bool h', .bool f', .bool d', .bool l', strV fr', strV bo', .slice A1 to'.length c1] 25)
  replace p0 := Lib.hid (blk_below p0.out hA (blk_lt p0.out))
  replace py := Lib.hid (blk_below py.out hA (blk_lt py.out))
  have p1 := Lib.hid (blk_new w3 (.cells #[.bool h', .bool f', .bool d', .bool l', strV fr', strV bo', .slice A1 to'.length c1] 25))
  replace Hr := Lib.hid (Hr.out.below hA hB.size)
  replace hB := hB.trans (hA.mono hB.size)
  have Ho1 := Lib.hid ((ho.rd).below ((Below.refl _ _).alloc (Nat.le_refl _) (.cells #[.bool h', .bool f', .bool d', .bool l', strV fr', strV bo', .slice A1 to'.length c1] 25)) (Nat.le_refl _))
  go_upto_region 5 with fail
  generalize w3.alloc (.cells #[.bool h', .bool f', .bool d', .bool l', strV fr', strV bo', .slice A1 to'.length c1] 25) = w3' at *
  generalize w3.heap.size = B1 at *
  clear hA ho hb1 hb2 hmx hU
  have k0 : w3'.cell? ⟨w.heap.size, 0, none⟩ = some (.bool h) := cell_blk p0.out 0
  have k1 : w3'.cell? ⟨w.heap.size, 1, none⟩ = some (.bool f) := cell_blk p0.out 1
  have k2 : w3'.cell? ⟨w.heap.size, 2, none⟩ = some (.bool false) := cell_blk p0.out 2
  have k3 : w3'.cell? ⟨w.heap.size, 3, none⟩ = some (.bool l) := cell_blk p0.out 3
  have k4 : w3'.cell? ⟨w.heap.size, 4, none⟩ = some (strV fr) := cell_blk p0.out 4
  have k5 : w3'.cell? ⟨w.heap.size, 5, none⟩ = some (strV bo) := cell_blk p0.out 5
  have k6 : w3'.cell? ⟨w.heap.size, 6, none⟩ = some (.slice A to.length c) := cell_blk p0.out 6
  have y0 : w3'.cell? ⟨By, 0, none⟩ = some (Value.string ⟨#[110, 111, 111, 112]⟩) := cell_blk py.out 0
  have y1 : w3'.cell? ⟨By, 1, none⟩ = some (Value.string ⟨#[78, 79, 79, 80]⟩) := cell_blk py.out 1
  go_wp2_with fail
  have hU := (Below.refl w3'.heap.size w3').alloc (Nat.le_refl _) (.cells #[strV [97]] 9)
  have hmx : (w3'.alloc (.cells #[strV [97]] 9)).cell? ⟨0, 0, none⟩ = some (.int .i64 m) := ((hB.trans (hU.mono hB.size)).cell hw0).trans Hm.out
  refine (line_any ⟨h, f, false, l, fr, bo, to⟩ (.slice A to.length c) ⟨#[78, 79, 79, 80]⟩ (.slice (some ⟨w3'.heap.size, 0, none⟩) 1 1) [[97]] m _ ((Hr.out.below hU hB.size).more (hB.trans (hU.mono hB.size)).size) (rds_single w3' [97] 9) hmx (by show to.length ≤ _; omega) (by show bo.length ≤ _; omega) (by decide) (by decide)).mono ?_
  rw [E2.out]
  rintro e w4 ⟨tv, rfl, ho, hb1⟩
  obtain ⟨A2, c2, e1, _⟩ := ho.form
  simp only at e1
  subst e1
  clear k0 k1 k2 k3 k4 k5 k6 y0 y1
  have hb2 : Below w3'.heap.size w3' w4 := hU.trans (hb1.mono hU.size)
  have hA := hb2.alloc hb2.size (.cells #[.bool h', .bool f', .bool d', .bool l', strV fr', strV bo', .slice A2 to'.length c2] 25)
  have hlt1 := blk_lt p1.out
  replace p0 := Lib.hid (blk_below p0.out hA (blk_lt p0.out))
  replace py := Lib.hid (blk_below py.out hA (blk_lt py.out))
  replace p1 := Lib.hid (blk_below p1.out hA (blk_lt p1.out))
  have p2 := Lib.hid (blk_new w4 (.cells #[.bool h', .bool f', .bool d', .bool l', strV fr', strV bo', .slice A2 to'.length c2] 25))
  replace Hr := Lib.hid (Hr.out.below hA hB.size)
  replace Ho1 := Lib.hid (Ho1.out.below hA (Nat.le_of_lt hlt1))
  replace hB := hB.trans (hA.mono hB.size)
  have Ho2 := Lib.hid ((ho.rd).below ((Below.refl _ _).alloc (Nat.le_refl _) (.cells #[.bool h', .bool f', .bool d', .bool l', strV fr', strV bo', .slice A2 to'.length c2] 25)) (Nat.le_refl _))
  go_upto_region 6 with fail
  generalize w4.alloc (.cells #[.bool h', .bool f', .bool d', .bool l', strV fr', strV bo', .slice A2 to'.length c2] 25) = w4' at *
  generalize w4.heap.size = B2 at *
  clear hA ho hb1 hb2 hmx hU
  replace Ho2 := Lib.hid (Ho2.out.more (Nat.le_of_lt (blk_lt p2.out)))
  replace Ho1 := Lib.hid (Ho1.out.more (Nat.le_of_lt (blk_lt p1.out)))
  have hmx' := Lib.hid ((hB.cell hw0).trans Hm.out)
  have HB := Lib.hid hB
  clear hB Hm Hs Hr E1 E2 p0 py
  refine RG.wp_region_det (fun w' => Below w4'.heap.size w4' w') (by kernel_rfl) (by kernel_rfl) ((Below.refl _ _).drew) ?_
  apply RG.wpDet_cons
  · intro w9 hw9
    go_wp2_with fail
    with_reducible refine RG.only_mk ?_
    exact hw9
  · rfl
  apply RG.wpDet_cons
  · intro w9 hw9
    go_wp2_with fail
    with_reducible refine RG.only_mk ?_
    exact hw9
  · rfl
  apply RG.wpDet_cons
  · intro w9 hw9
    go_wp2_with fail
    with_reducible refine RG.only_mk ?_
    exact hw9
  · rfl
  apply RG.wpDet_cons
  · intro w9 hw9
    go_wp2_with fail
    with_reducible refine RG.only_mk ?_
    exact hw9
  · rfl
  apply RG.wpDet_cons
  · intro w9 hw9
    go_wp2_with fail
    with_reducible refine RG.only_mk ?_
    exact hw9
  · rfl
  apply RG.wpDet_cons
  · intro w9 hw9
    go_wp2_with fail
    with_reducible refine RG.only_mk ?_
    exact hw9
  · rfl
  apply RG.wpDet_cons
  · intro w9 hw9
    go_wp2_with fail
    with_reducible refine RG.only_mk ?_
    exact hw9
  · rfl
  apply RG.wpDet_cons
  · intro w9 hw9
    go_wp2_with fail
    with_reducible refine RG.only_mk ?_
    exact hw9
  · rfl
  apply RG.wpDet_cons
  · intro w9 hw9
    have p9 := blk_below p1.out hw9 (blk_lt p1.out)
    have k0 : w9.cell? ⟨B1, 0, none⟩ = some (.bool h') := cell_blk p9 0
    have k1 : w9.cell? ⟨B1, 1, none⟩ = some (.bool f') := cell_blk p9 1
    have k2 : w9.cell? ⟨B1, 2, none⟩ = some (.bool d') := cell_blk p9 2
    have k3 : w9.cell? ⟨B1, 3, none⟩ = some (.bool l') := cell_blk p9 3
    have k4 : w9.cell? ⟨B1, 4, none⟩ = some (strV fr') := cell_blk p9 4
    have k5 : w9.cell? ⟨B1, 5, none⟩ = some (strV bo') := cell_blk p9 5
    have k6 : w9.cell? ⟨B1, 6, none⟩ = some (.slice A1 to'.length c1) := cell_blk p9 6
    clear p9
    go_wp2_with fail
    with_reducible refine RG.only_mk ?_
    exact hw9
  · rfl
  apply RG.wpDet_cons
  · intro w9 hw9
    go_wp2_with (go_at_call 12; refine (ref_any _ _ _ _ _ _ _ _ _ _).mono ?_; rintro e w8 ⟨rfl, hb8⟩)
    with_reducible refine RG.only_mk ?_
    exact hw9.trans (hb8.mono hw9.size)
  · rfl
  apply RG.wpDet_cons
  · intro w9 hw9
    have p9 := blk_below p2.out hw9 (blk_lt p2.out)
    have k0 : w9.cell? ⟨B2, 0, none⟩ = some (.bool h') := cell_blk p9 0
    have k1 : w9.cell? ⟨B2, 1, none⟩ = some (.bool f') := cell_blk p9 1
    have k2 : w9.cell? ⟨B2, 2, none⟩ = some (.bool d') := cell_blk p9 2
    have k3 : w9.cell? ⟨B2, 3, none⟩ = some (.bool l') := cell_blk p9 3
    have k4 : w9.cell? ⟨B2, 4, none⟩ = some (strV fr') := cell_blk p9 4
    have k5 : w9.cell? ⟨B2, 5, none⟩ = some (strV bo') := cell_blk p9 5
    have k6 : w9.cell? ⟨B2, 6, none⟩ = some (.slice A2 to'.length c2) := cell_blk p9 6
    clear p9
    go_wp2_with fail
    with_reducible refine RG.only_mk ?_
    exact hw9
  · rfl
  apply RG.wpDet_cons
  · intro w9 hw9
    go_wp2_with (go_at_call 12; refine (ref_any _ _ _ _ _ _ _ _ _ _).mono ?_; rintro e w8 ⟨rfl, hb8⟩)
    with_reducible refine RG.only_mk ?_
    exact hw9.trans (hb8.mono hw9.size)
  · rfl
  apply RG.wpDet_cons
  · intro w9 hw9
    go_wp2_with (go_at_call 11; refine (equal_same _ _ _ _ _ _ _ _ _ _ w4'.heap.size to' _ (Ho1.out.below hw9 (Nat.le_refl _)) (Ho2.out.below hw9 (Nat.le_refl _)) (Below.size hw9) (by omega)).mono ?_; rintro e w8 ⟨rfl, hb8⟩)
    with_reducible refine RG.only_mk ?_
    exact hw9.trans (hb8.mono hw9.size)
  · rfl
  apply RG.wpDet_cons
  · intro w9 hw9
    go_wp2_with fail
    with_reducible refine RG.only_mk ?_
    exact hw9
  · rfl
  apply RG.wpDet_cons
  · intro w9 hw9
    go_wp2_with fail
    with_reducible refine RG.only_mk ?_
    exact hw9
  · rfl
  apply RG.wpDet_cons
  · intro w9 hw9
    go_wp2_with (go_at_call 6; refine (awake_any m _ ((hw9.cell (Nat.lt_of_lt_of_le hw0 HB.out.size)).trans hmx'.out)).mono ?_; rintro e w8 ⟨rfl, hb8⟩)
    with_reducible refine RG.only_mk ?_
    exact hw9.trans (hb8.mono hw9.size)
  · rfl
  apply RG.wpDet_cons
  · intro w9 hw9
    go_wp2_with fail
    with_reducible refine RG.only_mk ?_
    exact hw9
  · rfl
  apply RG.wpDet_cons
  · intro w9 hw9
    go_wp2_with fail
    with_reducible refine RG.only_mk ?_
    exact hw9
  · rfl
  refine RG.wpDet_nil (fun w9 hw9 => ?_)
  go_wp2
  go_ret
  exact ⟨rfl, HB.out.trans (hw9.mono HB.out.size)⟩
set_option maxHeartbeats 4000000 in
theorem same_5 (n : Int) (hn0 : 0 ≤ n) (hn1 : n ≤ 255) (hk : n % 8 = 5) (h f l : Bool) (fr bo : Bs) (to : List Bs) (A : Option Addr) (c : Nat) (m : Int) (w : World) (hm : w.cell? ⟨0, 0, none⟩ = some (.int .i64 m)) (hr : RdS w w.heap.size (.slice A to.length c) to) (hs : smallP ⟨h, f, false, l, fr, bo, to⟩ = true) :
    Calls Try.prog 5 #[stV ⟨h, f, false, l, fr, bo, to⟩ (.slice A to.length c), .int .u8 n] w fun e w' => e = .returned (.bool true) ∧ Below w.heap.size w w' := by
  have hw0 : 0 < w.heap.size := World.block_lt_of_cell? w _ hm
  have Hm := Lib.hid hm
  have Hr := Lib.hid hr
  clear hm hr
  have hl : to.length ≤ 10 ∧ bo.length ≤ 2000 ∧ fr.length ≤ 600 := by simpa [smallP, Bool.and_eq_true] using hs
  obtain ⟨l1, l2, l3⟩ := hl
  have Hs := Lib.hid hs
  clear hs
  have ht := line_to ⟨h, f, false, l, fr, bo, to⟩ (⟨#[113, 117, 105, 116]⟩ : ByteArray).data.toList [[97]] rfl
  have hne := line_reply ⟨h, f, false, l, fr, bo, to⟩ (⟨#[113, 117, 105, 116]⟩ : ByteArray).data.toList [[97]] rfl
  have E2 := same_eq5 h f l fr bo to
  generalize hE : lineP ⟨h, f, false, l, fr, bo, to⟩ (⟨#[113, 117, 105, 116]⟩ : ByteArray).data.toList [[97]] = q at ht hne E2
  obtain ⟨⟨h', f', d', l', fr', bo', to'⟩, r⟩ := q
  have E1 := Lib.hid hE
  replace E2 := Lib.hid E2
  simp only at ht hne
  have hn1' : r.isEmpty = false := by cases r with | nil => exact absurd rfl hne | cons _ _ => rfl
  clear hE
  go_enter Try.func5, Try.ntmps5
  go_wp2_with fail
  refine (small_any ⟨h, f, false, l, fr, bo, to⟩ A c _ (by show to.length ≤ _; omega) (by show bo.length ≤ _; omega) (by show fr.length ≤ _; omega)).mono ?_
  rw [Hs.out]
  rintro e w1 ⟨rfl, hb1⟩
  have p0 := Lib.hid (blk_below (blk_new w (.cells #[.bool h, .bool f, .bool false, .bool l, strV fr, strV bo, .slice A to.length c] 25)) hb1 (by simp))
  have hB := ((Below.refl w.heap.size w).alloc (Nat.le_refl _) (.cells #[.bool h, .bool f, .bool false, .bool l, strV fr, strV bo, .slice A to.length c] 25)).trans (hb1.mono (by simp))
  replace Hr := Lib.hid (Hr.out.below hB (Nat.le_refl _))
  clear hb1
  have k0 : w1.cell? ⟨w.heap.size, 0, none⟩ = some (.bool h) := cell_blk p0.out 0
  have k1 : w1.cell? ⟨w.heap.size, 1, none⟩ = some (.bool f) := cell_blk p0.out 1
  have k2 : w1.cell? ⟨w.heap.size, 2, none⟩ = some (.bool false) := cell_blk p0.out 2
  have k3 : w1.cell? ⟨w.heap.size, 3, none⟩ = some (.bool l) := cell_blk p0.out 3
  have k4 : w1.cell? ⟨w.heap.size, 4, none⟩ = some (strV fr) := cell_blk p0.out 4
  have k5 : w1.cell? ⟨w.heap.size, 5, none⟩ = some (strV bo) := cell_blk p0.out 5
  have k6 : w1.cell? ⟨w.heap.size, 6, none⟩ = some (.slice A to.length c) := cell_blk p0.out 6
  go_upto_region 4 with fail
  clear k0 k1 k2 k3 k4 k5 k6
  have hA := ((Below.refl w1.heap.size w1).alloc (Nat.le_refl _) (.cells #[Value.string ⟨#[108, 104, 108, 111, 32, 88]⟩, Value.string ⟨#[76, 72, 76, 79, 32, 88]⟩, Value.string ⟨#[109, 97, 105, 108, 32, 102, 114, 111, 109, 58, 60, 62]⟩, Value.string ⟨#[77, 65, 73, 76, 32, 70, 82, 79, 77, 58, 60, 62]⟩, Value.string ⟨#[100, 97, 116, 97]⟩, Value.string ⟨#[68, 65, 84, 65]⟩, Value.string ⟨#[114, 115, 101, 116]⟩, Value.string ⟨#[82, 83, 69, 84]⟩, Value.string ⟨#[110, 111, 111, 112]⟩, Value.string ⟨#[78, 79, 79, 80]⟩, Value.string ⟨#[113, 117, 105, 116]⟩, Value.string ⟨#[81, 85, 73, 84]⟩, Value.string ⟨#[119, 104, 97, 116]⟩, Value.string ⟨#[87, 72, 65, 84]⟩, Value.string ⟨#[114, 99, 112, 116, 32, 116, 111, 58, 60, 97, 62]⟩, Value.string ⟨#[82, 67, 80, 84, 32, 84, 79, 58, 60, 97, 62]⟩] 35)).alloc (by simp) (.cells #[Value.string ⟨#[113, 117, 105, 116]⟩, Value.string ⟨#[81, 85, 73, 84]⟩] 35)
  replace p0 := Lib.hid (blk_below p0.out hA (blk_lt p0.out))
  have py := Lib.hid (two_new w1 (.cells #[Value.string ⟨#[108, 104, 108, 111, 32, 88]⟩, Value.string ⟨#[76, 72, 76, 79, 32, 88]⟩, Value.string ⟨#[109, 97, 105, 108, 32, 102, 114, 111, 109, 58, 60, 62]⟩, Value.string ⟨#[77, 65, 73, 76, 32, 70, 82, 79, 77, 58, 60, 62]⟩, Value.string ⟨#[100, 97, 116, 97]⟩, Value.string ⟨#[68, 65, 84, 65]⟩, Value.string ⟨#[114, 115, 101, 116]⟩, Value.string ⟨#[82, 83, 69, 84]⟩, Value.string ⟨#[110, 111, 111, 112]⟩, Value.string ⟨#[78, 79, 79, 80]⟩, Value.string ⟨#[113, 117, 105, 116]⟩, Value.string ⟨#[81, 85, 73, 84]⟩, Value.string ⟨#[119, 104, 97, 116]⟩, Value.string ⟨#[87, 72, 65, 84]⟩, Value.string ⟨#[114, 99, 112, 116, 32, 116, 111, 58, 60, 97, 62]⟩, Value.string ⟨#[82, 67, 80, 84, 32, 84, 79, 58, 60, 97, 62]⟩] 35) (.cells #[Value.string ⟨#[113, 117, 105, 116]⟩, Value.string ⟨#[81, 85, 73, 84]⟩] 35))
  replace Hr := Lib.hid (Hr.out.below hA hB.size)
  replace hB := hB.trans (hA.mono hB.size)
  generalize (w1.alloc (.cells #[Value.string ⟨#[108, 104, 108, 111, 32, 88]⟩, Value.string ⟨#[76, 72, 76, 79, 32, 88]⟩, Value.string ⟨#[109, 97, 105, 108, 32, 102, 114, 111, 109, 58, 60, 62]⟩, Value.string ⟨#[77, 65, 73, 76, 32, 70, 82, 79, 77, 58, 60, 62]⟩, Value.string ⟨#[100, 97, 116, 97]⟩, Value.string ⟨#[68, 65, 84, 65]⟩, Value.string ⟨#[114, 115, 101, 116]⟩, Value.string ⟨#[82, 83, 69, 84]⟩, Value.string ⟨#[110, 111, 111, 112]⟩, Value.string ⟨#[78, 79, 79, 80]⟩, Value.string ⟨#[113, 117, 105, 116]⟩, Value.string ⟨#[81, 85, 73, 84]⟩, Value.string ⟨#[119, 104, 97, 116]⟩, Value.string ⟨#[87, 72, 65, 84]⟩, Value.string ⟨#[114, 99, 112, 116, 32, 116, 111, 58, 60, 97, 62]⟩, Value.string ⟨#[82, 67, 80, 84, 32, 84, 79, 58, 60, 97, 62]⟩] 35)).alloc (.cells #[Value.string ⟨#[113, 117, 105, 116]⟩, Value.string ⟨#[81, 85, 73, 84]⟩] 35) = w2 at *
  generalize w1.heap.size + 1 = By at *
  clear hA hk hn0 hn1 hne
  have k0 : w2.cell? ⟨w.heap.size, 0, none⟩ = some (.bool h) := cell_blk p0.out 0
  have k1 : w2.cell? ⟨w.heap.size, 1, none⟩ = some (.bool f) := cell_blk p0.out 1
  have k2 : w2.cell? ⟨w.heap.size, 2, none⟩ = some (.bool false) := cell_blk p0.out 2
  have k3 : w2.cell? ⟨w.heap.size, 3, none⟩ = some (.bool l) := cell_blk p0.out 3
  have k4 : w2.cell? ⟨w.heap.size, 4, none⟩ = some (strV fr) := cell_blk p0.out 4
  have k5 : w2.cell? ⟨w.heap.size, 5, none⟩ = some (strV bo) := cell_blk p0.out 5
  have k6 : w2.cell? ⟨w.heap.size, 6, none⟩ = some (.slice A to.length c) := cell_blk p0.out 6
  have y0 : w2.cell? ⟨By, 0, none⟩ = some (Value.string ⟨#[113, 117, 105, 116]⟩) := cell_blk py.out 0
  have y1 : w2.cell? ⟨By, 1, none⟩ = some (Value.string ⟨#[81, 85, 73, 84]⟩) := cell_blk py.out 1
  go_wp2_with fail
  have hU := (Below.refl w2.heap.size w2).alloc (Nat.le_refl _) (.cells #[strV [97]] 9)
  have hmx : (w2.alloc (.cells #[strV [97]] 9)).cell? ⟨0, 0, none⟩ = some (.int .i64 m) := ((hB.trans (hU.mono hB.size)).cell hw0).trans Hm.out
  refine (line_any ⟨h, f, false, l, fr, bo, to⟩ (.slice A to.length c) ⟨#[113, 117, 105, 116]⟩ (.slice (some ⟨w2.heap.size, 0, none⟩) 1 1) [[97]] m _ ((Hr.out.below hU hB.size).more (hB.trans (hU.mono hB.size)).size) (rds_single w2 [97] 9) hmx (by show to.length ≤ _; omega) (by show bo.length ≤ _; omega) (by decide) (by decide)).mono ?_
  rw [E1.out]
  rintro e w3 ⟨tv, rfl, ho, hb1⟩
  obtain ⟨A1, c1, e1, _⟩ := ho.form
  simp only at e1
  subst e1
  clear k0 k1 k2 k3 k4 k5 k6 y0 y1
  have hb2 : Below w2.heap.size w2 w3 := hU.trans (hb1.mono hU.size)
  have hA := hb2.alloc hb2.size (.cells #[.bool h', .bool f', .bool d', .bool l', strV fr', strV bo', .slice A1 to'.length c1] 25)
  replace p0 := Lib.hid (blk_below p0.out hA (blk_lt p0.out))
  replace py := Lib.hid (blk_below py.out hA (blk_lt py.out))
  have p1 := Lib.hid (blk_new w3 (.cells #[.bool h', .bool f', .bool d', .bool l', strV fr', strV bo', .slice A1 to'.length c1] 25))
  replace Hr := Lib.hid (Hr.out.below hA hB.size)
  replace hB := hB.trans (hA.mono hB.size)
  have Ho1 := Lib.hid ((ho.rd).below ((Below.refl _ _).alloc (Nat.le_refl _) (.cells #[.bool h', .bool f', .bool d', .bool l', strV fr', strV bo', .slice A1 to'.length c1] 25)) (Nat.le_refl _))
  go_upto_region 5 with fail
  generalize w3.alloc (.cells #[.bool h', .bool f', .bool d', .bool l', strV fr', strV bo', .slice A1 to'.length c1] 25) = w3' at *
  generalize w3.heap.size = B1 at *
  clear hA ho hb1 hb2 hmx hU
  have k0 : w3'.cell? ⟨w.heap.size, 0, none⟩ = some (.bool h) := cell_blk p0.out 0
  have k1 : w3'.cell? ⟨w.heap.size, 1, none⟩ = some (.bool f) := cell_blk p0.out 1
  have k2 : w3'.cell? ⟨w.heap.size, 2, none⟩ = some (.bool false) := cell_blk p0.out 2
  have k3 : w3'.cell? ⟨w.heap.size, 3, none⟩ = some (.bool l) := cell_blk p0.out 3
  have k4 : w3'.cell? ⟨w.heap.size, 4, none⟩ = some (strV fr) := cell_blk p0.out 4
  have k5 : w3'.cell? ⟨w.heap.size, 5, none⟩ = some (strV bo) := cell_blk p0.out 5
  have k6 : w3'.cell? ⟨w.heap.size, 6, none⟩ = some (.slice A to.length c) := cell_blk p0.out 6
  have y0 : w3'.cell? ⟨By, 0, none⟩ = some (Value.string ⟨#[113, 117, 105, 116]⟩) := cell_blk py.out 0
  have y1 : w3'.cell? ⟨By, 1, none⟩ = some (Value.string ⟨#[81, 85, 73, 84]⟩) := cell_blk py.out 1
  go_wp2_with fail
  have hU := (Below.refl w3'.heap.size w3').alloc (Nat.le_refl _) (.cells #[strV [97]] 9)
  have hmx : (w3'.alloc (.cells #[strV [97]] 9)).cell? ⟨0, 0, none⟩ = some (.int .i64 m) := ((hB.trans (hU.mono hB.size)).cell hw0).trans Hm.out
  refine (line_any ⟨h, f, false, l, fr, bo, to⟩ (.slice A to.length c) ⟨#[81, 85, 73, 84]⟩ (.slice (some ⟨w3'.heap.size, 0, none⟩) 1 1) [[97]] m _ ((Hr.out.below hU hB.size).more (hB.trans (hU.mono hB.size)).size) (rds_single w3' [97] 9) hmx (by show to.length ≤ _; omega) (by show bo.length ≤ _; omega) (by decide) (by decide)).mono ?_
  rw [E2.out]
  rintro e w4 ⟨tv, rfl, ho, hb1⟩
  obtain ⟨A2, c2, e1, _⟩ := ho.form
  simp only at e1
  subst e1
  clear k0 k1 k2 k3 k4 k5 k6 y0 y1
  have hb2 : Below w3'.heap.size w3' w4 := hU.trans (hb1.mono hU.size)
  have hA := hb2.alloc hb2.size (.cells #[.bool h', .bool f', .bool d', .bool l', strV fr', strV bo', .slice A2 to'.length c2] 25)
  have hlt1 := blk_lt p1.out
  replace p0 := Lib.hid (blk_below p0.out hA (blk_lt p0.out))
  replace py := Lib.hid (blk_below py.out hA (blk_lt py.out))
  replace p1 := Lib.hid (blk_below p1.out hA (blk_lt p1.out))
  have p2 := Lib.hid (blk_new w4 (.cells #[.bool h', .bool f', .bool d', .bool l', strV fr', strV bo', .slice A2 to'.length c2] 25))
  replace Hr := Lib.hid (Hr.out.below hA hB.size)
  replace Ho1 := Lib.hid (Ho1.out.below hA (Nat.le_of_lt hlt1))
  replace hB := hB.trans (hA.mono hB.size)
  have Ho2 := Lib.hid ((ho.rd).below ((Below.refl _ _).alloc (Nat.le_refl _) (.cells #[.bool h', .bool f', .bool d', .bool l', strV fr', strV bo', .slice A2 to'.length c2] 25)) (Nat.le_refl _))
  go_upto_region 6 with fail
  generalize w4.alloc (.cells #[.bool h', .bool f', .bool d', .bool l', strV fr', strV bo', .slice A2 to'.length c2] 25) = w4' at *
  generalize w4.heap.size = B2 at *
  clear hA ho hb1 hb2 hmx hU
  replace Ho2 := Lib.hid (Ho2.out.more (Nat.le_of_lt (blk_lt p2.out)))
  replace Ho1 := Lib.hid (Ho1.out.more (Nat.le_of_lt (blk_lt p1.out)))
  have hmx' := Lib.hid ((hB.cell hw0).trans Hm.out)
  have HB := Lib.hid hB
  clear hB Hm Hs Hr E1 E2 p0 py
  refine RG.wp_region_det (fun w' => Below w4'.heap.size w4' w') (by kernel_rfl) (by kernel_rfl) ((Below.refl _ _).drew) ?_
  apply RG.wpDet_cons
  · intro w9 hw9
    go_wp2_with fail
    with_reducible refine RG.only_mk ?_
    exact hw9
  · rfl
  apply RG.wpDet_cons
  · intro w9 hw9
    go_wp2_with fail
    with_reducible refine RG.only_mk ?_
    exact hw9
  · rfl
  apply RG.wpDet_cons
  · intro w9 hw9
    go_wp2_with fail
    with_reducible refine RG.only_mk ?_
    exact hw9
  · rfl
  apply RG.wpDet_cons
  · intro w9 hw9
    go_wp2_with fail
    with_reducible refine RG.only_mk ?_
    exact hw9
  · rfl
  apply RG.wpDet_cons
  · intro w9 hw9
    go_wp2_with fail
    with_reducible refine RG.only_mk ?_
    exact hw9
  · rfl
  apply RG.wpDet_cons
  · intro w9 hw9
    go_wp2_with fail
    with_reducible refine RG.only_mk ?_
    exact hw9
  · rfl
  apply RG.wpDet_cons
  · intro w9 hw9
    go_wp2_with fail
    with_reducible refine RG.only_mk ?_
    exact hw9
  · rfl
  apply RG.wpDet_cons
  · intro w9 hw9
    go_wp2_with fail
    with_reducible refine RG.only_mk ?_
    exact hw9
  · rfl
  apply RG.wpDet_cons
  · intro w9 hw9
    have p9 := blk_below p1.out hw9 (blk_lt p1.out)
    have k0 : w9.cell? ⟨B1, 0, none⟩ = some (.bool h') := cell_blk p9 0
    have k1 : w9.cell? ⟨B1, 1, none⟩ = some (.bool f') := cell_blk p9 1
    have k2 : w9.cell? ⟨B1, 2, none⟩ = some (.bool d') := cell_blk p9 2
    have k3 : w9.cell? ⟨B1, 3, none⟩ = some (.bool l') := cell_blk p9 3
    have k4 : w9.cell? ⟨B1, 4, none⟩ = some (strV fr') := cell_blk p9 4
    have k5 : w9.cell? ⟨B1, 5, none⟩ = some (strV bo') := cell_blk p9 5
    have k6 : w9.cell? ⟨B1, 6, none⟩ = some (.slice A1 to'.length c1) := cell_blk p9 6
    clear p9
    go_wp2_with fail
    with_reducible refine RG.only_mk ?_
    exact hw9
  · rfl
  apply RG.wpDet_cons
  · intro w9 hw9
    go_wp2_with (go_at_call 12; refine (ref_any _ _ _ _ _ _ _ _ _ _).mono ?_; rintro e w8 ⟨rfl, hb8⟩)
    with_reducible refine RG.only_mk ?_
    exact hw9.trans (hb8.mono hw9.size)
  · rfl
  apply RG.wpDet_cons
  · intro w9 hw9
    have p9 := blk_below p2.out hw9 (blk_lt p2.out)
    have k0 : w9.cell? ⟨B2, 0, none⟩ = some (.bool h') := cell_blk p9 0
    have k1 : w9.cell? ⟨B2, 1, none⟩ = some (.bool f') := cell_blk p9 1
    have k2 : w9.cell? ⟨B2, 2, none⟩ = some (.bool d') := cell_blk p9 2
    have k3 : w9.cell? ⟨B2, 3, none⟩ = some (.bool l') := cell_blk p9 3
    have k4 : w9.cell? ⟨B2, 4, none⟩ = some (strV fr') := cell_blk p9 4
    have k5 : w9.cell? ⟨B2, 5, none⟩ = some (strV bo') := cell_blk p9 5
    have k6 : w9.cell? ⟨B2, 6, none⟩ = some (.slice A2 to'.length c2) := cell_blk p9 6
    clear p9
    go_wp2_with fail
    with_reducible refine RG.only_mk ?_
    exact hw9
  · rfl
  apply RG.wpDet_cons
  · intro w9 hw9
    go_wp2_with (go_at_call 12; refine (ref_any _ _ _ _ _ _ _ _ _ _).mono ?_; rintro e w8 ⟨rfl, hb8⟩)
    with_reducible refine RG.only_mk ?_
    exact hw9.trans (hb8.mono hw9.size)
  · rfl
  apply RG.wpDet_cons
  · intro w9 hw9
    go_wp2_with (go_at_call 11; refine (equal_same _ _ _ _ _ _ _ _ _ _ w4'.heap.size to' _ (Ho1.out.below hw9 (Nat.le_refl _)) (Ho2.out.below hw9 (Nat.le_refl _)) (Below.size hw9) (by omega)).mono ?_; rintro e w8 ⟨rfl, hb8⟩)
    with_reducible refine RG.only_mk ?_
    exact hw9.trans (hb8.mono hw9.size)
  · rfl
  apply RG.wpDet_cons
  · intro w9 hw9
    go_wp2_with fail
    with_reducible refine RG.only_mk ?_
    exact hw9
  · rfl
  apply RG.wpDet_cons
  · intro w9 hw9
    go_wp2_with fail
    with_reducible refine RG.only_mk ?_
    exact hw9
  · rfl
  apply RG.wpDet_cons
  · intro w9 hw9
    go_wp2_with (go_at_call 6; refine (awake_any m _ ((hw9.cell (Nat.lt_of_lt_of_le hw0 HB.out.size)).trans hmx'.out)).mono ?_; rintro e w8 ⟨rfl, hb8⟩)
    with_reducible refine RG.only_mk ?_
    exact hw9.trans (hb8.mono hw9.size)
  · rfl
  apply RG.wpDet_cons
  · intro w9 hw9
    go_wp2_with fail
    with_reducible refine RG.only_mk ?_
    exact hw9
  · rfl
  apply RG.wpDet_cons
  · intro w9 hw9
    go_wp2_with fail
    with_reducible refine RG.only_mk ?_
    exact hw9
  · rfl
  refine RG.wpDet_nil (fun w9 hw9 => ?_)
  go_wp2
  go_ret
  exact ⟨rfl, HB.out.trans (hw9.mono HB.out.size)⟩
set_option maxHeartbeats 4000000 in
theorem same_6 (n : Int) (hn0 : 0 ≤ n) (hn1 : n ≤ 255) (hk : n % 8 = 6) (h f l : Bool) (fr bo : Bs) (to : List Bs) (A : Option Addr) (c : Nat) (m : Int) (w : World) (hm : w.cell? ⟨0, 0, none⟩ = some (.int .i64 m)) (hr : RdS w w.heap.size (.slice A to.length c) to) (hs : smallP ⟨h, f, false, l, fr, bo, to⟩ = true) :
    Calls Try.prog 5 #[stV ⟨h, f, false, l, fr, bo, to⟩ (.slice A to.length c), .int .u8 n] w fun e w' => e = .returned (.bool true) ∧ Below w.heap.size w w' := by
  have hw0 : 0 < w.heap.size := World.block_lt_of_cell? w _ hm
  have Hm := Lib.hid hm
  have Hr := Lib.hid hr
  clear hm hr
  have hl : to.length ≤ 10 ∧ bo.length ≤ 2000 ∧ fr.length ≤ 600 := by simpa [smallP, Bool.and_eq_true] using hs
  obtain ⟨l1, l2, l3⟩ := hl
  have Hs := Lib.hid hs
  clear hs
  have ht := line_to ⟨h, f, false, l, fr, bo, to⟩ (⟨#[119, 104, 97, 116]⟩ : ByteArray).data.toList [[97]] rfl
  have hne := line_reply ⟨h, f, false, l, fr, bo, to⟩ (⟨#[119, 104, 97, 116]⟩ : ByteArray).data.toList [[97]] rfl
  have E2 := same_eq6 h f l fr bo to
  generalize hE : lineP ⟨h, f, false, l, fr, bo, to⟩ (⟨#[119, 104, 97, 116]⟩ : ByteArray).data.toList [[97]] = q at ht hne E2
  obtain ⟨⟨h', f', d', l', fr', bo', to'⟩, r⟩ := q
  have E1 := Lib.hid hE
  replace E2 := Lib.hid E2
  simp only at ht hne
  have hn1' : r.isEmpty = false := by cases r with | nil => exact absurd rfl hne | cons _ _ => rfl
  clear hE
  go_enter Try.func5, Try.ntmps5
  go_wp2_with fail
  refine (small_any ⟨h, f, false, l, fr, bo, to⟩ A c _ (by show to.length ≤ _; omega) (by show bo.length ≤ _; omega) (by show fr.length ≤ _; omega)).mono ?_
  rw [Hs.out]
  rintro e w1 ⟨rfl, hb1⟩
  have p0 := Lib.hid (blk_below (blk_new w (.cells #[.bool h, .bool f, .bool false, .bool l, strV fr, strV bo, .slice A to.length c] 25)) hb1 (by simp))
  have hB := ((Below.refl w.heap.size w).alloc (Nat.le_refl _) (.cells #[.bool h, .bool f, .bool false, .bool l, strV fr, strV bo, .slice A to.length c] 25)).trans (hb1.mono (by simp))
  replace Hr := Lib.hid (Hr.out.below hB (Nat.le_refl _))
  clear hb1
  have k0 : w1.cell? ⟨w.heap.size, 0, none⟩ = some (.bool h) := cell_blk p0.out 0
  have k1 : w1.cell? ⟨w.heap.size, 1, none⟩ = some (.bool f) := cell_blk p0.out 1
  have k2 : w1.cell? ⟨w.heap.size, 2, none⟩ = some (.bool false) := cell_blk p0.out 2
  have k3 : w1.cell? ⟨w.heap.size, 3, none⟩ = some (.bool l) := cell_blk p0.out 3
  have k4 : w1.cell? ⟨w.heap.size, 4, none⟩ = some (strV fr) := cell_blk p0.out 4
  have k5 : w1.cell? ⟨w.heap.size, 5, none⟩ = some (strV bo) := cell_blk p0.out 5
  have k6 : w1.cell? ⟨w.heap.size, 6, none⟩ = some (.slice A to.length c) := cell_blk p0.out 6
  go_upto_region 4 with fail
  clear k0 k1 k2 k3 k4 k5 k6
  have hA := ((Below.refl w1.heap.size w1).alloc (Nat.le_refl _) (.cells #[Value.string ⟨#[108, 104, 108, 111, 32, 88]⟩, Value.string ⟨#[76, 72, 76, 79, 32, 88]⟩, Value.string ⟨#[109, 97, 105, 108, 32, 102, 114, 111, 109, 58, 60, 62]⟩, Value.string ⟨#[77, 65, 73, 76, 32, 70, 82, 79, 77, 58, 60, 62]⟩, Value.string ⟨#[100, 97, 116, 97]⟩, Value.string ⟨#[68, 65, 84, 65]⟩, Value.string ⟨#[114, 115, 101, 116]⟩, Value.string ⟨#[82, 83, 69, 84]⟩, Value.string ⟨#[110, 111, 111, 112]⟩, Value.string ⟨#[78, 79, 79, 80]⟩, Value.string ⟨#[113, 117, 105, 116]⟩, Value.string ⟨#[81, 85, 73, 84]⟩, Value.string ⟨#[119, 104, 97, 116]⟩, Value.string ⟨#[87, 72, 65, 84]⟩, Value.string ⟨#[114, 99, 112, 116, 32, 116, 111, 58, 60, 97, 62]⟩, Value.string ⟨#[82, 67, 80, 84, 32, 84, 79, 58, 60, 97, 62]⟩] 35)).alloc (by simp) (.cells #[Value.string ⟨#[119, 104, 97, 116]⟩, Value.string ⟨#[87, 72, 65, 84]⟩] 35)
  replace p0 := Lib.hid (blk_below p0.out hA (blk_lt p0.out))
  have py := Lib.hid (two_new w1 (.cells #[Value.string ⟨#[108, 104, 108, 111, 32, 88]⟩, Value.string ⟨#[76, 72, 76, 79, 32, 88]⟩, Value.string ⟨#[109, 97, 105, 108, 32, 102, 114, 111, 109, 58, 60, 62]⟩, Value.string ⟨#[77, 65, 73, 76, 32, 70, 82, 79, 77, 58, 60, 62]⟩, Value.string ⟨#[100, 97, 116, 97]⟩, Value.string ⟨#[68, 65, 84, 65]⟩, Value.string ⟨#[114, 115, 101, 116]⟩, Value.string ⟨#[82, 83, 69, 84]⟩, Value.string ⟨#[110, 111, 111, 112]⟩, Value.string ⟨#[78, 79, 79, 80]⟩, Value.string ⟨#[113, 117, 105, 116]⟩, Value.string ⟨#[81, 85, 73, 84]⟩, Value.string ⟨#[119, 104, 97, 116]⟩, Value.string ⟨#[87, 72, 65, 84]⟩, Value.string ⟨#[114, 99, 112, 116, 32, 116, 111, 58, 60, 97, 62]⟩, Value.string ⟨#[82, 67, 80, 84, 32, 84, 79, 58, 60, 97, 62]⟩] 35) (.cells #[Value.string ⟨#[119, 104, 97, 116]⟩, Value.string ⟨#[87, 72, 65, 84]⟩] 35))
  replace Hr := Lib.hid (Hr.out.below hA hB.size)
  replace hB := hB.trans (hA.mono hB.size)
  generalize (w1.alloc (.cells #[Value.string ⟨#[108, 104, 108, 111, 32, 88]⟩, Value.string ⟨#[76, 72, 76, 79, 32, 88]⟩, Value.string ⟨#[109, 97, 105, 108, 32, 102, 114, 111, 109, 58, 60, 62]⟩, Value.string ⟨#[77, 65, 73, 76, 32, 70, 82, 79, 77, 58, 60, 62]⟩, Value.string ⟨#[100, 97, 116, 97]⟩, Value.string ⟨#[68, 65, 84, 65]⟩, Value.string ⟨#[114, 115, 101, 116]⟩, Value.string ⟨#[82, 83, 69, 84]⟩, Value.string ⟨#[110, 111, 111, 112]⟩, Value.string ⟨#[78, 79, 79, 80]⟩, Value.string ⟨#[113, 117, 105, 116]⟩, Value.string ⟨#[81, 85, 73, 84]⟩, Value.string ⟨#[119, 104, 97, 116]⟩, Value.string ⟨#[87, 72, 65, 84]⟩, Value.string ⟨#[114, 99, 112, 116, 32, 116, 111, 58, 60, 97, 62]⟩, Value.string ⟨#[82, 67, 80, 84, 32, 84, 79, 58, 60, 97, 62]⟩] 35)).alloc (.cells #[Value.string ⟨#[119, 104, 97, 116]⟩, Value.string ⟨#[87, 72, 65, 84]⟩] 35) = w2 at *
  generalize w1.heap.size + 1 = By at *
  clear hA hk hn0 hn1 hne
  have k0 : w2.cell? ⟨w.heap.size, 0, none⟩ = some (.bool h) := cell_blk p0.out 0
  have k1 : w2.cell? ⟨w.heap.size, 1, none⟩ = some (.bool f) := cell_blk p0.out 1
  have k2 : w2.cell? ⟨w.heap.size, 2, none⟩ = some (.bool false) := cell_blk p0.out 2
  have k3 : w2.cell? ⟨w.heap.size, 3, none⟩ = some (.bool l) := cell_blk p0.out 3
  have k4 : w2.cell? ⟨w.heap.size, 4, none⟩ = some (strV fr) := cell_blk p0.out 4
  have k5 : w2.cell? ⟨w.heap.size, 5, none⟩ = some (strV bo) := cell_blk p0.out 5
  have k6 : w2.cell? ⟨w.heap.size, 6, none⟩ = some (.slice A to.length c) := cell_blk p0.out 6
  have y0 : w2.cell? ⟨By, 0, none⟩ = some (Value.string ⟨#[119, 104, 97, 116]⟩) := cell_blk py.out 0
  have y1 : w2.cell? ⟨By, 1, none⟩ = some (Value.string ⟨#[87, 72, 65, 84]⟩) := cell_blk py.out 1
  go_wp2_with fail
  have hU := (Below.refl w2.heap.size w2).alloc (Nat.le_refl _) (.cells #[strV [97]] 9)
  have hmx : (w2.alloc (.cells #[strV [97]] 9)).cell? ⟨0, 0, none⟩ = some (.int .i64 m) := ((hB.trans (hU.mono hB.size)).cell hw0).trans Hm.out
  refine (line_any ⟨h, f, false, l, fr, bo, to⟩ (.slice A to.length c) ⟨#[119, 104, 97, 116]⟩ (.slice (some ⟨w2.heap.size, 0, none⟩) 1 1) [[97]] m _ ((Hr.out.below hU hB.size).more (hB.trans (hU.mono hB.size)).size) (rds_single w2 [97] 9) hmx (by show to.length ≤ _; omega) (by show bo.length ≤ _; omega) (by decide) (by decide)).mono ?_
  rw [E1.out]
  rintro e w3 ⟨tv, rfl, ho, hb1⟩
  obtain ⟨A1, c1, e1, _⟩ := ho.form
  simp only at e1
  subst e1
  clear k0 k1 k2 k3 k4 k5 k6 y0 y1
  have hb2 : Below w2.heap.size w2 w3 := hU.trans (hb1.mono hU.size)
  have hA := hb2.alloc hb2.size (.cells #[.bool h', .bool f', .bool d', .bool l', strV fr', strV bo', .slice A1 to'.length c1] 25)
  replace p0 := Lib.hid (blk_below p0.out hA (blk_lt p0.out))
  replace py := Lib.hid (blk_below py.out hA (blk_lt py.out))
  have p1 := Lib.hid (blk_new w3 (.cells #[.bool h', .bool f', .bool d', .bool l', strV fr', strV bo', .slice A1 to'.length c1] 25))
  replace Hr := Lib.hid (Hr.out.below hA hB.size)
  replace hB := hB.trans (hA.mono hB.size)
  have Ho1 := Lib.hid ((ho.rd).below ((Below.refl _ _).alloc (Nat.le_refl _) (.cells #[.bool h', .bool f', .bool d', .bool l', strV fr', strV bo', .slice A1 to'.length c1] 25)) (Nat.le_refl _))
  go_upto_region 5 with fail
  generalize w3.alloc (.cells #[.bool h', .bool f', .bool d', .bool l', strV fr', strV bo', .slice A1 to'.length c1] 25) = w3' at *
  generalize w3.heap.size = B1 at *
  clear hA ho hb1 hb2 hmx hU
  have k0 : w3'.cell? ⟨w.heap.size, 0, none⟩ = some (.bool h) := cell_blk p0.out 0
  have k1 : w3'.cell? ⟨w.heap.size, 1, none⟩ = some (.bool f) := cell_blk p0.out 1
  have k2 : w3'.cell? ⟨w.heap.size, 2, none⟩ = some (.bool false) := cell_blk p0.out 2
  have k3 : w3'.cell? ⟨w.heap.size, 3, none⟩ = some (.bool l) := cell_blk p0.out 3
  have k4 : w3'.cell? ⟨w.heap.size, 4, none⟩ = some (strV fr) := cell_blk p0.out 4
  have k5 : w3'.cell? ⟨w.heap.size, 5, none⟩ = some (strV bo) := cell_blk p0.out 5
  have k6 : w3'.cell? ⟨w.heap.size, 6, none⟩ = some (.slice A to.length c) := cell_blk p0.out 6
  have y0 : w3'.cell? ⟨By, 0, none⟩ = some (Value.string ⟨#[119, 104, 97, 116]⟩) := cell_blk py.out 0
  have y1 : w3'.cell? ⟨By, 1, none⟩ = some (Value.string ⟨#[87, 72, 65, 84]⟩) := cell_blk py.out 1
  go_wp2_with fail
  have hU := (Below.refl w3'.heap.size w3').alloc (Nat.le_refl _) (.cells #[strV [97]] 9)
  have hmx : (w3'.alloc (.cells #[strV [97]] 9)).cell? ⟨0, 0, none⟩ = some (.int .i64 m) := ((hB.trans (hU.mono hB.size)).cell hw0).trans Hm.out
  refine (line_any ⟨h, f, false, l, fr, bo, to⟩ (.slice A to.length c) ⟨#[87, 72, 65, 84]⟩ (.slice (some ⟨w3'.heap.size, 0, none⟩) 1 1) [[97]] m _ ((Hr.out.below hU hB.size).more (hB.trans (hU.mono hB.size)).size) (rds_single w3' [97] 9) hmx (by show to.length ≤ _; omega) (by show bo.length ≤ _; omega) (by decide) (by decide)).mono ?_
  rw [E2.out]
  rintro e w4 ⟨tv, rfl, ho, hb1⟩
  obtain ⟨A2, c2, e1, _⟩ := ho.form
  simp only at e1
  subst e1
  clear k0 k1 k2 k3 k4 k5 k6 y0 y1
  have hb2 : Below w3'.heap.size w3' w4 := hU.trans (hb1.mono hU.size)
  have hA := hb2.alloc hb2.size (.cells #[.bool h', .bool f', .bool d', .bool l', strV fr', strV bo', .slice A2 to'.length c2] 25)
  have hlt1 := blk_lt p1.out
  replace p0 := Lib.hid (blk_below p0.out hA (blk_lt p0.out))
  replace py := Lib.hid (blk_below py.out hA (blk_lt py.out))
  replace p1 := Lib.hid (blk_below p1.out hA (blk_lt p1.out))
  have p2 := Lib.hid (blk_new w4 (.cells #[.bool h', .bool f', .bool d', .bool l', strV fr', strV bo', .slice A2 to'.length c2] 25))
  replace Hr := Lib.hid (Hr.out.below hA hB.size)
  replace Ho1 := Lib.hid (Ho1.out.below hA (Nat.le_of_lt hlt1))
  replace hB := hB.trans (hA.mono hB.size)
  have Ho2 := Lib.hid ((ho.rd).below ((Below.refl _ _).alloc (Nat.le_refl _) (.cells #[.bool h', .bool f', .bool d', .bool l', strV fr', strV bo', .slice A2 to'.length c2] 25)) (Nat.le_refl _))
  go_upto_region 6 with fail
  generalize w4.alloc (.cells #[.bool h', .bool f', .bool d', .bool l', strV fr', strV bo', .slice A2 to'.length c2] 25) = w4' at *
  generalize w4.heap.size = B2 at *
  clear hA ho hb1 hb2 hmx hU
  replace Ho2 := Lib.hid (Ho2.out.more (Nat.le_of_lt (blk_lt p2.out)))
  replace Ho1 := Lib.hid (Ho1.out.more (Nat.le_of_lt (blk_lt p1.out)))
  have hmx' := Lib.hid ((hB.cell hw0).trans Hm.out)
  have HB := Lib.hid hB
  clear hB Hm Hs Hr E1 E2 p0 py
  refine RG.wp_region_det (fun w' => Below w4'.heap.size w4' w') (by kernel_rfl) (by kernel_rfl) ((Below.refl _ _).drew) ?_
  apply RG.wpDet_cons
  · intro w9 hw9
    go_wp2_with fail
    with_reducible refine RG.only_mk ?_
    exact hw9
  · rfl
  apply RG.wpDet_cons
  · intro w9 hw9
    go_wp2_with fail
    with_reducible refine RG.only_mk ?_
    exact hw9
  · rfl
  apply RG.wpDet_cons
  · intro w9 hw9
    go_wp2_with fail
    with_reducible refine RG.only_mk ?_
    exact hw9
  · rfl
  apply RG.wpDet_cons
  · intro w9 hw9
    go_wp2_with fail
    with_reducible refine RG.only_mk ?_
    exact hw9
  · rfl
  apply RG.wpDet_cons
  · intro w9 hw9
    go_wp2_with fail
    with_reducible refine RG.only_mk ?_
    exact hw9
  · rfl
  apply RG.wpDet_cons
  · intro w9 hw9
    go_wp2_with fail
    with_reducible refine RG.only_mk ?_
    exact hw9
  · rfl
  apply RG.wpDet_cons
  · intro w9 hw9
    go_wp2_with fail
    with_reducible refine RG.only_mk ?_
    exact hw9
  · rfl
  apply RG.wpDet_cons
  · intro w9 hw9
    go_wp2_with fail
    with_reducible refine RG.only_mk ?_
    exact hw9
  · rfl
  apply RG.wpDet_cons
  · intro w9 hw9
    have p9 := blk_below p1.out hw9 (blk_lt p1.out)
    have k0 : w9.cell? ⟨B1, 0, none⟩ = some (.bool h') := cell_blk p9 0
    have k1 : w9.cell? ⟨B1, 1, none⟩ = some (.bool f') := cell_blk p9 1
    have k2 : w9.cell? ⟨B1, 2, none⟩ = some (.bool d') := cell_blk p9 2
    have k3 : w9.cell? ⟨B1, 3, none⟩ = some (.bool l') := cell_blk p9 3
    have k4 : w9.cell? ⟨B1, 4, none⟩ = some (strV fr') := cell_blk p9 4
    have k5 : w9.cell? ⟨B1, 5, none⟩ = some (strV bo') := cell_blk p9 5
    have k6 : w9.cell? ⟨B1, 6, none⟩ = some (.slice A1 to'.length c1) := cell_blk p9 6
    clear p9
    go_wp2_with fail
    with_reducible refine RG.only_mk ?_
    exact hw9
  · rfl
  apply RG.wpDet_cons
  · intro w9 hw9
    go_wp2_with (go_at_call 12; refine (ref_any _ _ _ _ _ _ _ _ _ _).mono ?_; rintro e w8 ⟨rfl, hb8⟩)
    with_reducible refine RG.only_mk ?_
    exact hw9.trans (hb8.mono hw9.size)
  · rfl
  apply RG.wpDet_cons
  · intro w9 hw9
    have p9 := blk_below p2.out hw9 (blk_lt p2.out)
    have k0 : w9.cell? ⟨B2, 0, none⟩ = some (.bool h') := cell_blk p9 0
    have k1 : w9.cell? ⟨B2, 1, none⟩ = some (.bool f') := cell_blk p9 1
    have k2 : w9.cell? ⟨B2, 2, none⟩ = some (.bool d') := cell_blk p9 2
    have k3 : w9.cell? ⟨B2, 3, none⟩ = some (.bool l') := cell_blk p9 3
    have k4 : w9.cell? ⟨B2, 4, none⟩ = some (strV fr') := cell_blk p9 4
    have k5 : w9.cell? ⟨B2, 5, none⟩ = some (strV bo') := cell_blk p9 5
    have k6 : w9.cell? ⟨B2, 6, none⟩ = some (.slice A2 to'.length c2) := cell_blk p9 6
    clear p9
    go_wp2_with fail
    with_reducible refine RG.only_mk ?_
    exact hw9
  · rfl
  apply RG.wpDet_cons
  · intro w9 hw9
    go_wp2_with (go_at_call 12; refine (ref_any _ _ _ _ _ _ _ _ _ _).mono ?_; rintro e w8 ⟨rfl, hb8⟩)
    with_reducible refine RG.only_mk ?_
    exact hw9.trans (hb8.mono hw9.size)
  · rfl
  apply RG.wpDet_cons
  · intro w9 hw9
    go_wp2_with (go_at_call 11; refine (equal_same _ _ _ _ _ _ _ _ _ _ w4'.heap.size to' _ (Ho1.out.below hw9 (Nat.le_refl _)) (Ho2.out.below hw9 (Nat.le_refl _)) (Below.size hw9) (by omega)).mono ?_; rintro e w8 ⟨rfl, hb8⟩)
    with_reducible refine RG.only_mk ?_
    exact hw9.trans (hb8.mono hw9.size)
  · rfl
  apply RG.wpDet_cons
  · intro w9 hw9
    go_wp2_with fail
    with_reducible refine RG.only_mk ?_
    exact hw9
  · rfl
  apply RG.wpDet_cons
  · intro w9 hw9
    go_wp2_with fail
    with_reducible refine RG.only_mk ?_
    exact hw9
  · rfl
  apply RG.wpDet_cons
  · intro w9 hw9
    go_wp2_with (go_at_call 6; refine (awake_any m _ ((hw9.cell (Nat.lt_of_lt_of_le hw0 HB.out.size)).trans hmx'.out)).mono ?_; rintro e w8 ⟨rfl, hb8⟩)
    with_reducible refine RG.only_mk ?_
    exact hw9.trans (hb8.mono hw9.size)
  · rfl
  apply RG.wpDet_cons
  · intro w9 hw9
    go_wp2_with fail
    with_reducible refine RG.only_mk ?_
    exact hw9
  · rfl
  apply RG.wpDet_cons
  · intro w9 hw9
    go_wp2_with fail
    with_reducible refine RG.only_mk ?_
    exact hw9
  · rfl
  refine RG.wpDet_nil (fun w9 hw9 => ?_)
  go_wp2
  go_ret
  exact ⟨rfl, HB.out.trans (hw9.mono HB.out.size)⟩
set_option maxHeartbeats 4000000 in
theorem same_7 (n : Int) (hn0 : 0 ≤ n) (hn1 : n ≤ 255) (hk : n % 8 = 7) (h f l : Bool) (fr bo : Bs) (to : List Bs) (A : Option Addr) (c : Nat) (m : Int) (w : World) (hm : w.cell? ⟨0, 0, none⟩ = some (.int .i64 m)) (hr : RdS w w.heap.size (.slice A to.length c) to) (hs : smallP ⟨h, f, false, l, fr, bo, to⟩ = true) :
    Calls Try.prog 5 #[stV ⟨h, f, false, l, fr, bo, to⟩ (.slice A to.length c), .int .u8 n] w fun e w' => e = .returned (.bool true) ∧ Below w.heap.size w w' := by
  have hw0 : 0 < w.heap.size := World.block_lt_of_cell? w _ hm
  have Hm := Lib.hid hm
  have Hr := Lib.hid hr
  clear hm hr
  have hl : to.length ≤ 10 ∧ bo.length ≤ 2000 ∧ fr.length ≤ 600 := by simpa [smallP, Bool.and_eq_true] using hs
  obtain ⟨l1, l2, l3⟩ := hl
  have Hs := Lib.hid hs
  clear hs
  have ht := line_to ⟨h, f, false, l, fr, bo, to⟩ (⟨#[114, 99, 112, 116, 32, 116, 111, 58, 60, 97, 62]⟩ : ByteArray).data.toList [[97]] rfl
  have hne := line_reply ⟨h, f, false, l, fr, bo, to⟩ (⟨#[114, 99, 112, 116, 32, 116, 111, 58, 60, 97, 62]⟩ : ByteArray).data.toList [[97]] rfl
  have E2 := same_eq7 h f l fr bo to
  generalize hE : lineP ⟨h, f, false, l, fr, bo, to⟩ (⟨#[114, 99, 112, 116, 32, 116, 111, 58, 60, 97, 62]⟩ : ByteArray).data.toList [[97]] = q at ht hne E2
  obtain ⟨⟨h', f', d', l', fr', bo', to'⟩, r⟩ := q
  have E1 := Lib.hid hE
  replace E2 := Lib.hid E2
  simp only at ht hne
  have hn1' : r.isEmpty = false := by cases r with | nil => exact absurd rfl hne | cons _ _ => rfl
  clear hE
  go_enter Try.func5, Try.ntmps5
  go_wp2_with fail
  refine (small_any ⟨h, f, false, l, fr, bo, to⟩ A c _ (by show to.length ≤ _; omega) (by show bo.length ≤ _; omega) (by show fr.length ≤ _; omega)).mono ?_
  rw [Hs.out]
  rintro e w1 ⟨rfl, hb1⟩
  have p0 := Lib.hid (blk_below (blk_new w (.cells #[.bool h, .bool f, .bool false, .bool l, strV fr, strV bo, .slice A to.length c] 25)) hb1 (by simp))
  have hB := ((Below.refl w.heap.size w).alloc (Nat.le_refl _) (.cells #[.bool h, .bool f, .bool false, .bool l, strV fr, strV bo, .slice A to.length c] 25)).trans (hb1.mono (by simp))
  replace Hr := Lib.hid (Hr.out.below hB (Nat.le_refl _))
  clear hb1
  have k0 : w1.cell? ⟨w.heap.size, 0, none⟩ = some (.bool h) := cell_blk p0.out 0
  have k1 : w1.cell? ⟨w.heap.size, 1, none⟩ = some (.bool f) := cell_blk p0.out 1
  have k2 : w1.cell? ⟨w.heap.size, 2, none⟩ = some (.bool false) := cell_blk p0.out 2
  have k3 : w1.cell? ⟨w.heap.size, 3, none⟩ = some (.bool l) := cell_blk p0.out 3
  have k4 : w1.cell? ⟨w.heap.size, 4, none⟩ = some (strV fr) := cell_blk p0.out 4
  have k5 : w1.cell? ⟨w.heap.size, 5, none⟩ = some (strV bo) := cell_blk p0.out 5
  have k6 : w1.cell? ⟨w.heap.size, 6, none⟩ = some (.slice A to.length c) := cell_blk p0.out 6
  go_upto_region 4 with fail
  clear k0 k1 k2 k3 k4 k5 k6
  have hA := ((Below.refl w1.heap.size w1).alloc (Nat.le_refl _) (.cells #[Value.string ⟨#[108, 104, 108, 111, 32, 88]⟩, Value.string ⟨#[76, 72, 76, 79, 32, 88]⟩, Value.string ⟨#[109, 97, 105, 108, 32, 102, 114, 111, 109, 58, 60, 62]⟩, Value.string ⟨#[77, 65, 73, 76, 32, 70, 82, 79, 77, 58, 60, 62]⟩, Value.string ⟨#[100, 97, 116, 97]⟩, Value.string ⟨#[68, 65, 84, 65]⟩, Value.string ⟨#[114, 115, 101, 116]⟩, Value.string ⟨#[82, 83, 69, 84]⟩, Value.string ⟨#[110, 111, 111, 112]⟩, Value.string ⟨#[78, 79, 79, 80]⟩, Value.string ⟨#[113, 117, 105, 116]⟩, Value.string ⟨#[81, 85, 73, 84]⟩, Value.string ⟨#[119, 104, 97, 116]⟩, Value.string ⟨#[87, 72, 65, 84]⟩, Value.string ⟨#[114, 99, 112, 116, 32, 116, 111, 58, 60, 97, 62]⟩, Value.string ⟨#[82, 67, 80, 84, 32, 84, 79, 58, 60, 97, 62]⟩] 35)).alloc (by simp) (.cells #[Value.string ⟨#[114, 99, 112, 116, 32, 116, 111, 58, 60, 97, 62]⟩, Value.string ⟨#[82, 67, 80, 84, 32, 84, 79, 58, 60, 97, 62]⟩] 35)
  replace p0 := Lib.hid (blk_below p0.out hA (blk_lt p0.out))
  have py := Lib.hid (two_new w1 (.cells #[Value.string ⟨#[108, 104, 108, 111, 32, 88]⟩, Value.string ⟨#[76, 72, 76, 79, 32, 88]⟩, Value.string ⟨#[109, 97, 105, 108, 32, 102, 114, 111, 109, 58, 60, 62]⟩, Value.string ⟨#[77, 65, 73, 76, 32, 70, 82, 79, 77, 58, 60, 62]⟩, Value.string ⟨#[100, 97, 116, 97]⟩, Value.string ⟨#[68, 65, 84, 65]⟩, Value.string ⟨#[114, 115, 101, 116]⟩, Value.string ⟨#[82, 83, 69, 84]⟩, Value.string ⟨#[110, 111, 111, 112]⟩, Value.string ⟨#[78, 79, 79, 80]⟩, Value.string ⟨#[113, 117, 105, 116]⟩, Value.string ⟨#[81, 85, 73, 84]⟩, Value.string ⟨#[119, 104, 97, 116]⟩, Value.string ⟨#[87, 72, 65, 84]⟩, Value.string ⟨#[114, 99, 112, 116, 32, 116, 111, 58, 60, 97, 62]⟩, Value.string ⟨#[82, 67, 80, 84, 32, 84, 79, 58, 60, 97, 62]⟩] 35) (.cells #[Value.string ⟨#[114, 99, 112, 116, 32, 116, 111, 58, 60, 97, 62]⟩, Value.string ⟨#[82, 67, 80, 84, 32, 84, 79, 58, 60, 97, 62]⟩] 35))
  replace Hr := Lib.hid (Hr.out.below hA hB.size)
  replace hB := hB.trans (hA.mono hB.size)
  generalize (w1.alloc (.cells #[Value.string ⟨#[108, 104, 108, 111, 32, 88]⟩, Value.string ⟨#[76, 72, 76, 79, 32, 88]⟩, Value.string ⟨#[109, 97, 105, 108, 32, 102, 114, 111, 109, 58, 60, 62]⟩, Value.string ⟨#[77, 65, 73, 76, 32, 70, 82, 79, 77, 58, 60, 62]⟩, Value.string ⟨#[100, 97, 116, 97]⟩, Value.string ⟨#[68, 65, 84, 65]⟩, Value.string ⟨#[114, 115, 101, 116]⟩, Value.string ⟨#[82, 83, 69, 84]⟩, Value.string ⟨#[110, 111, 111, 112]⟩, Value.string ⟨#[78, 79, 79, 80]⟩, Value.string ⟨#[113, 117, 105, 116]⟩, Value.string ⟨#[81, 85, 73, 84]⟩, Value.string ⟨#[119, 104, 97, 116]⟩, Value.string ⟨#[87, 72, 65, 84]⟩, Value.string ⟨#[114, 99, 112, 116, 32, 116, 111, 58, 60, 97, 62]⟩, Value.string ⟨#[82, 67, 80, 84, 32, 84, 79, 58, 60, 97, 62]⟩] 35)).alloc (.cells #[Value.string ⟨#[114, 99, 112, 116, 32, 116, 111, 58, 60, 97, 62]⟩, Value.string ⟨#[82, 67, 80, 84, 32, 84, 79, 58, 60, 97, 62]⟩] 35) = w2 at *
  generalize w1.heap.size + 1 = By at *
  clear hA hk hn0 hn1 hne
  have k0 : w2.cell? ⟨w.heap.size, 0, none⟩ = some (.bool h) := cell_blk p0.out 0
  have k1 : w2.cell? ⟨w.heap.size, 1, none⟩ = some (.bool f) := cell_blk p0.out 1
  have k2 : w2.cell? ⟨w.heap.size, 2, none⟩ = some (.bool false) := cell_blk p0.out 2
  have k3 : w2.cell? ⟨w.heap.size, 3, none⟩ = some (.bool l) := cell_blk p0.out 3
  have k4 : w2.cell? ⟨w.heap.size, 4, none⟩ = some (strV fr) := cell_blk p0.out 4
  have k5 : w2.cell? ⟨w.heap.size, 5, none⟩ = some (strV bo) := cell_blk p0.out 5
  have k6 : w2.cell? ⟨w.heap.size, 6, none⟩ = some (.slice A to.length c) := cell_blk p0.out 6
  have y0 : w2.cell? ⟨By, 0, none⟩ = some (Value.string ⟨#[114, 99, 112, 116, 32, 116, 111, 58, 60, 97, 62]⟩) := cell_blk py.out 0
  have y1 : w2.cell? ⟨By, 1, none⟩ = some (Value.string ⟨#[82, 67, 80, 84, 32, 84, 79, 58, 60, 97, 62]⟩) := cell_blk py.out 1
  go_wp2_with fail
  have hU := (Below.refl w2.heap.size w2).alloc (Nat.le_refl _) (.cells #[strV [97]] 9)
  have hmx : (w2.alloc (.cells #[strV [97]] 9)).cell? ⟨0, 0, none⟩ = some (.int .i64 m) := ((hB.trans (hU.mono hB.size)).cell hw0).trans Hm.out
  refine (line_any ⟨h, f, false, l, fr, bo, to⟩ (.slice A to.length c) ⟨#[114, 99, 112, 116, 32, 116, 111, 58, 60, 97, 62]⟩ (.slice (some ⟨w2.heap.size, 0, none⟩) 1 1) [[97]] m _ ((Hr.out.below hU hB.size).more (hB.trans (hU.mono hB.size)).size) (rds_single w2 [97] 9) hmx (by show to.length ≤ _; omega) (by show bo.length ≤ _; omega) (by decide) (by decide)).mono ?_
  rw [E1.out]
  rintro e w3 ⟨tv, rfl, ho, hb1⟩
  obtain ⟨A1, c1, e1, _⟩ := ho.form
  simp only at e1
  subst e1
  clear k0 k1 k2 k3 k4 k5 k6 y0 y1
  have hb2 : Below w2.heap.size w2 w3 := hU.trans (hb1.mono hU.size)
  have hA := hb2.alloc hb2.size (.cells #[.bool h', .bool f', .bool d', .bool l', strV fr', strV bo', .slice A1 to'.length c1] 25)
  replace p0 := Lib.hid (blk_below p0.out hA (blk_lt p0.out))
  replace py := Lib.hid (blk_below py.out hA (blk_lt py.out))
  have p1 := Lib.hid (blk_new w3 (.cells #[.bool h', .bool f', .bool d', .bool l', strV fr', strV bo', .slice A1 to'.length c1] 25))
  replace Hr := Lib.hid (Hr.out.below hA hB.size)
  replace hB := hB.trans (hA.mono hB.size)
  have Ho1 := Lib.hid ((ho.rd).below ((Below.refl _ _).alloc (Nat.le_refl _) (.cells #[.bool h', .bool f', .bool d', .bool l', strV fr', strV bo', .slice A1 to'.length c1] 25)) (Nat.le_refl _))
  go_upto_region 5 with fail
  generalize w3.alloc (.cells #[.bool h', .bool f', .bool d', .bool l', strV fr', strV bo', .slice A1 to'.length c1] 25) = w3' at *
  generalize w3.heap.size = B1 at *
  clear hA ho hb1 hb2 hmx hU
  have k0 : w3'.cell? ⟨w.heap.size, 0, none⟩ = some (.bool h) := cell_blk p0.out 0
  have k1 : w3'.cell? ⟨w.heap.size, 1, none⟩ = some (.bool f) := cell_blk p0.out 1
  have k2 : w3'.cell? ⟨w.heap.size, 2, none⟩ = some (.bool false) := cell_blk p0.out 2
  have k3 : w3'.cell? ⟨w.heap.size, 3, none⟩ = some (.bool l) := cell_blk p0.out 3
  have k4 : w3'.cell? ⟨w.heap.size, 4, none⟩ = some (strV fr) := cell_blk p0.out 4
  have k5 : w3'.cell? ⟨w.heap.size, 5, none⟩ = some (strV bo) := cell_blk p0.out 5
  have k6 : w3'.cell? ⟨w.heap.size, 6, none⟩ = some (.slice A to.length c) := cell_blk p0.out 6
  have y0 : w3'.cell? ⟨By, 0, none⟩ = some (Value.string ⟨#[114, 99, 112, 116, 32, 116, 111, 58, 60, 97, 62]⟩) := cell_blk py.out 0
  have y1 : w3'.cell? ⟨By, 1, none⟩ = some (Value.string ⟨#[82, 67, 80, 84, 32, 84, 79, 58, 60, 97, 62]⟩) := cell_blk py.out 1
  go_wp2_with fail
  have hU := (Below.refl w3'.heap.size w3').alloc (Nat.le_refl _) (.cells #[strV [97]] 9)
  have hmx : (w3'.alloc (.cells #[strV [97]] 9)).cell? ⟨0, 0, none⟩ = some (.int .i64 m) := ((hB.trans (hU.mono hB.size)).cell hw0).trans Hm.out
  refine (line_any ⟨h, f, false, l, fr, bo, to⟩ (.slice A to.length c) ⟨#[82, 67, 80, 84, 32, 84, 79, 58, 60, 97, 62]⟩ (.slice (some ⟨w3'.heap.size, 0, none⟩) 1 1) [[97]] m _ ((Hr.out.below hU hB.size).more (hB.trans (hU.mono hB.size)).size) (rds_single w3' [97] 9) hmx (by show to.length ≤ _; omega) (by show bo.length ≤ _; omega) (by decide) (by decide)).mono ?_
  rw [E2.out]
  rintro e w4 ⟨tv, rfl, ho, hb1⟩
  obtain ⟨A2, c2, e1, _⟩ := ho.form
  simp only at e1
  subst e1
  clear k0 k1 k2 k3 k4 k5 k6 y0 y1
  have hb2 : Below w3'.heap.size w3' w4 := hU.trans (hb1.mono hU.size)
  have hA := hb2.alloc hb2.size (.cells #[.bool h', .bool f', .bool d', .bool l', strV fr', strV bo', .slice A2 to'.length c2] 25)
  have hlt1 := blk_lt p1.out
  replace p0 := Lib.hid (blk_below p0.out hA (blk_lt p0.out))
  replace py := Lib.hid (blk_below py.out hA (blk_lt py.out))
  replace p1 := Lib.hid (blk_below p1.out hA (blk_lt p1.out))
  have p2 := Lib.hid (blk_new w4 (.cells #[.bool h', .bool f', .bool d', .bool l', strV fr', strV bo', .slice A2 to'.length c2] 25))
  replace Hr := Lib.hid (Hr.out.below hA hB.size)
  replace Ho1 := Lib.hid (Ho1.out.below hA (Nat.le_of_lt hlt1))
  replace hB := hB.trans (hA.mono hB.size)
  have Ho2 := Lib.hid ((ho.rd).below ((Below.refl _ _).alloc (Nat.le_refl _) (.cells #[.bool h', .bool f', .bool d', .bool l', strV fr', strV bo', .slice A2 to'.length c2] 25)) (Nat.le_refl _))
  go_upto_region 6 with fail
  generalize w4.alloc (.cells #[.bool h', .bool f', .bool d', .bool l', strV fr', strV bo', .slice A2 to'.length c2] 25) = w4' at *
  generalize w4.heap.size = B2 at *
  clear hA ho hb1 hb2 hmx hU
  replace Ho2 := Lib.hid (Ho2.out.more (Nat.le_of_lt (blk_lt p2.out)))
  replace Ho1 := Lib.hid (Ho1.out.more (Nat.le_of_lt (blk_lt p1.out)))
  have hmx' := Lib.hid ((hB.cell hw0).trans Hm.out)
  have HB := Lib.hid hB
  clear hB Hm Hs Hr E1 E2 p0 py
  refine RG.wp_region_det (fun w' => Below w4'.heap.size w4' w') (by kernel_rfl) (by kernel_rfl) ((Below.refl _ _).drew) ?_
  apply RG.wpDet_cons
  · intro w9 hw9
    go_wp2_with fail
    with_reducible refine RG.only_mk ?_
    exact hw9
  · rfl
  apply RG.wpDet_cons
  · intro w9 hw9
    go_wp2_with fail
    with_reducible refine RG.only_mk ?_
    exact hw9
  · rfl
  apply RG.wpDet_cons
  · intro w9 hw9
    go_wp2_with fail
    with_reducible refine RG.only_mk ?_
    exact hw9
  · rfl
  apply RG.wpDet_cons
  · intro w9 hw9
    go_wp2_with fail
    with_reducible refine RG.only_mk ?_
    exact hw9
  · rfl
  apply RG.wpDet_cons
  · intro w9 hw9
    go_wp2_with fail
    with_reducible refine RG.only_mk ?_
    exact hw9
  · rfl
  apply RG.wpDet_cons
  · intro w9 hw9
    go_wp2_with fail
    with_reducible refine RG.only_mk ?_
    exact hw9
  · rfl
  apply RG.wpDet_cons
  · intro w9 hw9
    go_wp2_with fail
    with_reducible refine RG.only_mk ?_
    exact hw9
  · rfl
  apply RG.wpDet_cons
  · intro w9 hw9
    go_wp2_with fail
    with_reducible refine RG.only_mk ?_
    exact hw9
  · rfl
  apply RG.wpDet_cons
  · intro w9 hw9
    have p9 := blk_below p1.out hw9 (blk_lt p1.out)
    have k0 : w9.cell? ⟨B1, 0, none⟩ = some (.bool h') := cell_blk p9 0
    have k1 : w9.cell? ⟨B1, 1, none⟩ = some (.bool f') := cell_blk p9 1
    have k2 : w9.cell? ⟨B1, 2, none⟩ = some (.bool d') := cell_blk p9 2
    have k3 : w9.cell? ⟨B1, 3, none⟩ = some (.bool l') := cell_blk p9 3
    have k4 : w9.cell? ⟨B1, 4, none⟩ = some (strV fr') := cell_blk p9 4
    have k5 : w9.cell? ⟨B1, 5, none⟩ = some (strV bo') := cell_blk p9 5
    have k6 : w9.cell? ⟨B1, 6, none⟩ = some (.slice A1 to'.length c1) := cell_blk p9 6
    clear p9
    go_wp2_with fail
    with_reducible refine RG.only_mk ?_
    exact hw9
  · rfl
  apply RG.wpDet_cons
  · intro w9 hw9
    go_wp2_with (go_at_call 12; refine (ref_any _ _ _ _ _ _ _ _ _ _).mono ?_; rintro e w8 ⟨rfl, hb8⟩)
    with_reducible refine RG.only_mk ?_
    exact hw9.trans (hb8.mono hw9.size)
  · rfl
  apply RG.wpDet_cons
  · intro w9 hw9
    have p9 := blk_below p2.out hw9 (blk_lt p2.out)
    have k0 : w9.cell? ⟨B2, 0, none⟩ = some (.bool h') := cell_blk p9 0
    have k1 : w9.cell? ⟨B2, 1, none⟩ = some (.bool f') := cell_blk p9 1
    have k2 : w9.cell? ⟨B2, 2, none⟩ = some (.bool d') := cell_blk p9 2
    have k3 : w9.cell? ⟨B2, 3, none⟩ = some (.bool l') := cell_blk p9 3
    have k4 : w9.cell? ⟨B2, 4, none⟩ = some (strV fr') := cell_blk p9 4
    have k5 : w9.cell? ⟨B2, 5, none⟩ = some (strV bo') := cell_blk p9 5
    have k6 : w9.cell? ⟨B2, 6, none⟩ = some (.slice A2 to'.length c2) := cell_blk p9 6
    clear p9
    go_wp2_with fail
    with_reducible refine RG.only_mk ?_
    exact hw9
  · rfl
  apply RG.wpDet_cons
  · intro w9 hw9
    go_wp2_with (go_at_call 12; refine (ref_any _ _ _ _ _ _ _ _ _ _).mono ?_; rintro e w8 ⟨rfl, hb8⟩)
    with_reducible refine RG.only_mk ?_
    exact hw9.trans (hb8.mono hw9.size)
  · rfl
  apply RG.wpDet_cons
  · intro w9 hw9
    go_wp2_with (go_at_call 11; refine (equal_same _ _ _ _ _ _ _ _ _ _ w4'.heap.size to' _ (Ho1.out.below hw9 (Nat.le_refl _)) (Ho2.out.below hw9 (Nat.le_refl _)) (Below.size hw9) (by omega)).mono ?_; rintro e w8 ⟨rfl, hb8⟩)
    with_reducible refine RG.only_mk ?_
    exact hw9.trans (hb8.mono hw9.size)
  · rfl
  apply RG.wpDet_cons
  · intro w9 hw9
    go_wp2_with fail
    with_reducible refine RG.only_mk ?_
    exact hw9
  · rfl
  apply RG.wpDet_cons
  · intro w9 hw9
    go_wp2_with fail
    with_reducible refine RG.only_mk ?_
    exact hw9
  · rfl
  apply RG.wpDet_cons
  · intro w9 hw9
    go_wp2_with (go_at_call 6; refine (awake_any m _ ((hw9.cell (Nat.lt_of_lt_of_le hw0 HB.out.size)).trans hmx'.out)).mono ?_; rintro e w8 ⟨rfl, hb8⟩)
    with_reducible refine RG.only_mk ?_
    exact hw9.trans (hb8.mono hw9.size)
  · rfl
  apply RG.wpDet_cons
  · intro w9 hw9
    go_wp2_with fail
    with_reducible refine RG.only_mk ?_
    exact hw9
  · rfl
  apply RG.wpDet_cons
  · intro w9 hw9
    go_wp2_with fail
    with_reducible refine RG.only_mk ?_
    exact hw9
  · rfl
  refine RG.wpDet_nil (fun w9 hw9 => ?_)
  go_wp2
  go_ret
  exact ⟨rfl, HB.out.trans (hw9.mono HB.out.size)⟩
set_option maxHeartbeats 1000000 in
theorem same_else (n : Int) (s : LSt) (A : Option Addr) (c : Nat) (m : Int) (w : World) (hm : w.cell? ⟨0, 0, none⟩ = some (.int .i64 m)) (h1 : s.to.length ≤ 9223372036854775807) (h2 : s.body.length ≤ 9223372036854775807) (h3 : s.frm.length ≤ 9223372036854775807) (hS : ¬ (smallP s = true ∧ s.data = false)) :
    Calls Try.prog 5 #[stV s (.slice A s.to.length c), .int .u8 n] w fun e w' => e = .returned (.bool true) ∧ Below w.heap.size w w' := by
  have hw0 : 0 < w.heap.size := World.block_lt_of_cell? w _ hm
  have Hm := Lib.hid hm
  clear hm
  obtain ⟨h, f, d, l, fr, bo, to⟩ := s
  simp only at hS h1 h2 h3
  by_cases hs : smallP ⟨h, f, d, l, fr, bo, to⟩ = true
  · have hd : d = true := by cases d <;> simp_all
    subst hd
    have Hs := Lib.hid hs
    clear hs hS
    go_enter Try.func5, Try.ntmps5
    go_wp2_with fail
    refine (small_any ⟨h, f, true, l, fr, bo, to⟩ A c _ h1 h2 h3).mono ?_
    rw [Hs.out]
    rintro e w1 ⟨rfl, hb1⟩
    have p0 := blk_below (blk_new w (.cells #[.bool h, .bool f, .bool true, .bool l, strV fr, strV bo, .slice A to.length c] 25)) hb1 (by simp)
    have hB := ((Below.refl w.heap.size w).alloc (Nat.le_refl _) (.cells #[.bool h, .bool f, .bool true, .bool l, strV fr, strV bo, .slice A to.length c] 25)).trans (hb1.mono (by simp))
    have k2 : w1.cell? ⟨w.heap.size, 2, none⟩ = some (.bool true) := cell_blk p0 2
    clear p0 hb1
    have hmx : w1.cell? ⟨0, 0, none⟩ = some (.int .i64 m) := (hB.cell hw0).trans Hm.out
    go_wp2_with fail
    refine (awake_any m _ hmx).mono ?_
    rintro e w2 ⟨rfl, hb2⟩
    go_wp2
    go_ret
    exact ⟨rfl, hB.trans (hb2.mono hB.size)⟩
  · have Hs := Lib.hid (Bool.eq_false_iff.2 hs)
    clear hs hS
    go_enter Try.func5, Try.ntmps5
    go_wp2_with fail
    refine (small_any ⟨h, f, d, l, fr, bo, to⟩ A c _ h1 h2 h3).mono ?_
    rw [Hs.out]
    rintro e w1 ⟨rfl, hb1⟩
    have hB := ((Below.refl w.heap.size w).alloc (Nat.le_refl _) (.cells #[.bool h, .bool f, .bool d, .bool l, strV fr, strV bo, .slice A to.length c] 25)).trans (hb1.mono (by simp))
    clear hb1
    have hmx : w1.cell? ⟨0, 0, none⟩ = some (.int .i64 m) := (hB.cell hw0).trans Hm.out
    go_wp2_with fail
    refine (awake_any m _ hmx).mono ?_
    rintro e w2 ⟨rfl, hb2⟩
    go_wp2
    go_ret
    exact ⟨rfl, hB.trans (hb2.mono hB.size)⟩
end Go.Proofs.Ytnckfgihbimacaa.LM

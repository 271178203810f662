/- The closures of layer 20 for BODY, TEXT and sets. Conditions: lengths, and that the library's MaxLen holds some int. -/
import Derived.Test.YtkgngahmpafdhaaGreatDoorQueryFns2
namespace Go.Proofs.YtkgngahmpafdhaaGreatDoor.QU
open Go.RowKit Mailsack MM PT

theorem rdr_more {w : World} {B B' : Nat} {v : Value} {L : List (Int × Int)} (h : SP.RdR w B v L) (hB : B ≤ B') : SP.RdR w B' v L := by
  obtain ⟨A, c, h1, h2, h3⟩ := h
  refine ⟨A, c, h1, h2, fun hn => ?_⟩
  obtain ⟨b, off, h4, h5, h6⟩ := h3 hn
  exact ⟨b, off, h4, by omega, h6⟩
theorem view_cells {W : World} {b : Nat} {v : QV} (h : W.heap[b]? = some (viewB v)) : W.cell? ⟨b, 0, none⟩ = some (.int .i64 v.seq) ∧ W.cell? ⟨b, 1, none⟩ = some (.int .i64 v.uid) ∧ W.cell? ⟨b, 2, none⟩ = some (.int .i64 v.flags) ∧ W.cell? ⟨b, 3, none⟩ = some (.int .i64 v.size) ∧ W.cell? ⟨b, 4, none⟩ = some (strV v.text) ∧ W.cell? ⟨b, 5, none⟩ = some (.int .i64 v.seqs) ∧ W.cell? ⟨b, 6, none⟩ = some (.int .i64 v.uids) :=
  ⟨cell_blk h 0, cell_blk h 1, cell_blk h 2, cell_blk h 3, cell_blk h 4, cell_blk h 5, cell_blk h 6⟩

set_option maxHeartbeats 1000000 in
set_option maxRecDepth 100000 in
theorem key1_any (v : QV) (W : World) : Calls Tryz.prog 34 #[viewV v] W fun e W' => e = .returned (.tuple #[.int .i64 v.seq, .int .i64 v.seqs]) ∧ Below W.heap.size W W' := by
  have HB := Lib.hid ((Below.refl W.heap.size W).alloc (Nat.le_refl _) (viewB v))
  have pB := Lib.hid (blk_new W (viewB v))
  unfold viewV
  go_enter Tryz.func34, Tryz.ntmps34
  go_upto_region 1 with fail
  refine RG.wp_region_det (fun X => Hid (Below (W.alloc (viewB v)).heap.size (W.alloc (viewB v)) X)) (by kernel_rfl) (by kernel_rfl) (Lib.hid (Below.refl _ _).drew) ?_
  iterate 6
    apply RG.wpDet_cons
    · intro w9 hw9
      obtain ⟨d0, d1, d2, d3, d4, d5, d6⟩ := view_cells (blk_below pB.out hw9.out (by simp))
      repeat go_step
      with_reducible refine RG.only_mk ?_
      exact hw9
    · rfl
  refine RG.wpDet_nil (fun w9 hw9 => ?_)
  have HB9 := Lib.hid (HB.out.trans (hw9.out.mono HB.out.size))
  clear hw9
  go_wp2
  go_ret2
  exact ⟨rfl, HB9.out⟩
set_option maxHeartbeats 1000000 in
set_option maxRecDepth 100000 in
theorem uid1_any (v : QV) (W : World) : Calls Tryz.prog 49 #[viewV v] W fun e W' => e = .returned (.tuple #[.int .i64 v.uid, .int .i64 v.uids]) ∧ Below W.heap.size W W' := by
  have HB := Lib.hid ((Below.refl W.heap.size W).alloc (Nat.le_refl _) (viewB v))
  have pB := Lib.hid (blk_new W (viewB v))
  unfold viewV
  go_enter Tryz.func49, Tryz.ntmps49
  go_upto_region 1 with fail
  refine RG.wp_region_det (fun X => Hid (Below (W.alloc (viewB v)).heap.size (W.alloc (viewB v)) X)) (by kernel_rfl) (by kernel_rfl) (Lib.hid (Below.refl _ _).drew) ?_
  iterate 6
    apply RG.wpDet_cons
    · intro w9 hw9
      obtain ⟨d0, d1, d2, d3, d4, d5, d6⟩ := view_cells (blk_below pB.out hw9.out (by simp))
      repeat go_step
      with_reducible refine RG.only_mk ?_
      exact hw9
    · rfl
  refine RG.wpDet_nil (fun w9 hw9 => ?_)
  have HB9 := Lib.hid (HB.out.trans (hw9.out.mono HB.out.size))
  clear hw9
  go_wp2
  go_ret2
  exact ⟨rfl, HB9.out⟩

/-- which numbers of a message -/
def setF (u : Bool) : Nat := if u then 49 else 34
set_option maxHeartbeats 1000000 in
set_option maxRecDepth 100000 in
theorem set1_any (u : Bool) (b1 b2 : Nat) (sv : Value) (R : List (Int × Int)) (v : QV) (W : World) (h1 : Bx W b1 69 (.func (.func (setF u)) #[] #[])) (h2 : Bx W b2 82 sv) (hR : SP.RdR W W.heap.size sv R) (hl : R.length ≤ 1000000) :
    Calls Tryz.prog 53 #[viewV v, .pointer (some ⟨b1, 0, none⟩), .pointer (some ⟨b2, 0, none⟩)] W fun e W' => e = .returned (.bool (semQ (.set u R) v)) ∧ Below W.heap.size W W' := by
  have l1 := blk_lt h1
  have l2 := blk_lt h2
  have k1 : W.cell? ⟨b1, 0, none⟩ = some (.func (.func (setF u)) #[] #[]) := cell_blk h1 0
  have k2 : W.cell? ⟨b2, 0, none⟩ = some sv := cell_blk h2 0
  have HB := Lib.hid ((Below.refl W.heap.size W).alloc (Nat.le_refl _) (viewB v))
  have HR := Lib.hid (fun W' (h : Below W.heap.size W W') => rdr_more (hR.below h (Nat.le_refl _)) h.size)
  obtain ⟨A, c, rfl, _, _⟩ := hR
  have K1 := Lib.hid (fun X => key1_any v X)
  have U1 := Lib.hid (fun X => uid1_any v X)
  unfold viewV at K1 U1 ⊢
  clear h1 h2
  cases u
  · rw [show setF false = 34 from rfl] at k1
    go_enter Tryz.func53, Tryz.ntmps53
    go_wp2_with fail
    refine (K1.out _).mono ?_
    rintro e w2 ⟨rfl, hb2⟩
    have HB2 := Lib.hid (HB.out.trans (hb2.mono HB.out.size))
    have c2 := (HB2.out.cell (p := ⟨b2, 0, none⟩) l2).trans k2
    clear hb2
    go_wp2_with fail
    refine (SP.has_any _ R _ _ _ (HR.out _ HB2.out) hl).mono ?_
    rintro e w3 ⟨rfl, hb3⟩
    have HB3 := Lib.hid (HB2.out.trans (hb3.mono HB2.out.size))
    clear hb3
    go_wp2
    go_ret
    exact ⟨rfl, HB3.out⟩
  · rw [show setF true = 49 from rfl] at k1
    go_enter Tryz.func53, Tryz.ntmps53
    go_wp2_with fail
    refine (U1.out _).mono ?_
    rintro e w2 ⟨rfl, hb2⟩
    have HB2 := Lib.hid (HB.out.trans (hb2.mono HB.out.size))
    have c2 := (HB2.out.cell (p := ⟨b2, 0, none⟩) l2).trans k2
    clear hb2
    go_wp2_with fail
    refine (SP.has_any _ R _ _ _ (HR.out _ HB2.out) hl).mono ?_
    rintro e w3 ⟨rfl, hb3⟩
    have HB3 := Lib.hid (HB2.out.trans (hb3.mono HB2.out.size))
    clear hb3
    go_wp2
    go_ret
    exact ⟨rfl, HB3.out⟩

/-- which part of a message -/
def textF (b : Bool) : Nat := if b then 26 else 27
def textOf (b : Bool) (v : QV) : Bs := if b then v.text.drop (splitN v.text) else v.text
theorem textF_any (b : Bool) (m : Int) (v : QV) (W : World) (ht : v.text.length ≤ 1000) (hm : W.cell? ⟨0, 0, none⟩ = some (.int .i64 m)) :
    Calls Tryz.prog (textF b) #[viewV v] W fun e W' => e = .returned (strV (textOf b v)) ∧ Below W.heap.size W W' := by
  cases b
  · exact makers3_any v W
  · exact body_any m v W ht hm
set_option maxHeartbeats 1000000 in
set_option maxRecDepth 100000 in
theorem text11_any (b : Bool) (b1 b2 : Nat) (x : Bs) (m : Int) (v : QV) (W : World) (hg : GoodV v) (hx : x.length ≤ 1000000) (hm : W.cell? ⟨0, 0, none⟩ = some (.int .i64 m)) (h1 : Bx W b1 63 (.func (.func (textF b)) #[] #[])) (h2 : Bx W b2 9 (strV x)) :
    Calls Tryz.prog 46 #[viewV v, .pointer (some ⟨b1, 0, none⟩), .pointer (some ⟨b2, 0, none⟩)] W fun e W' => e = .returned (.bool (semQ (.text b x) v)) ∧ Below W.heap.size W W' := by
  have l1 := blk_lt h1
  have l2 := blk_lt h2
  have k1 : W.cell? ⟨b1, 0, none⟩ = some (.func (.func (textF b)) #[] #[]) := cell_blk h1 0
  have k2 : W.cell? ⟨b2, 0, none⟩ = some (strV x) := cell_blk h2 0
  have HB := Lib.hid ((Below.refl W.heap.size W).alloc (Nat.le_refl _) (viewB v))
  have pB := Lib.hid (blk_new W (viewB v))
  have hs : semQ (.text b x) v = hasP (textOf b v) x := by cases b <;> rfl
  rw [hs]
  have htl : (textOf b v).length ≤ 1000 := by
    have := hg.txt
    cases b
    · exact this
    · show (v.text.drop _).length ≤ _; rw [List.length_drop]; omega
  have T1 := Lib.hid (fun W' (h : Below W.heap.size W W') => textF_any b m v W' hg.txt (max_at hm h))
  have T2 := Lib.hid (fun W' (h : Below W.heap.size W W') => has_any ⟨(textOf b v).toArray⟩ ⟨x.toArray⟩ m W' (by show (textOf b v).length < _; omega) (by show x.length < _; omega) (max_at hm h))
  simp only at T2
  have ee : ∀ args w, (callFunc (textF b) args).run Tryz.prog w = .ok (.enter (textF b) args) w := by
    cases b
    · exact enters_of Tryz.func27 (by kernel_rfl) rfl
    · exact enters_of Tryz.func26 (by kernel_rfl) rfl
  have HC := Lib.hid (fun W' (h : Below W.heap.size W W') => And.intro ((h.cell (p := ⟨b1, 0, none⟩) l1).trans k1) ((h.cell (p := ⟨b2, 0, none⟩) l2).trans k2))
  generalize textOf b v = T at *
  generalize textF b = tf at *
  unfold viewV at T1 ⊢
  clear h1 h2 hs hm hg k1 k2
  go_enter Tryz.func46, Tryz.ntmps46
  go_upto_region 1 with fail
  refine RG.wp_region_det (fun X => Hid (Below (W.alloc (viewB v)).heap.size (W.alloc (viewB v)) X)) (by kernel_rfl) (by kernel_rfl) (Lib.hid (Below.refl _ _).drew) ?_
  iterate 2
    apply RG.wpDet_cons
    · intro w9 hw9
      obtain ⟨d0, d1, d2, d3, d4, d5, d6⟩ := view_cells (blk_below pB.out hw9.out (by simp))
      obtain ⟨c1, c2⟩ := HC.out w9 (HB.out.trans (hw9.out.mono HB.out.size))
      repeat go_step
      with_reducible refine RG.only_mk ?_
      exact hw9
    · rfl
  apply RG.wpDet_cons
  · intro w9 hw9
    repeat go_step
    refine (T1.out _ (HB.out.trans (hw9.out.mono HB.out.size))).mono ?_
    rintro e w10 ⟨rfl, hb10⟩
    simp only []
    repeat go_step
    with_reducible refine RG.only_mk ?_
    exact Lib.hid (hw9.out.trans (hb10.mono hw9.out.size))
  · rfl
  apply RG.wpDet_cons
  · intro w9 hw9
    obtain ⟨c1, c2⟩ := HC.out w9 (HB.out.trans (hw9.out.mono HB.out.size))
    repeat go_step
    with_reducible refine RG.only_mk ?_
    exact hw9
  · rfl
  apply RG.wpDet_cons
  · intro w9 hw9
    repeat go_step
    refine (T2.out _ (HB.out.trans (hw9.out.mono HB.out.size))).mono ?_
    rintro e w10 ⟨rfl, hb10⟩
    simp only []
    repeat go_step
    with_reducible refine RG.only_mk ?_
    exact Lib.hid (hw9.out.trans (hb10.mono hw9.out.size))
  · rfl
  apply RG.wpDet_cons
  · intro w9 hw9
    repeat go_step
    with_reducible refine RG.only_mk ?_
    exact hw9
  · rfl
  refine RG.wpDet_nil (fun w9 hw9 => ?_)
  have HB9 := Lib.hid (HB.out.trans (hw9.out.mono HB.out.size))
  clear hw9
  go_wp2
  go_ret
  exact ⟨rfl, HB9.out⟩
end Go.Proofs.YtkgngahmpafdhaaGreatDoor.QU

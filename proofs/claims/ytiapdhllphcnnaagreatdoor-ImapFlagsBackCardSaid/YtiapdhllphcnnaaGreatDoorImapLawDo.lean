/- What mailsacklaw22.do returns, out of what imap.Do returns. Conditions: those stated. -/
import Derived.Test.YtiapdhllphcnnaaGreatDoorImapDo
namespace Go.Proofs.YtiapdhllphcnnaaGreatDoor.IM
open Go.RowKit MM BU Mailsack

theorem bel_set {w W : World} (h : Below w.heap.size w W) (k i : Nat) (u : Value) : Below w.heap.size w (W.setCell ⟨w.heap.size + k, i, none⟩ u) := h.setCell (p := ⟨w.heap.size + k, i, none⟩) (Nat.le_add_right _ _) u

set_option maxHeartbeats 4000000 in
set_option maxRecDepth 100000 in
theorem lawdo_any (d0 d1 s0 s1 s2 s3 s4 s5 s6 s7 s8 s9 n0 n1 n2 n3 n4 n5 t0 t1 t2 t3 t4 t5 t6 t7 t8 t9 : Value) (line r : Bs) (w : World)
    (hone : ∀ v ∈ [d0, d1, t0, t1, t2, t3, t4, t5, t6, t7, t8, t9], v.oneCell' = true)
    (hdo : ∀ W xv, Below w.heap.size w W → RdS W W.heap.size xv [line] → Calls Tryz.prog 20 #[.agg #[d0, d1], .agg #[s0, s1, s2, s3, s4, s5, s6, s7, s8, s9], .agg #[xv, .slice none 0 0], .agg #[n0, n1, n2, n3, n4, n5]] W fun e w' =>
      e = .returned (.tuple #[.agg #[d0, d1], .agg #[t0, t1, t2, t3, t4, t5, t6, t7, t8, t9], strV r]) ∧ Below W.heap.size W w') :
    Calls Tryz.prog 11 #[.agg #[d0, d1], .agg #[s0, s1, s2, s3, s4, s5, s6, s7, s8, s9], strV line, .agg #[n0, n1, n2, n3, n4, n5]] w fun e w' =>
      e = .returned (.tuple #[.agg #[d0, d1], .agg #[t0, t1, t2, t3, t4, t5, t6, t7, t8, t9], strV r]) ∧ Below w.heap.size w w' := by
  have HD := Lib.hid hdo
  have Hone := Lib.hid hone
  clear hdo hone
  have H6 := Lib.hid (six w (dskO d0 d1) (staO s0 s1 s2 s3 s4 s5 s6 s7 s8 s9) (drwO n0 n1 n2 n3 n4 n5) (dskO (.slice none 0 0) (.slice none 0 0)) staZ (.cells #[strV line] 9))
  have HR := Lib.hid (fun (W : World) (h : Six w (dskO d0 d1) (staO s0 s1 s2 s3 s4 s5 s6 s7 s8 s9) (drwO n0 n1 n2 n3 n4 n5) (dskO (.slice none 0 0) (.slice none 0 0)) staZ (.cells #[strV line] 9) W) =>
    (show RdS W W.heap.size (.slice (some ⟨w.heap.size + 1 + 1 + 1 + 1 + 1, 0, none⟩) 1 1) [line] from ⟨_, 1, rfl, by simp, fun _ => ⟨w.heap.size + 5, 0, rfl, by rw [h.size]; omega, fun j x hx => by
      have hj : j = 0 := by have := (List.getElem?_eq_some_iff.1 hx).1; simp at this; omega
      subst hj
      rw [Nat.zero_add, cell_blk h.p5 0]
      simp at hx
      subst hx
      rfl⟩⟩))
  go_enter Tryz.func11, Tryz.ntmps11
  go_wp2_with fail
  refine (HD.out _ _ H6.out.bel (HR.out _ H6.out)).mono ?_
  rintro e w1 ⟨rfl, hb1⟩
  have hz6 := H6.out.size
  have HB1 := Lib.hid (H6.out.bel.trans (hb1.mono H6.out.bel.size))
  have r3 : w1.heap[w.heap.size + 1 + 1 + 1]? = some (dskO (.slice none 0 0) (.slice none 0 0)) := blk_below H6.out.p3 hb1 (by omega)
  have r4 : w1.heap[w.heap.size + 1 + 1 + 1 + 1]? = some staZ := blk_below H6.out.p4 hb1 (by omega)
  have f0 := cell_blk r3 0
  have f1 := cell_blk r3 1
  have x0 := free_blk r3 0
  have x1 := free_blk r3 1
  have g0 := cell_blk r4 0
  have y0 := free_blk r4 0
  have g1 := cell_blk r4 1
  have y1 := free_blk r4 1
  have g2 := cell_blk r4 2
  have y2 := free_blk r4 2
  have g3 := cell_blk r4 3
  have y3 := free_blk r4 3
  have g4 := cell_blk r4 4
  have y4 := free_blk r4 4
  have g5 := cell_blk r4 5
  have y5 := free_blk r4 5
  have g6 := cell_blk r4 6
  have y6 := free_blk r4 6
  have g7 := cell_blk r4 7
  have y7 := free_blk r4 7
  have g8 := cell_blk r4 8
  have y8 := free_blk r4 8
  have g9 := cell_blk r4 9
  have y9 := free_blk r4 9
  have T0 := fun (W : World) (a : Addr) => run_store Tryz.prog W a d0 .plain (Hone.out d0 (by simp))
  have T1 := fun (W : World) (a : Addr) => run_store Tryz.prog W a d1 .plain (Hone.out d1 (by simp))
  have T2 := fun (W : World) (a : Addr) => run_store Tryz.prog W a t0 .plain (Hone.out t0 (by simp))
  have T3 := fun (W : World) (a : Addr) => run_store Tryz.prog W a t1 .plain (Hone.out t1 (by simp))
  have T4 := fun (W : World) (a : Addr) => run_store Tryz.prog W a t2 .plain (Hone.out t2 (by simp))
  have T5 := fun (W : World) (a : Addr) => run_store Tryz.prog W a t3 .plain (Hone.out t3 (by simp))
  have T6 := fun (W : World) (a : Addr) => run_store Tryz.prog W a t4 .plain (Hone.out t4 (by simp))
  have T7 := fun (W : World) (a : Addr) => run_store Tryz.prog W a t5 .plain (Hone.out t5 (by simp))
  have T8 := fun (W : World) (a : Addr) => run_store Tryz.prog W a t6 .plain (Hone.out t6 (by simp))
  have T9 := fun (W : World) (a : Addr) => run_store Tryz.prog W a t7 .plain (Hone.out t7 (by simp))
  have T10 := fun (W : World) (a : Addr) => run_store Tryz.prog W a t8 .plain (Hone.out t8 (by simp))
  have T11 := fun (W : World) (a : Addr) => run_store Tryz.prog W a t9 .plain (Hone.out t9 (by simp))
  clear hb1 hz6 H6 HR HD r3 r4
  go_wp2
  refine bodyPost_ret (v := .tuple #[.agg #[d0, d1], .agg #[t0, t1, t2, t3, t4, t5, t6, t7, t8, t9], strV r]) (by simp [results, Tryz.results11, go_sem, f0, f1, g0, g1, g2, g3, g4, g5, g6, g7, g8, g9]) rfl ?_
  refine ⟨rfl, ?_⟩
  have h := HB1.out
  clear HB1 x0 x1 y0 y1 y2 y3 y4 y5 y6 y7 y8 y9 f0 f1 g0 g1 g2 g3 g4 g5 g6 g7 g8 g9 T0 T1 T2 T3 T4 T5 T6 T7 T8 T9 T10 T11
  have k1 := bel_set h 3 0 d0
  have k2 := bel_set k1 3 1 d1
  have k3 := bel_set k2 4 0 t0
  have k4 := bel_set k3 4 1 t1
  have k5 := bel_set k4 4 2 t2
  have k6 := bel_set k5 4 3 t3
  have k7 := bel_set k6 4 4 t4
  have k8 := bel_set k7 4 5 t5
  have k9 := bel_set k8 4 6 t6
  have k10 := bel_set k9 4 7 t7
  have k11 := bel_set k10 4 8 t8
  have k12 := bel_set k11 4 9 t9
  exact k12
end Go.Proofs.YtiapdhllphcnnaaGreatDoor.IM

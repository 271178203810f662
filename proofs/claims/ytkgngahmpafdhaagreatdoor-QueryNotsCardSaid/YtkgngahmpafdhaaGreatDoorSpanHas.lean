/- What span.Has and the reference's Has return, for any ranges. Conditions: that the slice reads as the ranges, and int bounds. -/
import Derived.Test.YtkgngahmpafdhaaGreatDoorSpanParse
import Derived.Test.YtkgngahmpafdhaaGreatDoorReg
import Derived.Deep.Cut
namespace Go.Proofs.YtkgngahmpafdhaaGreatDoor.SP
open Go.RowKit Mailsack MM

/-- the slice value v reads as these ranges, in a block below B -/
def RdR (w : World) (B : Nat) (v : Value) (L : List (Int × Int)) : Prop :=
  ∃ A c, v = .slice A L.length c ∧ L.length ≤ c ∧ (0 < L.length → ∃ b off, A = some ⟨b, off, none⟩ ∧ b < B ∧ ∀ j r, L[j]? = some r → w.cell? ⟨b, off + j * 2, none⟩ = some (.int .i64 r.1) ∧ w.cell? ⟨b, off + j * 2 + 1, none⟩ = some (.int .i64 r.2))
theorem RdR.keep {w w' : World} {B : Nat} {v : Value} {L : List (Int × Int)} (h : RdR w B v L) (hk : ∀ p : Addr, p.block < B → w'.cell? p = w.cell? p) : RdR w' B v L := by
  obtain ⟨A, c, h1, h2, h3⟩ := h
  refine ⟨A, c, h1, h2, fun hn => ?_⟩
  obtain ⟨b, off, h4, h5, h6⟩ := h3 hn
  exact ⟨b, off, h4, h5, fun j x hx => ⟨(hk _ h5).trans (h6 j x hx).1, (hk _ h5).trans (h6 j x hx).2⟩⟩
theorem RdR.below {w w' : World} {B B' : Nat} {v : Value} {L : List (Int × Int)} (h : RdR w B v L) (hb : Below B' w w') (hB : B ≤ B') : RdR w' B v L := h.keep fun _ hp => hb.cell (by omega)
theorem rngCells_at : ∀ (L : List (Int × Int)) (j : Nat) (r : Int × Int), L[j]? = some r → (rngCells L)[j * 2]? = some (.int .i64 r.1) ∧ (rngCells L)[j * 2 + 1]? = some (.int .i64 r.2)
  | [], j, r, h => by simp at h
  | q :: L, 0, r, h => by simp at h; subst h; simp [rngCells]
  | q :: L, j + 1, r, h => by
    have ih := rngCells_at L j r (by simpa using h)
    have e : rngCells (q :: L) = .int .i64 q.1 :: .int .i64 q.2 :: rngCells L := by simp [rngCells]
    rw [e, show (j + 1) * 2 = j * 2 + 1 + 1 by omega]
    exact ih
theorem OwnR.rd {w : World} {B : Nat} {v : Value} {L : List (Int × Int)} (h : OwnR w B v L) : RdR w w.heap.size v L := by
  rcases h.2 with ⟨h1, h2⟩ | ⟨g, cap, cur, h1, hb, hg, hnc, _, _, htake⟩
  · exact ⟨none, 0, by rw [h1, h2], by omega, fun h => by omega⟩
  · refine ⟨_, cap, h1, hnc, fun _ => ⟨g, 0, rfl, blk_lt hg, fun j x hx => ?_⟩⟩
    have hadd : ∀ i, (⟨g, 0, none⟩ : Addr).add i = ⟨g, i, none⟩ := fun i => by unfold Addr.add; split <;> simp_all
    have t1 := World.ownsRow.cells h (g := g) (by rw [h1]; rfl) (j * 2) _ (rngCells_at L j x hx).1
    have t2 := World.ownsRow.cells h (g := g) (by rw [h1]; rfl) (j * 2 + 1) _ (rngCells_at L j x hx).2
    rw [hadd] at t1 t2
    rw [Nat.zero_add]
    exact ⟨t1, t2⟩
theorem any_take {f : (Int × Int) → Bool} {L : List (Int × Int)} {k : Nat} {r : Int × Int} (h : L[k]? = some r) (hf : f r = true) : L.any f = true :=
  List.any_eq_true.2 ⟨r, List.mem_of_getElem? h, hf⟩
theorem any_none {f : (Int × Int) → Bool} {L : List (Int × Int)} (h : ∀ r ∈ L.take L.length, f r = false) : L.any f = false := by
  rw [List.take_length] at h
  rw [List.any_eq_false]
  intro r hr
  rw [h r hr]; decide
theorem none_step {f : (Int × Int) → Bool} {L : List (Int × Int)} {k : Nat} {r : Int × Int} (h : L[k]? = some r) (hf : f r = false) (h0 : ∀ r ∈ L.take k, f r = false) : ∀ r ∈ L.take (k + 1), f r = false := by
  intro q hq
  rw [List.take_add_one, h] at hq
  rcases List.mem_append.1 hq with hq | hq
  · exact h0 q hq
  · simp at hq; subst hq; exact hf

theorem hasR_t {n g x y p q : Int} (hp : endG g x = p) (hq : endG g y = q) (h : min p q ≤ n ∧ n ≤ max p q) : hasR n g (x, y) = true := by
  unfold hasR; subst hp hq; exact decide_eq_true h
theorem hasR_f {n g x y p q : Int} (hp : endG g x = p) (hq : endG g y = q) (h : ¬ (min p q ≤ n ∧ n ≤ max p q)) : hasR n g (x, y) = false := by
  unfold hasR; subst hp hq; exact decide_eq_false h

set_option maxHeartbeats 1000000 in
set_option maxRecDepth 100000 in
theorem has_any (v : Value) (L : List (Int × Int)) (n g : Int) (w : World) (hv : RdR w w.heap.size v L) (hlen : L.length ≤ 1000000) :
    Calls Tryz.prog 54 #[v, .int .i64 n, .int .i64 g] w fun e w' => e = .returned (.bool (hasS L n g)) ∧ Below w.heap.size w w' := by
  obtain ⟨A, c, rfl, hc, hcell⟩ := hv
  have Hcell := Lib.hid hcell
  clear hcell
  go_enter Tryz.func54, Tryz.ntmps54
  go_wp2
  go_loopw [13] (fun i wr => ∃ k : Nat, k ≤ L.length ∧ i = .int .i64 k ∧ Hid (Below w.heap.size w wr) ∧ Hid (∀ r ∈ L.take k, hasR n g r = false)) (fun i _ => L.length - (intOf i).toNat)
  case atStart => exact ⟨0, Nat.zero_le _, rfl, Lib.hid (Below.refl _ _), Lib.hid (by simp)⟩
  case round =>
    obtain ⟨k, hk, rfl, hb, hno⟩ := hrel
    by_cases hlt : k < L.length
    · obtain ⟨b, off, rfl, hbB, hcs⟩ := Hcell.out (by omega)
      obtain ⟨r, hr⟩ : ∃ r, L[k]? = some r := ⟨_, List.getElem?_eq_getElem hlt⟩
      obtain ⟨x, y⟩ := r
      obtain ⟨c1, c2⟩ := hcs k _ hr
      have d1 := (hb.out.cell (p := ⟨b, off + k * 2, none⟩) hbB).trans c1
      have d2 := (hb.out.cell (p := ⟨b, off + k * 2 + 1, none⟩) hbB).trans c2
      have Hr := Lib.hid hr
      clear c1 c2 hcs hr
      go_upto_region 4 with fail
      refine RG.wp_region_det (fun W => Hid (Below wr.heap.size.succ (wr.alloc (Obj.cells #[Value.int IntKind.i64 x, Value.int IntKind.i64 y] 95)) W)) (by kernel_rfl) (by kernel_rfl) (Lib.hid (Below.refl _ _).drew) ?_
      iterate 6
        apply RG.wpDet_cons
        · intro w9 hw9
          have p9 := blk_below (blk_new wr (Obj.cells #[Value.int IntKind.i64 x, Value.int IntKind.i64 y] 95)) hw9.out (Nat.lt_succ_self _)
          have k0 : w9.cell? ⟨wr.heap.size, 0, none⟩ = some (.int .i64 x) := cell_blk p9 0
          have k1 : w9.cell? ⟨wr.heap.size, 1, none⟩ = some (.int .i64 y) := cell_blk p9 1
          clear p9
          repeat go_step
          with_reducible refine RG.only_mk ?_
          exact hw9
        · rfl
      refine RG.wpDet_nil (fun w9 hw9 => ?_)
      have hb9 := Lib.hid ((hb.out.alloc hb.out.size (Obj.cells #[Value.int IntKind.i64 x, Value.int IntKind.i64 y] 95)).trans (hw9.out.mono (by simp; have := hb.out.size; omega)))
      clear hw9 d1 d2 hbB Hcell
      by_cases hx0 : x = 0 <;> by_cases hy0 : y = 0
      · have Hp := Lib.hid (show endG g x = g by simp [endG, hx0])
        have Hq := Lib.hid (show endG g y = g by simp [endG, hy0])
        have hxb : (x == 0) = true := by simpa using hx0
        have hyb : (y == 0) = true := by simpa using hy0
        clear hx0 hy0
        go_wp2
        all_goals first
          | (refine ⟨⟨k + 1, by omega, by go_num, hb9, Lib.hid (none_step Hr.out (hasR_f Hp.out Hq.out (by omega)) hno.out)⟩, by simp [intOf]; omega⟩)
          | (go_ret; refine ⟨?_, hb9.out⟩; rw [show hasS L n g = true from any_take Hr.out (hasR_t Hp.out Hq.out (by omega))]; rfl)
      · have Hp := Lib.hid (show endG g x = g by simp [endG, hx0])
        have Hq := Lib.hid (show endG g y = y by simp [endG, hy0])
        have hxb : (x == 0) = true := by simpa using hx0
        have hyb : (y == 0) = false := by simpa using hy0
        clear hx0 hy0
        go_wp2
        all_goals first
          | (refine ⟨⟨k + 1, by omega, by go_num, hb9, Lib.hid (none_step Hr.out (hasR_f Hp.out Hq.out (by omega)) hno.out)⟩, by simp [intOf]; omega⟩)
          | (go_ret; refine ⟨?_, hb9.out⟩; rw [show hasS L n g = true from any_take Hr.out (hasR_t Hp.out Hq.out (by omega))]; rfl)
      · have Hp := Lib.hid (show endG g x = x by simp [endG, hx0])
        have Hq := Lib.hid (show endG g y = g by simp [endG, hy0])
        have hxb : (x == 0) = false := by simpa using hx0
        have hyb : (y == 0) = true := by simpa using hy0
        clear hx0 hy0
        go_wp2
        all_goals first
          | (refine ⟨⟨k + 1, by omega, by go_num, hb9, Lib.hid (none_step Hr.out (hasR_f Hp.out Hq.out (by omega)) hno.out)⟩, by simp [intOf]; omega⟩)
          | (go_ret; refine ⟨?_, hb9.out⟩; rw [show hasS L n g = true from any_take Hr.out (hasR_t Hp.out Hq.out (by omega))]; rfl)
      · have Hp := Lib.hid (show endG g x = x by simp [endG, hx0])
        have Hq := Lib.hid (show endG g y = y by simp [endG, hy0])
        have hxb : (x == 0) = false := by simpa using hx0
        have hyb : (y == 0) = false := by simpa using hy0
        clear hx0 hy0
        go_wp2
        all_goals first
          | (refine ⟨⟨k + 1, by omega, by go_num, hb9, Lib.hid (none_step Hr.out (hasR_f Hp.out Hq.out (by omega)) hno.out)⟩, by simp [intOf]; omega⟩)
          | (go_ret; refine ⟨?_, hb9.out⟩; rw [show hasS L n g = true from any_take Hr.out (hasR_t Hp.out Hq.out (by omega))]; rfl)
    · obtain rfl : k = L.length := by omega
      have Hn := Lib.hid (show hasS L n g = false from any_none hno.out)
      go_wp2
      go_ret
      rw [Hn.out]
      exact ⟨rfl, hb.out⟩
end Go.Proofs.YtkgngahmpafdhaaGreatDoor.SP

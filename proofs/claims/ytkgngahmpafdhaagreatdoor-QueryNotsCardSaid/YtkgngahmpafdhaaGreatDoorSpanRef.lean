/- What mailsacklaw14.refs and the document's Has return, for any ranges. Conditions: that the slice reads as the ranges, and lengths. -/
import Derived.Test.YtkgngahmpafdhaaGreatDoorSpanHas
namespace Go.Proofs.YtkgngahmpafdhaaGreatDoor.SP
open Go.RowKit Mailsack MM

theorem infoQ : (Tryz.prog.info? 73).map (fun i => (i.zero, i.size, i.bytes)) = some (some (.agg #[.int .i64 0, .int .i64 0]), 2, 16) := by kernel_rfl
theorem infoR2 : (Tryz.prog.info? 95).map (fun i => (i.zero, i.size, i.bytes)) = some (some (.agg #[.int .i64 0, .int .i64 0]), 2, 16) := by kernel_rfl
/-- the slice value v owns a row of just these ranges, of the element type E -/
def OwnE (E : TypeId) (w : World) (B : Nat) (v : Value) (L : List (Int × Int)) : Prop := w.ownsRow B E 2 v L.length (rngCells L)
theorem OwnE.nil (E : TypeId) (w : World) (B : Nat) : OwnE E w B (.slice none 0 0) [] := World.ownsRow_nil w B _ _
theorem OwnE.form {E : TypeId} {w : World} {B : Nat} {v : Value} {L : List (Int × Int)} (h : OwnE E w B v L) : ∃ A c, v = .slice A L.length c ∧ L.length ≤ c := by
  rcases h.2 with ⟨h1, h2⟩ | ⟨g, cap, cur, h1, _, _, h2, _⟩
  · exact ⟨none, 0, by rw [h1, h2], by omega⟩
  · exact ⟨_, _, h1, h2⟩
theorem OwnE.rd {E : TypeId} {w : World} {B : Nat} {v : Value} {L : List (Int × Int)} (h : OwnE E w B v L) : RdR w w.heap.size v L := by
  rcases h.2 with ⟨h1, h2⟩ | ⟨g, cap, cur, h1, hb, hg, hnc, _, _, htake⟩
  · exact ⟨none, 0, by rw [h1, h2], by omega, fun h => by omega⟩
  · refine ⟨_, cap, h1, hnc, fun _ => ⟨g, 0, rfl, blk_lt hg, fun j x hx => ?_⟩⟩
    have hadd : ∀ i, (⟨g, 0, none⟩ : Addr).add i = ⟨g, i, none⟩ := fun i => by unfold Addr.add; split <;> simp_all
    have t1 := World.ownsRow.cells h (g := g) (by rw [h1]; rfl) (j * 2) _ (rngCells_at L j x hx).1
    have t2 := World.ownsRow.cells h (g := g) (by rw [h1]; rfl) (j * 2 + 1) _ (rngCells_at L j x hx).2
    rw [hadd] at t1 t2
    rw [Nat.zero_add]
    exact ⟨t1, t2⟩
theorem OwnE.below {E : TypeId} {w w' : World} {B : Nat} {v : Value} {L : List (Int × Int)} (h : OwnE E w B v L) (hb : Below w.heap.size w w') : OwnE E w' B v L :=
  World.ownsRow.kept h (grown_of_below hb none) (by cases v.ownBlock <;> simp)
theorem OwnE.push {E : TypeId} {w : World} {B : Nat} {v : Value} {L : List (Int × Int)} {r : Int × Int} (h : w.ownsRow B E 2 v (L.length + 1) (rngCells L ++ [.int .i64 r.1, .int .i64 r.2])) : OwnE E w B v (L ++ [r]) := by
  unfold OwnE; rw [List.length_append, rngCells_snoc]; exact h
theorem two_int (a b : Int) : ∀ u ∈ [Value.int .i64 a, Value.int .i64 b], u.oneCell' = true := by
  intro u hu; simp at hu; rcases hu with rfl | rfl <;> rfl
theorem RdR.more {w : World} {B B' : Nat} {v : Value} {L : List (Int × Int)} (h : RdR w B v L) (hB : B ≤ B') : RdR w B' v L := by
  obtain ⟨A, c, h1, h2, h3⟩ := h
  refine ⟨A, c, h1, h2, fun hn => ?_⟩
  obtain ⟨b, off, h4, h5, h6⟩ := h3 hn
  exact ⟨b, off, h4, by omega, h6⟩
theorem take_snoc' {α : Type} {L : List α} {k : Nat} {r : α} (h : L[k]? = some r) : L.take (k + 1) = L.take k ++ [r] := by rw [List.take_add_one, h]; rfl

set_option maxHeartbeats 2000000 in
set_option maxRecDepth 100000 in
theorem refHas_any (v : Value) (L : List (Int × Int)) (n g : Int) (w : World) (hv : RdR w w.heap.size v L) (hlen : L.length ≤ 1000000) :
    Calls Tryz.prog 14 #[v, .int .i64 n, .int .i64 g] w fun e w' => e = .returned (.bool (hasS L n g)) ∧ Below w.heap.size w w' := by
  obtain ⟨A, c, rfl, hc, hcell⟩ := hv
  have Hcell := Lib.hid hcell
  clear hcell
  go_enter Tryz.func14, Tryz.ntmps14
  go_wp2
  go_loopw [7] (fun i wr => ∃ k : Nat, k ≤ L.length ∧ i = .int .i64 k ∧ Hid (Below w.heap.size w wr) ∧ Hid (∀ r ∈ L.take k, hasR n g r = false)) (fun i _ => L.length - (intOf i).toNat)
  case atStart => exact ⟨0, Nat.zero_le _, rfl, Lib.hid (Below.refl _ _), Lib.hid (by simp)⟩
  case round =>
    obtain ⟨k, hk, rfl, hb, hno⟩ := hrel
    by_cases hlt : k < L.length
    · obtain ⟨b, off, rfl, hbB, hcs⟩ := Hcell.out (by omega)
      obtain ⟨r, hr⟩ : ∃ r, L[k]? = some r := ⟨_, List.getElem?_eq_getElem hlt⟩
      obtain ⟨x, y⟩ := r
      obtain ⟨c1, c2⟩ := hcs k _ hr
      have d1 := Lib.hid ((hb.out.cell (p := ⟨b, off + k * 2, none⟩) hbB).trans c1)
      have d2 := Lib.hid ((hb.out.cell (p := ⟨b, off + k * 2 + 1, none⟩) hbB).trans c2)
      have Hr := Lib.hid hr
      clear c1 c2 hcs hr Hcell
      go_upto_region 4 with fail
      refine RG.wp_region_det (fun W => Hid (Below wr.heap.size wr W)) (by kernel_rfl) (by kernel_rfl) (Lib.hid (Below.refl _ _).drew) ?_
      iterate 12
        apply RG.wpDet_cons
        · intro w9 hw9
          have hB9 : b < wr.heap.size := Nat.lt_of_lt_of_le hbB hb.out.size
          have k0 := (hw9.out.cell (p := ⟨b, off + k * 2, none⟩) hB9).trans d1.out
          have k1 := (hw9.out.cell (p := ⟨b, off + k * 2 + 1, none⟩) hB9).trans d2.out
          repeat go_step
          with_reducible refine RG.only_mk ?_
          exact hw9
        · rfl
      refine RG.wpDet_nil (fun w9 hw9 => ?_)
      have hb9 := Lib.hid (hb.out.trans (hw9.out.mono hb.out.size))
      clear hw9 d1 d2 hbB
      by_cases hx0 : x = 0 <;> by_cases hy0 : y = 0
      · have Hp := Lib.hid (show endG g x = g by simp [endG, hx0])
        have Hq := Lib.hid (show endG g y = g by simp [endG, hy0])
        have hxb : (x == 0) = true := by simpa using hx0
        have hyb : (y == 0) = true := by simpa using hy0
        clear hx0 hy0
        go_wp2
        all_goals first
          | (refine ⟨⟨k + 1, by omega, by go_num, hb9, Lib.hid (none_step Hr.out (hasR_f Hp.out Hq.out (by omega)) hno.out)⟩, by simp [intOf]; omega⟩)
          | (go_ret; refine ⟨?_, hb9.out⟩; rw [show hasS L n g = true from any_take Hr.out (hasR_t Hp.out Hq.out (by omega))]; rfl)
      · have Hp := Lib.hid (show endG g x = g by simp [endG, hx0])
        have Hq := Lib.hid (show endG g y = y by simp [endG, hy0])
        have hxb : (x == 0) = true := by simpa using hx0
        have hyb : (y == 0) = false := by simpa using hy0
        clear hx0 hy0
        go_wp2
        all_goals first
          | (refine ⟨⟨k + 1, by omega, by go_num, hb9, Lib.hid (none_step Hr.out (hasR_f Hp.out Hq.out (by omega)) hno.out)⟩, by simp [intOf]; omega⟩)
          | (go_ret; refine ⟨?_, hb9.out⟩; rw [show hasS L n g = true from any_take Hr.out (hasR_t Hp.out Hq.out (by omega))]; rfl)
      · have Hp := Lib.hid (show endG g x = x by simp [endG, hx0])
        have Hq := Lib.hid (show endG g y = g by simp [endG, hy0])
        have hxb : (x == 0) = false := by simpa using hx0
        have hyb : (y == 0) = true := by simpa using hy0
        clear hx0 hy0
        go_wp2
        all_goals first
          | (refine ⟨⟨k + 1, by omega, by go_num, hb9, Lib.hid (none_step Hr.out (hasR_f Hp.out Hq.out (by omega)) hno.out)⟩, by simp [intOf]; omega⟩)
          | (go_ret; refine ⟨?_, hb9.out⟩; rw [show hasS L n g = true from any_take Hr.out (hasR_t Hp.out Hq.out (by omega))]; rfl)
      · have Hp := Lib.hid (show endG g x = x by simp [endG, hx0])
        have Hq := Lib.hid (show endG g y = y by simp [endG, hy0])
        have hxb : (x == 0) = false := by simpa using hx0
        have hyb : (y == 0) = false := by simpa using hy0
        clear hx0 hy0
        go_wp2
        all_goals first
          | (refine ⟨⟨k + 1, by omega, by go_num, hb9, Lib.hid (none_step Hr.out (hasR_f Hp.out Hq.out (by omega)) hno.out)⟩, by simp [intOf]; omega⟩)
          | (go_ret; refine ⟨?_, hb9.out⟩; rw [show hasS L n g = true from any_take Hr.out (hasR_t Hp.out Hq.out (by omega))]; rfl)
    · obtain rfl : k = L.length := by omega
      have Hn := Lib.hid (show hasS L n g = false from any_none hno.out)
      go_wp2
      go_ret
      rw [Hn.out]
      exact ⟨rfl, hb.out⟩
end Go.Proofs.YtkgngahmpafdhaaGreatDoor.SP

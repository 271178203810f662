/- What lines.Take returns, for any text. Conditions: the text's length, and that the cell of the library's MaxLen holds some int. -/
import Derived.Test.YtomnljigoljldaaGreatDoorTakePlain
import Derived.Test.YtomnljigoljldaaGreatDoorLNext
import Derived.Test.YtomnljigoljldaaGreatDoorLinesNumber
import Derived.Test.YtomnljigoljldaaGreatDoorMem
import Derived.Deep.RegionLaw
import Derived.RegionTactic
import Derived.Deep.Cut
import Derived.Deep.DeepCutAuto
namespace Go.Proofs.YtomnljigoljldaaGreatDoor.LN
open Go.RowKit Mailsack MM

theorem infoT : (Tryz.prog.info? 9).map (fun i => (i.zero, i.size, i.bytes)) = some (some (.string ⟨#[]⟩), 1, 16) := by kernel_rfl

/-- the memory of Take: the result's place, the command in hand, its two rows -/
structure CAt (w : World) (tv lv : Value) (T L : List Bs) (wr : World) : Prop where
  res : wr.heap[w.heap.size]? = some (.cells #[.slice none 0 0, .slice none 0 0] 100 (0, 0))
  com : wr.heap[w.heap.size + 1]? = some (.cells #[tv, lv] 100 (0, 0))
  ts : OwnS wr (w.heap.size + 2) tv T
  ls : OwnS wr (w.heap.size + 2) lv L
  ap : Apart tv lv
  bel : Below w.heap.size w wr
  big : w.heap.size + 2 ≤ wr.heap.size

/-- where Take is at a round's head -/
structure TAt (s : ByteArray) (w : World) (r : ByteArray) (tv lv : Value) (T L : List Bs) (wr : World) : Prop where
  mem : CAt w tv lv T L wr
  rs : r.size ≤ s.size
  tl : T.length = L.length
  l4 : L.length ≤ 4
  go : takeGo (5 - L.length) T L r.data.toList = takeP s.data.toList

def TakePost (w : World) (R : TakeR) (e : Ending) (w' : World) : Prop :=
  ∃ tv lv, e = .returned (.tuple #[.agg #[tv, lv], strV R.rest, .int .i64 R.state, .int .i64 R.n]) ∧ OwnS w' w.heap.size tv R.texts ∧ OwnS w' w.heap.size lv R.lits ∧ Below w.heap.size w w'

section
variable {w wr w2 w3 : World} {tv lv : Value} {T L : List Bs}
theorem CAt.drew (h : CAt w tv lv T L wr) (hw : ∃ n, w2 = wr.drewN n) : CAt w tv lv T L w2 := by
  obtain ⟨n, rfl⟩ := hw
  exact ⟨h.res, h.com, h.ts.drewN n, h.ls.drewN n, h.ap, below_drewN h.bel n, h.big⟩
theorem own_ge {B : Nat} {v : Value} {xs : List Bs} (h : OwnS w2 B v xs) {k : Nat} (hk : k < B) : some k ≠ v.ownBlock := fun e => by
  have := (World.ownsRow.lt h k e.symm).1; omega
theorem CAt.keep (h : CAt w tv lv T L w2) {o : Obj} {row : Option Nat} (hg : (w2.alloc o).grownBy w3 row) (hr : ∀ k, row = some k → w.heap.size + 2 ≤ k) :
    w3.heap[w.heap.size]? = some (.cells #[.slice none 0 0, .slice none 0 0] 100 (0, 0)) ∧ w3.heap[w.heap.size + 1]? = some (.cells #[tv, lv] 100 (0, 0)) ∧ w.heap.size + 2 ≤ w3.heap.size :=
  ⟨blk_grown (blk_alloc h.res o) hg (fun e => by have := hr _ e.symm; omega), blk_grown (blk_alloc h.com o) hg (fun e => by have := hr _ e.symm; omega), by have := hg.size; have := h.big; rw [size_new] at *; omega⟩
theorem CAt.pushT (h : CAt w tv lv T L w2) {o : Obj} {x : Bs} {v1 : Value} (hown : w3.ownsRow (w.heap.size + 2) 9 1 v1 (T.length + 1) (T.map strV ++ [strV x]))
    (hg : (w2.alloc o).grownBy w3 tv.ownBlock) (hloc : v1.ownBlock = tv.ownBlock ∨ v1.ownBlock = some (w2.alloc o).heap.size) : CAt w v1 lv (T ++ [x]) L (w3.setCell ⟨w.heap.size + 1, 0, none⟩ v1) := by
  have hk := h.keep hg (fun k hk => (World.ownsRow.lt h.ts k hk).1)
  have h9 := push_two (w := w2) (x := x) h.ts h.ls h.ap hown hg hloc (Below.refl _ _) h.big
  refine ⟨blk_far hk.1 (by simp) _, ?_, h9.1.set (by simp) _, h9.2.1.set (by simp) _, h9.2.2.1, ?_, by rw [size_set]; exact hk.2.2⟩
  · have := blk_set hk.2.1 0 v1
    simpa using this
  · exact ((h.bel.alloc (by have := h.big; omega) o).grown hg (by have := h.big; rw [size_new]; omega) (fun k hk => by have := (World.ownsRow.lt h.ts k hk).1; omega)).setCell (by simp) _
theorem CAt.pushL (h : CAt w tv lv T L w2) {o : Obj} {x : Bs} {v1 : Value} (hown : w3.ownsRow (w.heap.size + 2) 9 1 v1 (L.length + 1) (L.map strV ++ [strV x]))
    (hg : (w2.alloc o).grownBy w3 lv.ownBlock) (hloc : v1.ownBlock = lv.ownBlock ∨ v1.ownBlock = some (w2.alloc o).heap.size) : CAt w tv v1 T (L ++ [x]) (w3.setCell ⟨w.heap.size + 1, 1, none⟩ v1) := by
  have hk := h.keep hg (fun k hk => (World.ownsRow.lt h.ls k hk).1)
  have h9 := push_two (w := w2) (x := x) h.ls h.ts h.ap.symm hown hg hloc (Below.refl _ _) h.big
  refine ⟨blk_far hk.1 (by simp) _, ?_, h9.2.1.set (by simp) _, h9.1.set (by simp) _, h9.2.2.1.symm, ?_, by rw [size_set]; exact hk.2.2⟩
  · have := blk_set hk.2.1 1 v1
    simpa using this
  · exact ((h.bel.alloc (by have := h.big; omega) o).grown hg (by have := h.big; rw [size_new]; omega) (fun k hk => by have := (World.ownsRow.lt h.ls k hk).1; omega)).setCell (by simp) _
/-- behind the two stores into the result's place -/
theorem CAt.out (h : CAt w tv lv T L w2) (a b : Value) : OwnS ((w2.setCell ⟨w.heap.size, 0, none⟩ a).setCell ⟨w.heap.size, 1, none⟩ b) w.heap.size tv T ∧ OwnS ((w2.setCell ⟨w.heap.size, 0, none⟩ a).setCell ⟨w.heap.size, 1, none⟩ b) w.heap.size lv L ∧
    Below w.heap.size w ((w2.setCell ⟨w.heap.size, 0, none⟩ a).setCell ⟨w.heap.size, 1, none⟩ b) :=
  ⟨((h.ts.set (by simp) _).set (by simp) _).less (by omega), ((h.ls.set (by simp) _).set (by simp) _).less (by omega), (h.bel.setCell (by simp) _).setCell (by simp) _⟩
end
set_option maxHeartbeats 2000000 in
set_option maxRecDepth 100000 in
theorem take_any (s : ByteArray) (m : Int) (w : World) (hl : s.size < 4294967281) (hm : w.cell? ⟨1, 0, none⟩ = some (.int .i64 m)) :
    Calls Tryz.prog 37 #[.string s] w (TakePost w (takeP s.data.toList)) := by
  obtain ⟨i0, hi, hz0, hz1, hz2⟩ := info_parts infoT
  have hw0 : 1 < w.heap.size := World.block_lt_of_cell? w _ hm
  have Hm := Lib.hid hm
  clear hm
  go_enter Tryz.func37, Tryz.ntmps37
  go_wp2
  go_loopw [7] (fun rv wr => ∃ (r : ByteArray) (tv lv : Value) (T L : List Bs), rv = .string r ∧ Hid (TAt s w r tv lv T L wr)) (fun rv _ => lenOf rv)
  case atStart => exact ⟨s, _, _, [], [], rfl, Lib.hid ⟨⟨two_old _ _ _, two_new _ _ _, OwnS.nil _ _, OwnS.nil _ _, .inl rfl, ((Below.refl _ _).alloc (Nat.le_refl _) _).alloc (by simp) _, by simp⟩, Nat.le_refl _, rfl, by decide, rfl⟩⟩
  case round =>
    obtain ⟨r, tv, lv, T, L, rfl, hr⟩ := hrel
    have hrs : r.size ≤ s.size := hr.out.rs
    obtain ⟨A, c, e1, hc⟩ := hr.out.mem.ls.form
    subst e1
    have hL4 : L.length ≤ 4 := hr.out.l4
    obtain ⟨f, hf⟩ : ∃ f, 5 - L.length = f + 1 := ⟨4 - L.length, by omega⟩
    have htk := hr.out.go
    rw [hf] at htk
    rcases hnx : nextP r.data.toList with ⟨ln, rest, st⟩
    have hlen := nextP_rest hnx
    rw [size_list] at hlen
    have Hnx := Lib.hid hnx
    have hm2 : wr.cell? ⟨1, 0, none⟩ = some (.int .i64 m) := (hr.out.mem.bel.cell hw0).trans Hm.out
    by_cases hst : st = 1
    · subst hst
      have hl3 := nextP_len hnx
      rw [size_list] at hl3
      obtain ⟨A', c', e1, hc'⟩ := hr.out.mem.ts.form
      subst e1
      have htl := hr.out.tl
      have hTL : T.length ≤ 4 := by omega
      have Htl := Lib.hid htl
      clear htl
      rcases hlit : litP ln with _ | ⟨n, a⟩
      · rw [takeGo_plain hnx hlit] at htk
        have Htk := Lib.hid htk
        have Hlit := Lib.hid (show litR (⟨ln.toArray⟩ : ByteArray).data.toList = (ln, 0, false) from litR_none hlit)
        clear hnx htk hf hlit
        go_wp2_with fail
        refine (next_any r m _ (by omega) hm2).mono ?_
        rintro e w2 ⟨rfl, hw⟩
        rw [Hnx.out]
        have hr2 := Lib.hid (hr.out.mem.drew hw)
        clear hw hr hm2
        go_wp2_with fail
        refine (literal_any ⟨ln.toArray⟩ _ (by rw [← size_list]; show ln.length < _; omega)).mono ?_
        rintro e w' ⟨rfl, rfl⟩
        rw [Hlit.out]
        have c0 : w2.cell? ⟨w.heap.size + 1, 0, none⟩ = some (.slice A' T.length c') := cell_blk hr2.out.com 0
        have hbig := hr2.out.big
        have Hown := Lib.hid hr2.out.ts.row
        go_upto_region 8 with (at_builtin; refine wpList_append_lies _ rfl _ _ 40 rfl (w.heap.size + 2) 9 i0 (.string ⟨#[]⟩) 1 16 Tryz.underlying40 hi hz0 hz1 hz2 rfl (by decide) _ _ _ rfl (Hown.out.alloc _) ⟨w2.heap.size, 0, none⟩ 1 1 [strV (ln)] rfl rfl (cell_one_new _ _ _) (one_cell_str _) (by decide) (by unfold maxLen; omega) (by omega) (by simp; omega) _ rfl ?_; intro g cap w3 hown1 hgrow1 hloc1 _; have h9 := Lib.hid (hr2.out.pushT (x := ln) hown1 hgrow1 (loc_of hloc1)); have hk := hr2.out.keep hgrow1 (fun k hk => (World.ownsRow.lt hr2.out.ts k hk).1); have k0 : w3.cell? ⟨w.heap.size + 1, 0, none⟩ = some (.slice A' T.length c') := cell_blk hk.2.1 0; have k1 : w3.frozen? ⟨w.heap.size + 1, 0, none⟩ = false := free_blk hk.2.1 0; clear hown1 hgrow1 hloc1 hk)
        clear k0 k1 c0 hbig Hown hr2
        generalize w3.setCell ⟨w.heap.size + 1, 0, none⟩ (.slice (some ⟨g, 0, none⟩) (T.length + 1) cap) = w4 at h9 ⊢
        have c0 : w4.cell? ⟨w.heap.size + 1, 0, none⟩ = some (.slice (some ⟨g, 0, none⟩) (T.length + 1) cap) := cell_blk h9.out.com 0
        have c1 : w4.cell? ⟨w.heap.size + 1, 1, none⟩ = some (.slice A L.length c) := cell_blk h9.out.com 1
        have r0 : w4.cell? ⟨w.heap.size, 0, none⟩ = some (.slice none 0 0) := cell_blk h9.out.res 0
        have r1 : w4.cell? ⟨w.heap.size, 1, none⟩ = some (.slice none 0 0) := cell_blk h9.out.res 1
        have f0 : w4.frozen? ⟨w.heap.size, 0, none⟩ = false := free_blk h9.out.res 0
        have f1 : w4.frozen? ⟨w.heap.size, 1, none⟩ = false := free_blk h9.out.res 1
        go_wp2
        go_region
        go_wp2
        refine bodyPost_ret (v := .tuple #[.agg #[.slice (some ⟨g, 0, none⟩) (T.length + 1) cap, .slice A L.length c], strV rest, .int .i64 1, .int .i64 L.length]) (by simp [results, Tryz.results37, go_sem, r0, r1]) rfl ?_
        rw [← Htk.out]
        exact ⟨_, _, rfl, (h9.out.out _ _).1, (h9.out.out _ _).2.1, (h9.out.out _ _).2.2.drew⟩
      have hn := numP_lit hlit
      have ha := litP_at hlit
      have Hlit := Lib.hid (show litR (⟨ln.toArray⟩ : ByteArray).data.toList = (ln.take a, n, true) from litR_some hlit)
      by_cases hg1 : 700 < n
      · rw [takeGo_great hnx hlit (.inl hg1)] at htk
        have Htk := Lib.hid htk
        clear hnx htk hf hlit
        go_wp2_with fail
        refine (next_any r m _ (by omega) hm2).mono ?_
        rintro e w2 ⟨rfl, hw⟩
        rw [Hnx.out]
        have hr2 := Lib.hid (hr.out.mem.drew hw)
        clear hw hr hm2
        go_wp2_with fail
        refine (literal_any ⟨ln.toArray⟩ _ (by rw [← size_list]; show ln.length < _; omega)).mono ?_
        rintro e w' ⟨rfl, rfl⟩
        rw [Hlit.out]
        have c0 : w2.cell? ⟨w.heap.size + 1, 0, none⟩ = some (.slice A' T.length c') := cell_blk hr2.out.com 0
        have hbig := hr2.out.big
        have Hown := Lib.hid hr2.out.ts.row
        go_upto_region 8 with (at_builtin; refine wpList_append_lies _ rfl _ _ 40 rfl (w.heap.size + 2) 9 i0 (.string ⟨#[]⟩) 1 16 Tryz.underlying40 hi hz0 hz1 hz2 rfl (by decide) _ _ _ rfl (Hown.out.alloc _) ⟨w2.heap.size, 0, none⟩ 1 1 [strV (ln.take a)] rfl rfl (cell_one_new _ _ _) (one_cell_str _) (by decide) (by unfold maxLen; omega) (by omega) (by simp; omega) _ rfl ?_; intro g cap w3 hown1 hgrow1 hloc1 _; have h9 := Lib.hid (hr2.out.pushT (x := ln.take a) hown1 hgrow1 (loc_of hloc1)); have hk := hr2.out.keep hgrow1 (fun k hk => (World.ownsRow.lt hr2.out.ts k hk).1); have k0 : w3.cell? ⟨w.heap.size + 1, 0, none⟩ = some (.slice A' T.length c') := cell_blk hk.2.1 0; have k1 : w3.frozen? ⟨w.heap.size + 1, 0, none⟩ = false := free_blk hk.2.1 0; clear hown1 hgrow1 hloc1 hk)
        clear k0 k1 c0 hbig Hown hr2
        generalize w3.setCell ⟨w.heap.size + 1, 0, none⟩ (.slice (some ⟨g, 0, none⟩) (T.length + 1) cap) = w4 at h9 ⊢
        have c0 : w4.cell? ⟨w.heap.size + 1, 0, none⟩ = some (.slice (some ⟨g, 0, none⟩) (T.length + 1) cap) := cell_blk h9.out.com 0
        have c1 : w4.cell? ⟨w.heap.size + 1, 1, none⟩ = some (.slice A L.length c) := cell_blk h9.out.com 1
        have r0 : w4.cell? ⟨w.heap.size, 0, none⟩ = some (.slice none 0 0) := cell_blk h9.out.res 0
        have r1 : w4.cell? ⟨w.heap.size, 1, none⟩ = some (.slice none 0 0) := cell_blk h9.out.res 1
        have f0 : w4.frozen? ⟨w.heap.size, 0, none⟩ = false := free_blk h9.out.res 0
        have f1 : w4.frozen? ⟨w.heap.size, 1, none⟩ = false := free_blk h9.out.res 1
        go_wp2
        go_region
        go_wp2
        refine bodyPost_ret (v := .tuple #[.agg #[.slice none 0 0, .slice none 0 0], strV rest, .int .i64 2, .int .i64 L.length]) (by simp [results, Tryz.results37, go_sem, r0, r1]) rfl ?_
        rw [← Htk.out]
        exact ⟨_, _, rfl, OwnS.nil _ _, OwnS.nil _ _, (h9.out.out _ _).2.2.drew⟩
      by_cases hg2 : 3 < L.length
      · rw [takeGo_great hnx hlit (.inr hg2)] at htk
        have Htk := Lib.hid htk
        have hB : ((L.length : Int) == 4) = true := by simp; omega
        clear hnx htk hf hlit
        go_wp2_with fail
        refine (next_any r m _ (by omega) hm2).mono ?_
        rintro e w2 ⟨rfl, hw⟩
        rw [Hnx.out]
        have hr2 := Lib.hid (hr.out.mem.drew hw)
        clear hw hr hm2
        go_wp2_with fail
        refine (literal_any ⟨ln.toArray⟩ _ (by rw [← size_list]; show ln.length < _; omega)).mono ?_
        rintro e w' ⟨rfl, rfl⟩
        rw [Hlit.out]
        have c0 : w2.cell? ⟨w.heap.size + 1, 0, none⟩ = some (.slice A' T.length c') := cell_blk hr2.out.com 0
        have hbig := hr2.out.big
        have Hown := Lib.hid hr2.out.ts.row
        go_upto_region 8 with (at_builtin; refine wpList_append_lies _ rfl _ _ 40 rfl (w.heap.size + 2) 9 i0 (.string ⟨#[]⟩) 1 16 Tryz.underlying40 hi hz0 hz1 hz2 rfl (by decide) _ _ _ rfl (Hown.out.alloc _) ⟨w2.heap.size, 0, none⟩ 1 1 [strV (ln.take a)] rfl rfl (cell_one_new _ _ _) (one_cell_str _) (by decide) (by unfold maxLen; omega) (by omega) (by simp; omega) _ rfl ?_; intro g cap w3 hown1 hgrow1 hloc1 _; have h9 := Lib.hid (hr2.out.pushT (x := ln.take a) hown1 hgrow1 (loc_of hloc1)); have hk := hr2.out.keep hgrow1 (fun k hk => (World.ownsRow.lt hr2.out.ts k hk).1); have k0 : w3.cell? ⟨w.heap.size + 1, 0, none⟩ = some (.slice A' T.length c') := cell_blk hk.2.1 0; have k1 : w3.frozen? ⟨w.heap.size + 1, 0, none⟩ = false := free_blk hk.2.1 0; clear hown1 hgrow1 hloc1 hk)
        clear k0 k1 c0 hbig Hown hr2
        generalize w3.setCell ⟨w.heap.size + 1, 0, none⟩ (.slice (some ⟨g, 0, none⟩) (T.length + 1) cap) = w4 at h9 ⊢
        have c0 : w4.cell? ⟨w.heap.size + 1, 0, none⟩ = some (.slice (some ⟨g, 0, none⟩) (T.length + 1) cap) := cell_blk h9.out.com 0
        have c1 : w4.cell? ⟨w.heap.size + 1, 1, none⟩ = some (.slice A L.length c) := cell_blk h9.out.com 1
        have r0 : w4.cell? ⟨w.heap.size, 0, none⟩ = some (.slice none 0 0) := cell_blk h9.out.res 0
        have r1 : w4.cell? ⟨w.heap.size, 1, none⟩ = some (.slice none 0 0) := cell_blk h9.out.res 1
        have f0 : w4.frozen? ⟨w.heap.size, 0, none⟩ = false := free_blk h9.out.res 0
        have f1 : w4.frozen? ⟨w.heap.size, 1, none⟩ = false := free_blk h9.out.res 1
        go_wp2
        go_region
        go_wp2
        refine bodyPost_ret (v := .tuple #[.agg #[.slice none 0 0, .slice none 0 0], strV rest, .int .i64 2, .int .i64 L.length]) (by simp [results, Tryz.results37, go_sem, r0, r1]) rfl ?_
        rw [← Htk.out]
        exact ⟨_, _, rfl, OwnS.nil _ _, OwnS.nil _ _, (h9.out.out _ _).2.2.drew⟩
      have hB : ((L.length : Int) == 4) = false := by simp; omega
      by_cases hg3 : (rest.length : Int) < n
      · rw [takeGo_short hnx hlit (by omega) hg3] at htk
        have Htk := Lib.hid htk
        clear hnx htk hf hlit
        go_wp2_with fail
        refine (next_any r m _ (by omega) hm2).mono ?_
        rintro e w2 ⟨rfl, hw⟩
        rw [Hnx.out]
        have hr2 := Lib.hid (hr.out.mem.drew hw)
        clear hw hr hm2
        go_wp2_with fail
        refine (literal_any ⟨ln.toArray⟩ _ (by rw [← size_list]; show ln.length < _; omega)).mono ?_
        rintro e w' ⟨rfl, rfl⟩
        rw [Hlit.out]
        have c0 : w2.cell? ⟨w.heap.size + 1, 0, none⟩ = some (.slice A' T.length c') := cell_blk hr2.out.com 0
        have hbig := hr2.out.big
        have Hown := Lib.hid hr2.out.ts.row
        go_upto_region 8 with (at_builtin; refine wpList_append_lies _ rfl _ _ 40 rfl (w.heap.size + 2) 9 i0 (.string ⟨#[]⟩) 1 16 Tryz.underlying40 hi hz0 hz1 hz2 rfl (by decide) _ _ _ rfl (Hown.out.alloc _) ⟨w2.heap.size, 0, none⟩ 1 1 [strV (ln.take a)] rfl rfl (cell_one_new _ _ _) (one_cell_str _) (by decide) (by unfold maxLen; omega) (by omega) (by simp; omega) _ rfl ?_; intro g cap w3 hown1 hgrow1 hloc1 _; have h9 := Lib.hid (hr2.out.pushT (x := ln.take a) hown1 hgrow1 (loc_of hloc1)); have hk := hr2.out.keep hgrow1 (fun k hk => (World.ownsRow.lt hr2.out.ts k hk).1); have k0 : w3.cell? ⟨w.heap.size + 1, 0, none⟩ = some (.slice A' T.length c') := cell_blk hk.2.1 0; have k1 : w3.frozen? ⟨w.heap.size + 1, 0, none⟩ = false := free_blk hk.2.1 0; clear hown1 hgrow1 hloc1 hk)
        clear k0 k1 c0 hbig Hown hr2
        generalize w3.setCell ⟨w.heap.size + 1, 0, none⟩ (.slice (some ⟨g, 0, none⟩) (T.length + 1) cap) = w4 at h9 ⊢
        have c0 : w4.cell? ⟨w.heap.size + 1, 0, none⟩ = some (.slice (some ⟨g, 0, none⟩) (T.length + 1) cap) := cell_blk h9.out.com 0
        have c1 : w4.cell? ⟨w.heap.size + 1, 1, none⟩ = some (.slice A L.length c) := cell_blk h9.out.com 1
        have r0 : w4.cell? ⟨w.heap.size, 0, none⟩ = some (.slice none 0 0) := cell_blk h9.out.res 0
        have r1 : w4.cell? ⟨w.heap.size, 1, none⟩ = some (.slice none 0 0) := cell_blk h9.out.res 1
        have f0 : w4.frozen? ⟨w.heap.size, 0, none⟩ = false := free_blk h9.out.res 0
        have f1 : w4.frozen? ⟨w.heap.size, 1, none⟩ = false := free_blk h9.out.res 1
        go_wp2
        go_region
        go_wp2
        refine bodyPost_ret (v := .tuple #[.agg #[.slice none 0 0, .slice none 0 0], strV [], .int .i64 0, .int .i64 (L.length + 1 : Nat)]) (by simp [results, Tryz.results37, go_sem, r0, r1]) rfl ?_
        rw [← Htk.out]
        exact ⟨_, _, rfl, OwnS.nil _ _, OwnS.nil _ _, (h9.out.out _ _).2.2.drew⟩
      · rw [takeGo_go hnx hlit (by omega) hg3] at htk
        have Htk := Lib.hid htk
        clear hnx htk hlit
        obtain ⟨m', rfl⟩ : ∃ m' : Nat, n = m' := ⟨n.toNat, by omega⟩
        go_wp2_with fail
        refine (next_any r m _ (by omega) hm2).mono ?_
        rintro e w2 ⟨rfl, hw⟩
        rw [Hnx.out]
        have hr2 := Lib.hid (hr.out.mem.drew hw)
        clear hw hr hm2
        go_wp2_with fail
        refine (literal_any ⟨ln.toArray⟩ _ (by rw [← size_list]; show ln.length < _; omega)).mono ?_
        rintro e w' ⟨rfl, rfl⟩
        rw [Hlit.out]
        have c0 : w2.cell? ⟨w.heap.size + 1, 0, none⟩ = some (.slice A' T.length c') := cell_blk hr2.out.com 0
        have hbig := hr2.out.big
        have Hown := Lib.hid hr2.out.ts.row
        go_upto_region 8 with (at_builtin; refine wpList_append_lies _ rfl _ _ 40 rfl (w.heap.size + 2) 9 i0 (.string ⟨#[]⟩) 1 16 Tryz.underlying40 hi hz0 hz1 hz2 rfl (by decide) _ _ _ rfl (Hown.out.alloc _) ⟨w2.heap.size, 0, none⟩ 1 1 [strV (ln.take a)] rfl rfl (cell_one_new _ _ _) (one_cell_str _) (by decide) (by unfold maxLen; omega) (by omega) (by simp; omega) _ rfl ?_; intro g cap w3 hown1 hgrow1 hloc1 _; have h9 := Lib.hid (hr2.out.pushT (x := ln.take a) hown1 hgrow1 (loc_of hloc1)); have hk := hr2.out.keep hgrow1 (fun k hk => (World.ownsRow.lt hr2.out.ts k hk).1); have k0 : w3.cell? ⟨w.heap.size + 1, 0, none⟩ = some (.slice A' T.length c') := cell_blk hk.2.1 0; have k1 : w3.frozen? ⟨w.heap.size + 1, 0, none⟩ = false := free_blk hk.2.1 0; clear hown1 hgrow1 hloc1 hk)
        clear k0 k1 c0 hbig Hown hr2
        generalize w3.setCell ⟨w.heap.size + 1, 0, none⟩ (.slice (some ⟨g, 0, none⟩) (T.length + 1) cap) = w4 at h9 ⊢
        have c0 : w4.cell? ⟨w.heap.size + 1, 0, none⟩ = some (.slice (some ⟨g, 0, none⟩) (T.length + 1) cap) := cell_blk h9.out.com 0
        have c1 : w4.cell? ⟨w.heap.size + 1, 1, none⟩ = some (.slice A L.length c) := cell_blk h9.out.com 1
        have r0 : w4.cell? ⟨w.heap.size, 0, none⟩ = some (.slice none 0 0) := cell_blk h9.out.res 0
        have r1 : w4.cell? ⟨w.heap.size, 1, none⟩ = some (.slice none 0 0) := cell_blk h9.out.res 1
        have f0 : w4.frozen? ⟨w.heap.size, 0, none⟩ = false := free_blk h9.out.res 0
        have f1 : w4.frozen? ⟨w.heap.size, 1, none⟩ = false := free_blk h9.out.res 1
        have g0 : w4.frozen? ⟨w.heap.size + 1, 1, none⟩ = false := free_blk h9.out.com 1
        clear r0 r1 f0 f1 c0
        have hbig := h9.out.big
        have Hown := Lib.hid h9.out.ls.row
        go_wp2
        have c1a : ∀ o, (w4.alloc o).cell? ⟨w.heap.size + 1, 1, none⟩ = some (.slice A L.length c) := fun o => cell_blk (blk_alloc h9.out.com o) 1
        go_region_law ((refine step_append_lies _ rfl (.tmp 71) (.tmp 75) 40 rfl (w.heap.size + 2) 9 i0 (.string ⟨#[]⟩) 1 16 Tryz.underlying40 hi hz0 hz1 hz2 rfl (by decide) (.slice A L.length c) L.length (L.map strV) (by simp [Act.eval]) ((Hown.out.alloc _).drew) ⟨w4.heap.size, 0, none⟩ 1 1 [Value.string ((⟨rest.toArray⟩ : ByteArray).extract 0 m')] (by simp [Act.eval]) rfl (by exact cell_one_new _ _ _) (one_cell_bytes _) (by decide) (by unfold maxLen; omega) (by omega) (by simp; omega) (w4.heap.size + 1) (by simp) ?_; intro g' cap' w5 hown2 hgrow2 hloc2 _; rw [ext_take] at hown2; have hg2' : (w4.alloc (.cells #[Value.string ((⟨rest.toArray⟩ : ByteArray).extract 0 m')] 9)).grownBy w5 (Value.slice A L.length c).ownBlock := ⟨hgrow2.os, hgrow2.tape, hgrow2.output, hgrow2.size, hgrow2.block⟩; have h10 := Lib.hid (h9.out.pushL (x := rest.take m') hown2 hg2' (loc_of (by rw [size_new]; exact hloc2))); have hk := h9.out.keep hg2' (fun k hk => (World.ownsRow.lt h9.out.ls k hk).1); have k0 : w5.cell? ⟨w.heap.size + 1, 1, none⟩ = some (.slice A L.length c) := cell_blk hk.2.1 1; have k1 : w5.frozen? ⟨w.heap.size + 1, 1, none⟩ = false := free_blk hk.2.1 1; clear hown2 hgrow2 hloc2 hg2' hk))
        all_goals
          go_wp2
          go_roundw
          case rel =>
            refine ⟨_, _, _, T ++ [ln.take a], L ++ [rest.take m'], rfl, Lib.hid ⟨h10.out, ?_, ?_, ?_, ?_⟩⟩
            · rw [ext_size]; have : (⟨rest.toArray⟩ : ByteArray).size = rest.length := rfl; omega
            · simp; exact Htl.out
            · simp; omega
            · have := Htk.out
              rw [List.length_append, List.length_singleton, show 5 - (L.length + 1) = f by omega, ext_drop_mk]
              exact this
          case measure => simp [lenOf]; omega
    · rw [takeGo_stop hnx hst] at htk
      have Hst : (st != 1) = true := by simpa using hst
      have Htk := Lib.hid htk
      clear hnx htk hf hst
      go_wp2_with fail
      refine (next_any r m _ (by omega) hm2).mono ?_
      rintro e w2 ⟨rfl, hw⟩
      rw [Hnx.out]
      have hr2 := Lib.hid (hr.out.mem.drew hw)
      clear hw hr hm2
      have c1 : w2.cell? ⟨w.heap.size + 1, 1, none⟩ = some (.slice A L.length c) := cell_blk hr2.out.com 1
      have r0 : w2.cell? ⟨w.heap.size, 0, none⟩ = some (.slice none 0 0) := cell_blk hr2.out.res 0
      have r1 : w2.cell? ⟨w.heap.size, 1, none⟩ = some (.slice none 0 0) := cell_blk hr2.out.res 1
      have f0 : w2.frozen? ⟨w.heap.size, 0, none⟩ = false := free_blk hr2.out.res 0
      have f1 : w2.frozen? ⟨w.heap.size, 1, none⟩ = false := free_blk hr2.out.res 1
      go_wp2
      go_region
      go_wp2
      refine bodyPost_ret (v := .tuple #[.agg #[.slice none 0 0, .slice none 0 0], strV rest, .int .i64 st, .int .i64 L.length]) (by simp [results, Tryz.results37, go_sem, r0, r1]) rfl ?_
      rw [← Htk.out]
      exact ⟨_, _, rfl, OwnS.nil _ _, OwnS.nil _ _, (hr2.out.out _ _).2.2.drew⟩
end Go.Proofs.YtomnljigoljldaaGreatDoor.LN

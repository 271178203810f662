/- The walk of the statement LinesMore: it returns true, for any two texts. Condition: the cell of the library's MaxLen holds some int. -/
import Derived.Test.YtmjmabpcpicemaaLinesAwake
import Derived.Test.YtmjmabpcpicemaaTakeMore
import Derived.Test.YtmjmabpcpicemaaSame
import Derived.Deep.Cut
namespace Go.Proofs.Ytmjmabpcpicemaa.LN
open Go.RowKit Mailsack MM

/-- what is known behind a Take whose command was laid in a new place -/
structure Got (B : Nat) (tv lv : Value) (R : TakeR) (w : World) : Prop where
  com : w.heap[B]? = some (.cells #[tv, lv] 32 (0, 0))
  ts : RdS w w.heap.size tv R.texts
  ls : RdS w w.heap.size lv R.lits

theorem Got.below {w w' : World} {B : Nat} {tv lv : Value} {R : TakeR} (h : Got B tv lv R w) (hb : Below w.heap.size w w') : Got B tv lv R w' :=
  ⟨blk_below h.com hb (blk_lt h.com), (h.ts.below hb (Nat.le_refl _)).more hb.size, (h.ls.below hb (Nat.le_refl _)).more hb.size⟩

theorem got_new {w : World} {B : Nat} {tv lv : Value} {R : TakeR} (h1 : OwnS w B tv R.texts) (h2 : OwnS w B lv R.lits) : Got w.heap.size tv lv R (w.alloc (.cells #[tv, lv] 32)) :=
  ⟨blk_new _ _, (h1.alloc _).rd, (h2.alloc _).rd⟩

theorem decide_same {α : Type} [DecidableEq α] (x : α) : decide (x = x) = true := decide_eq_true rfl

set_option maxHeartbeats 2000000 in
set_option maxRecDepth 100000 in
theorem law_more (s : ByteArray) (hs : s.size ≤ 9223372036854775807) (t : ByteArray) (ht : t.size ≤ 9223372036854775807) (m : Int) (w : World) (hm : w.cell? ⟨0, 0, none⟩ = some (.int .i64 m)) :
    Calls Try.prog 5 #[.string s, .string t] w fun e w' => e = .returned (.bool true) ∧ Below w.heap.size w w' := by
  have hw0 : 0 < w.heap.size := World.block_lt_of_cell? w _ hm
  have Hm := Lib.hid hm
  clear hm
  by_cases hbig : 4096 < s.size ∨ 4096 < t.size
  · rcases hbig with hbig | hbig
    · go_enter Try.func5, Try.ntmps5
      go_wp2_with fail
      refine (awake_any m _ Hm.out).mono ?_
      rintro e w1 ⟨rfl, hb⟩
      go_wp2
      go_ret
      exact ⟨rfl, hb⟩
    · by_cases hsb : 4096 < s.size
      · go_enter Try.func5, Try.ntmps5
        go_wp2_with fail
        refine (awake_any m _ Hm.out).mono ?_
        rintro e w1 ⟨rfl, hb⟩
        go_wp2
        go_ret
        exact ⟨rfl, hb⟩
      · go_enter Try.func5, Try.ntmps5
        go_wp2_with fail
        refine (awake_any m _ Hm.out).mono ?_
        rintro e w1 ⟨rfl, hb⟩
        go_wp2
        go_ret
        exact ⟨rfl, hb⟩
  have hb1 : s.size ≤ 4096 := by omega
  have hb2 : t.size ≤ 4096 := by omega
  clear hbig
  generalize hR : takeP s.data.toList = R
  have HR := Lib.hid hR
  by_cases hst : R.state = 1
  · have hmo := takeP_more (l := s.data.toList) (by rw [hR]; exact hst)
    rw [hR] at hmo
    obtain ⟨hm1, hm2, hm3, hm4, hm5⟩ := hmo
    rw [size_list] at hm1
    obtain ⟨T, L, rest, st, n⟩ := R
    simp only at hst hm1 hm2 hm3 hm4 hm5
    subst hst hm3
    have HR := Lib.hid hR
    have hcat : (s ++ t).data.toList = s.data.toList ++ t.data.toList := by rw [ByteArray.data_append, Array.toList_append]
    have hB1 : ((T.length : Int) != (L.length : Int) + 1) = false := by simp; omega
    have hL5 : L.length ≤ 5 ∧ T.length ≤ 5 := by have := takeP_len s.data.toList; rw [hR] at this; exact ⟨this.2, this.1⟩
    have Hm4 := Lib.hid (show takeP (s ++ t).data.toList = ⟨T, L, rest ++ t.data.toList, 1, L.length⟩ by rw [hcat]; exact hm4 t.data.toList)
    have Hm5 := Lib.hid (show takeP (s.extract 0 (s.size - rest.length)).data.toList = ⟨T, L, [], 1, L.length⟩ by rw [ext_take, ← size_list s]; exact hm5)
    have hex : (s.extract 0 (s.size - rest.length)).size < 4294967281 := by rw [ext_size]; omega
    have hst : (s ++ t).size < 4294967281 := by rw [ByteArray.size_append]; omega
    clear hm4 hm5 hR hm2 hcat
    go_enter Try.func5, Try.ntmps5
    go_wp2_with fail
    refine (take_any s m _ (by omega) Hm.out).mono ?_
    rw [HR.out]
    rintro e w1 ⟨tv, lv, rfl, h1, h2, hb⟩
    obtain ⟨A, c, e1, hc, _⟩ := h1.rd
    obtain ⟨A', c', e2, hc', _⟩ := h2.rd
    subst e1 e2
    have hbz := hb.size
    have g1 := Lib.hid (got_new h1 h2)
    have bw1 := hb.alloc hbz (.cells #[.slice A T.length c, .slice A' L.length c'] 32)
    have hB1w : w.heap.size ≤ w1.heap.size := hbz
    clear h1 h2 hb hbz
    have k10 := cell_blk g1.out.com 0
    have k11 := cell_blk g1.out.com 1
    go_wp2_with fail
    generalize w1.alloc (.cells #[.slice A T.length c, .slice A' L.length c'] 32) = wa at g1 bw1 k10 k11 ⊢
    clear k10 k11
    refine (take_any (s ++ t) m _ hst ((bw1.cell hw0).trans Hm.out)).mono ?_
    rw [Hm4.out]
    rintro e w2 ⟨tv, lv, rfl, h1, h2, hb⟩
    obtain ⟨A2, c2, e1, hc2, _⟩ := h1.rd
    obtain ⟨A2', c2', e2, hc2', _⟩ := h2.rd
    subst e1 e2
    have hbz := hb.size
    have g1 := Lib.hid (g1.out.below hb)
    have g2 := Lib.hid (got_new h1 h2)
    have bw2 := bw1.trans (hb.mono bw1.size)
    clear h1 h2 hb
    go_wp2_with fail
    have g1 := Lib.hid (g1.out.below ((Below.refl _ _).alloc (Nat.le_refl _) (.cells #[.slice A2 T.length c2, .slice A2' L.length c2'] 32)))
    have bw2 := bw2.alloc bw2.size (.cells #[.slice A2 T.length c2, .slice A2' L.length c2'] 32)
    generalize w2.alloc (.cells #[.slice A2 T.length c2, .slice A2' L.length c2'] 32) = wb at g1 g2 bw2 ⊢
    refine (take_any (s.extract 0 (s.size - rest.length)) m _ hex ((bw2.cell hw0).trans Hm.out)).mono ?_
    rw [Hm5.out]
    rintro e w3 ⟨tv, lv, rfl, h1, h2, hb⟩
    obtain ⟨A3, c3, e1, hc3, _⟩ := h1.rd
    obtain ⟨A3', c3', e2, hc3', _⟩ := h2.rd
    subst e1 e2
    have g1 := Lib.hid (g1.out.below hb)
    have g2 := Lib.hid (g2.out.below hb)
    have g3 := Lib.hid (got_new h1 h2)
    have bw3 := bw2.trans (hb.mono bw2.size)
    clear h1 h2 hb
    have g1 := Lib.hid (g1.out.below ((Below.refl _ _).alloc (Nat.le_refl _) (.cells #[.slice A3 T.length c3, .slice A3' L.length c3'] 32)))
    have g2 := Lib.hid (g2.out.below ((Below.refl _ _).alloc (Nat.le_refl _) (.cells #[.slice A3 T.length c3, .slice A3' L.length c3'] 32)))
    have bw3 := bw3.alloc bw3.size (.cells #[.slice A3 T.length c3, .slice A3' L.length c3'] 32)
    go_upto_region 10 with fail
    generalize w3.alloc (.cells #[.slice A3 T.length c3, .slice A3' L.length c3'] 32) = wc at g1 g2 g3 bw3 ⊢
    have k10 : wc.cell? ⟨w1.heap.size, 0, none⟩ = some (.slice A T.length c) := cell_blk g1.out.com 0
    have k11 : wc.cell? ⟨w1.heap.size, 1, none⟩ = some (.slice A' L.length c') := cell_blk g1.out.com 1
    have k20 : wc.cell? ⟨w2.heap.size, 0, none⟩ = some (.slice A2 T.length c2) := cell_blk g2.out.com 0
    have k21 : wc.cell? ⟨w2.heap.size, 1, none⟩ = some (.slice A2' L.length c2') := cell_blk g2.out.com 1
    have k30 : wc.cell? ⟨w3.heap.size, 0, none⟩ = some (.slice A3 T.length c3) := cell_blk g3.out.com 0
    have k31 : wc.cell? ⟨w3.heap.size, 1, none⟩ = some (.slice A3' L.length c3') := cell_blk g3.out.com 1
    have hcc : ((⟨rest.toArray⟩ : ByteArray) ++ t).toList = rest ++ t.data.toList := by rw [ByteArray.toList_eq, ByteArray.data_append, Array.toList_append]
    have hBc := Lib.hid bw3
    have hmc := Lib.hid ((bw3.cell hw0).trans Hm.out)
    clear bw1 bw2 bw3
    go_wp2_with fail
    refine (same_any _ _ T T wc.heap.size _ g1.out.ts g2.out.ts (by omega)).mono ?_
    rintro e w4 ⟨rfl, n1, rfl⟩
    rw [decide_same]
    go_wp2_with fail
    refine (same_any _ _ L L wc.heap.size _ (by exact g1.out.ls) (by exact g2.out.ls) (by omega)).mono ?_
    rintro e w4 ⟨rfl, n2, rfl⟩
    rw [decide_same]
    go_wp2_with fail
    refine (same_any _ _ T T wc.heap.size _ (by exact g1.out.ts) (by exact g3.out.ts) (by omega)).mono ?_
    rintro e w4 ⟨rfl, n3, rfl⟩
    rw [decide_same]
    go_wp2_with fail
    refine (same_any _ _ L L wc.heap.size _ (by exact g1.out.ls) (by exact g3.out.ls) (by omega)).mono ?_
    rintro e w4 ⟨rfl, n4, rfl⟩
    rw [decide_same]
    go_wp2_with fail
    refine (awake_any m _ (by exact hmc.out)).mono ?_
    rintro e w5 ⟨rfl, hb⟩
    go_wp2
    go_ret
    exact ⟨rfl, (below_drewN hBc.out _).trans (hb.mono (by exact hBc.out.size))⟩
  · have hno := takeP_none (l := s.data.toList) (by rw [hR]; exact hst)
    rw [hR] at hno
    have Hst : (R.state != 1) = true := by simpa using hst
    have Hno := Lib.hid hno
    clear hno hst hR
    go_enter Try.func5, Try.ntmps5
    go_wp2_with fail
    refine (take_any s m _ (by omega) Hm.out).mono ?_
    rw [HR.out]
    obtain ⟨T, L, rest, st, n⟩ := R
    obtain ⟨e1, e2⟩ := Hno.out
    simp only at e1 e2 Hst
    subst e1 e2
    rintro e w1 ⟨tv, lv, rfl, h1, h2, hb⟩
    obtain ⟨A, c, e1, hc, _⟩ := h1.rd
    obtain ⟨A', c', e2, hc', _⟩ := h2.rd
    subst e1 e2
    have hbz := hb.size
    have Hm2 : ∀ o, Hid ((w1.alloc o).cell? ⟨0, 0, none⟩ = some (.int .i64 m)) := fun o => Lib.hid ((World.cell?_alloc_lt w1 _ _ (by show 0 < _; omega)).trans ((hb.cell hw0).trans Hm.out))
    go_wp2_with fail
    refine (awake_any m _ (Hm2 _).out).mono ?_
    rintro e w5 ⟨rfl, hb5⟩
    go_wp2
    go_ret
    exact ⟨rfl, (hb.alloc hbz _).trans (hb5.mono (by simp; omega))⟩
end Go.Proofs.Ytmjmabpcpicemaa.LN

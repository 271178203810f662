/- The walks of the statements LinesNext and LinesTakes: they return true, for any text. Condition: the cell of the library's MaxLen holds some int. -/
import Derived.Test.YtmjmabpcpicemaaLinesAwake
import Derived.Test.YtmjmabpcpicemaaTakeRef
import Derived.Test.YtmjmabpcpicemaaSame
namespace Go.Proofs.Ytmjmabpcpicemaa.LN
open Go.RowKit Mailsack MM

theorem cell_drewN (w : World) (n : Nat) (p : Addr) : (w.drewN n).cell? p = w.cell? p := rfl

set_option maxHeartbeats 1000000 in
theorem law_next (s : ByteArray) (hs : s.size ≤ 9223372036854775807) (m : Int) (w : World) (hm : w.cell? ⟨0, 0, none⟩ = some (.int .i64 m)) :
    Calls Try.prog 3 #[.string s] w fun e w' => e = .returned (.bool true) ∧ Below w.heap.size w w' := by
  by_cases hbig : 4096 < s.size
  · have Hm := Lib.hid hm
    clear hm
    go_enter Try.func3, Try.ntmps3
    go_wp2_with fail
    refine (awake_any m _ Hm.out).mono ?_
    rintro e w1 ⟨rfl, hb⟩
    go_wp2
    go_ret
    exact ⟨rfl, hb⟩
  rcases hnx : nextP s.data.toList with ⟨ln, rest, st⟩
  have Hnx := Lib.hid hnx
  have Hm := Lib.hid hm
  clear hnx hm
  rcases hlit : litP s.data.toList with _ | ⟨n, a⟩
  · have Hl := Lib.hid (litR_none hlit)
    have Hr := Lib.hid (rlitR_none hlit)
    clear hlit
    go_enter Try.func3, Try.ntmps3
    go_wp2_with fail
    refine (next_any s m _ (by omega) Hm.out).mono ?_
    rintro e w1 ⟨rfl, n1, rfl⟩
    rw [Hnx.out]
    go_wp2_with fail
    refine (rnext_any s _ (by omega)).mono ?_
    rintro e w2 ⟨rfl, n2, rfl⟩
    rw [Hnx.out]
    go_wp2_with fail
    refine (literal_any s _ (by omega)).mono ?_
    rintro e w3 ⟨rfl, rfl⟩
    rw [Hl.out]
    go_wp2_with fail
    refine (rliteral_any s _ (by omega)).mono ?_
    rintro e w4 ⟨rfl, rfl⟩
    rw [Hr.out]
    go_wp2_with fail
    refine (awake_any m _ (by exact Hm.out)).mono ?_
    rintro e w5 ⟨rfl, hb⟩
    go_wp2
    go_ret
    exact ⟨rfl, (below_drewN (Below.refl _ _) _).trans hb⟩
  · have Hl := Lib.hid (litR_some hlit)
    have Hr := Lib.hid (rlitR_some hlit)
    have hn := numP_lit hlit
    have ha := litP_at hlit
    rw [size_list] at ha
    have He := Lib.hid (ext_take s a)
    clear hlit
    go_enter Try.func3, Try.ntmps3
    go_wp2_with fail
    refine (next_any s m _ (by omega) Hm.out).mono ?_
    rintro e w1 ⟨rfl, n1, rfl⟩
    rw [Hnx.out]
    go_wp2_with fail
    refine (rnext_any s _ (by omega)).mono ?_
    rintro e w2 ⟨rfl, n2, rfl⟩
    rw [Hnx.out]
    go_wp2_with fail
    refine (literal_any s _ (by omega)).mono ?_
    rintro e w3 ⟨rfl, rfl⟩
    rw [Hl.out]
    rw [← He.out]
    go_wp2_with fail
    refine (rliteral_any s _ (by omega)).mono ?_
    rintro e w4 ⟨rfl, rfl⟩
    rw [Hr.out]
    go_wp2_with fail
    refine (awake_any m _ (by exact Hm.out)).mono ?_
    rintro e w5 ⟨rfl, hb⟩
    go_wp2
    go_ret
    exact ⟨rfl, (below_drewN (Below.refl _ _) _).trans hb⟩

set_option maxHeartbeats 1000000 in
theorem law_takes (s : ByteArray) (hs : s.size ≤ 9223372036854775807) (m : Int) (w : World) (hm : w.cell? ⟨0, 0, none⟩ = some (.int .i64 m)) :
    Calls Try.prog 4 #[.string s] w fun e w' => e = .returned (.bool true) ∧ Below w.heap.size w w' := by
  have hw0 : 0 < w.heap.size := World.block_lt_of_cell? w _ hm
  have Hm := Lib.hid hm
  clear hm
  by_cases hbig : 4096 < s.size
  · go_enter Try.func4, Try.ntmps4
    go_wp2_with fail
    refine (awake_any m _ Hm.out).mono ?_
    rintro e w1 ⟨rfl, hb⟩
    go_wp2
    go_ret
    exact ⟨rfl, hb⟩
  go_enter Try.func4, Try.ntmps4
  go_wp2_with fail
  refine (take_any s m _ (by omega) Hm.out).mono ?_
  rintro e w1 ⟨tv, lv, rfl, h1, h2, hb⟩
  obtain ⟨A, c, e1, hc, _⟩ := h1.rd
  obtain ⟨A', c', e2, hc', _⟩ := h2.rd
  subst e1 e2
  have hbz := hb.size
  go_wp2_with fail
  refine (rtake_any s _ (by omega)).mono ?_
  generalize hR0 : takeP s.data.toList = R at *
  have hR := Lib.hid hR0
  clear hR0
  rintro e w2 ⟨tv', lv', rfl, h3, h4, hb2⟩
  have rd3 := h3.rd
  have rd4 := h4.rd
  have rd1 := Lib.hid ((h1.alloc (.cells #[.slice A R.texts.length c, .slice A' R.lits.length c'] 32)).below hb2).rd
  have rd2 := Lib.hid ((h2.alloc (.cells #[.slice A R.texts.length c, .slice A' R.lits.length c'] 32)).below hb2).rd
  have Rd3 := Lib.hid rd3
  have Rd4 := Lib.hid rd4
  have hlt : R.texts.length ≤ 5 ∧ R.lits.length ≤ 5 := by rw [← hR.out]; exact takeP_len _
  obtain ⟨A3, c3, e3, hc3, _⟩ := rd3
  obtain ⟨A4, c4, e4, hc4, _⟩ := rd4
  subst e3 e4
  have hblk := blk_below (blk_new w1 (.cells #[.slice A R.texts.length c, .slice A' R.lits.length c'] 32)) hb2 (by simp)
  have c0 : w2.cell? ⟨w1.heap.size, 0, none⟩ = some (.slice A R.texts.length c) := cell_blk hblk 0
  have c1 : w2.cell? ⟨w1.heap.size, 1, none⟩ = some (.slice A' R.lits.length c') := cell_blk hblk 1
  have Hm2 := Lib.hid (show w2.cell? ⟨0, 0, none⟩ = some (.int .i64 m) from (hb2.cell (by simp)).trans ((World.cell?_alloc_lt w1 _ _ (by show 0 < _; omega)).trans ((hb.cell hw0).trans Hm.out)))
  have hB := Lib.hid ((hb.alloc hbz _).trans (hb2.mono (by simp; omega)))
  clear h1 h2 h3 h4 hblk hb hb2
  go_wp2_with fail
  refine (same_any _ _ R.texts R.texts w2.heap.size _ rd1.out Rd3.out (by omega)).mono ?_
  rintro e w3 ⟨rfl, n1, rfl⟩
  rw [show decide (R.texts = R.texts) = true from decide_eq_true rfl]
  go_wp2_with fail
  refine (same_any _ _ R.lits R.lits w2.heap.size _ (by exact rd2.out) (by exact Rd4.out) (by omega)).mono ?_
  rintro e w3 ⟨rfl, n2, rfl⟩
  rw [show decide (R.lits = R.lits) = true from decide_eq_true rfl]
  go_wp2_with fail
  refine (awake_any m _ (by exact Hm2.out)).mono ?_
  rintro e w5 ⟨rfl, hb⟩
  have hz2 := hB.out.size
  go_wp2
  go_ret
  exact ⟨rfl, (below_drewN hB.out _).trans (hb.mono (by exact hz2))⟩
end Go.Proofs.Ytmjmabpcpicemaa.LN

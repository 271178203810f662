/- LmtpReset at a state that is not small, or in which a text comes: the fixed answer. Conditions: the cell of the library's MaxLen holds some int, lengths. -/
import Derived.Test.YtnckfgihbimacaaLmtpEq
namespace Go.Proofs.Ytnckfgihbimacaa.LM
open Go.RowKit Mailsack MM

set_option maxHeartbeats 1000000 in
theorem reset_else (s : LSt) (A : Option Addr) (c : Nat) (m : Int) (w : World) (hm : w.cell? ⟨0, 0, none⟩ = some (.int .i64 m)) (h1 : s.to.length ≤ 9223372036854775807) (h2 : s.body.length ≤ 9223372036854775807) (h3 : s.frm.length ≤ 9223372036854775807) (hS : ¬ (smallP s = true ∧ s.data = false)) :
    Calls Try.prog 4 #[stV s (.slice A s.to.length c)] w fun e w' => e = .returned (.bool true) ∧ Below w.heap.size w w' := by
  have hw0 : 0 < w.heap.size := World.block_lt_of_cell? w _ hm
  have Hm := Lib.hid hm
  clear hm
  obtain ⟨h, f, d, l, fr, bo, to⟩ := s
  simp only at hS h1 h2 h3
  by_cases hs : smallP ⟨h, f, d, l, fr, bo, to⟩ = true
  · have hd : d = true := by cases d <;> simp_all
    subst hd
    have Hs := Lib.hid hs
    clear hs hS
    go_enter Try.func4, Try.ntmps4
    go_wp2_with fail
    refine (small_any ⟨h, f, true, l, fr, bo, to⟩ A c _ h1 h2 h3).mono ?_
    rw [Hs.out]
    rintro e w1 ⟨rfl, hb1⟩
    have p0 := blk_below (blk_new w (.cells #[.bool h, .bool f, .bool true, .bool l, strV fr, strV bo, .slice A to.length c] 25)) hb1 (by simp)
    have hB := ((Below.refl w.heap.size w).alloc (Nat.le_refl _) (.cells #[.bool h, .bool f, .bool true, .bool l, strV fr, strV bo, .slice A to.length c] 25)).trans (hb1.mono (by simp))
    have k2 : w1.cell? ⟨w.heap.size, 2, none⟩ = some (.bool true) := cell_blk p0 2
    clear p0 hb1
    have hmx : w1.cell? ⟨0, 0, none⟩ = some (.int .i64 m) := (hB.cell hw0).trans Hm.out
    go_wp2_with fail
    refine (awake_any m _ hmx).mono ?_
    rintro e w2 ⟨rfl, hb2⟩
    go_wp2
    go_ret
    exact ⟨rfl, hB.trans (hb2.mono hB.size)⟩
  · have Hs := Lib.hid (Bool.eq_false_iff.2 hs)
    clear hs hS
    go_enter Try.func4, Try.ntmps4
    go_wp2_with fail
    refine (small_any ⟨h, f, d, l, fr, bo, to⟩ A c _ h1 h2 h3).mono ?_
    rw [Hs.out]
    rintro e w1 ⟨rfl, hb1⟩
    have hB := ((Below.refl w.heap.size w).alloc (Nat.le_refl _) (.cells #[.bool h, .bool f, .bool d, .bool l, strV fr, strV bo, .slice A to.length c] 25)).trans (hb1.mono (by simp))
    clear hb1
    have hmx : w1.cell? ⟨0, 0, none⟩ = some (.int .i64 m) := (hB.cell hw0).trans Hm.out
    go_wp2_with fail
    refine (awake_any m _ hmx).mono ?_
    rintro e w2 ⟨rfl, hb2⟩
    go_wp2
    go_ret
    exact ⟨rfl, hB.trans (hb2.mono hB.size)⟩
end Go.Proofs.Ytnckfgihbimacaa.LM

/- When words are few and a message is short (layer 20). Conditions: lengths. -/
import Derived.Test.YtkgngahmpafdhaaGreatDoorQueryAwake
namespace Go.Proofs.YtkgngahmpafdhaaGreatDoor.QU
open Go.RowKit Mailsack MM PT

def fewP (l : List Bs) (v : QV) : Bool := l.all (fun x => decide (x.length ≤ 100)) && (decide (l.length ≤ 40) && decide (v.text.length ≤ 1000) && decide (0 ≤ v.flags) && decide (v.flags < 64))
theorem fewP_good {l : List Bs} {v : QV} (h : fewP l v = true) : GoodV v ∧ l.length ≤ 40 ∧ ∀ x ∈ l, x.length ≤ 100 := by
  unfold fewP at h
  simp only [Bool.and_eq_true, decide_eq_true_eq, List.all_eq_true] at h
  exact ⟨⟨h.2.1.2, h.2.2, h.2.1.1.2⟩, h.2.1.1.1, h.1⟩
theorem fewP_long {l : List Bs} {v : QV} {k : Nat} {x : Bs} (h : l[k]? = some x) (hx : 100 < x.length) : fewP l v = false := by
  have : l.all (fun x => decide (x.length ≤ 100)) = false := List.all_eq_false.2 ⟨x, List.mem_of_getElem? h, by simp; omega⟩
  unfold fewP
  rw [this, Bool.false_and]
theorem fewP_all {l : List Bs} {v : QV} (h : ∀ x ∈ l, x.length ≤ 100) : fewP l v = (decide (l.length ≤ 40) && decide (v.text.length ≤ 1000) && decide (0 ≤ v.flags) && decide (v.flags < 64)) := by
  have : l.all (fun x => decide (x.length ≤ 100)) = true := List.all_eq_true.2 fun x hx => by simpa using h x hx
  unfold fewP
  rw [this, Bool.true_and]

set_option maxHeartbeats 2000000 in
set_option maxRecDepth 100000 in
theorem few_any (sv : Value) (l : List Bs) (v : QV) (W : World) (hv : RdS W W.heap.size sv l) (hl : l.length ≤ 9223372036854775807) (hx : ∀ x ∈ l, x.length ≤ 9223372036854775807) (ht : v.text.length ≤ 9223372036854775807) :
    Calls Tryz.prog 4 #[sv, viewV v] W fun e W' => e = .returned (.bool (fewP l v)) ∧ Below W.heap.size W W' := by
  have HV := Lib.hid hv
  have Hx := Lib.hid hx
  obtain ⟨A, c, rfl, hc, _⟩ := hv
  obtain ⟨sq, ui, fl, sz, tx, sqs, uis⟩ := v
  have HB := Lib.hid ((Below.refl W.heap.size W).alloc (Nat.le_refl _) (.cells #[.int .i64 sq, .int .i64 ui, .int .i64 fl, .int .i64 sz, strV tx, .int .i64 sqs, .int .i64 uis] 24))
  have hb0 := Lib.hid (blk_new W (.cells #[.int .i64 sq, .int .i64 ui, .int .i64 fl, .int .i64 sz, strV tx, .int .i64 sqs, .int .i64 uis] 24))
  have k2 := cell_blk hb0.out 2
  have k4 := cell_blk hb0.out 4
  simp only [List.getElem?_toArray, List.getElem?_cons_succ, List.getElem?_cons_zero] at k2 k4
  unfold viewV
  simp only
  simp only at ht
  have htx : (⟨tx.toArray⟩ : ByteArray).size = tx.length := rfl
  clear hx
  go_enter Tryz.func4, Tryz.ntmps4
  go_wp2_with fail
  go_loopw [9] (fun i wr => ∃ k : Nat, k ≤ l.length ∧ i = .int .i64 (k : Int) ∧ wr = W.alloc (.cells #[.int .i64 sq, .int .i64 ui, .int .i64 fl, .int .i64 sz, strV tx, .int .i64 sqs, .int .i64 uis] 24) ∧ Hid (∀ x ∈ l.take k, x.length ≤ 100)) (fun i _ => l.length - (intOf i).toNat)
  case atStart => exact ⟨0, Nat.zero_le _, rfl, rfl, Lib.hid (by simp)⟩
  case round =>
    obtain ⟨k, hk, rfl, rfl, hall⟩ := hrel
    by_cases hlt : k < l.length
    · obtain ⟨x, hxk⟩ : ∃ x, l[k]? = some x := ⟨_, List.getElem?_eq_getElem hlt⟩
      obtain ⟨A', c', e9, _, hcx⟩ := HV.out
      obtain ⟨b1, o1, rfl, hb1, hc1⟩ := hcx (by omega)
      injection e9 with e9 _ _
      subst e9
      have d1 : (W.alloc (.cells #[.int .i64 sq, .int .i64 ui, .int .i64 fl, .int .i64 sz, strV tx, .int .i64 sqs, .int .i64 uis] 24)).cell? ⟨b1, o1 + k, none⟩ = some (strV x) := (HB.out.cell (p := ⟨b1, o1 + k, none⟩) hb1).trans (hc1 k x hxk)
      have hxs := Hx.out x (List.mem_of_getElem? hxk)
      have hsz : (⟨x.toArray⟩ : ByteArray).size = x.length := rfl
      clear hcx hc1
      by_cases h100 : 100 < x.length
      · have Hf := Lib.hid (fewP_long (v := ⟨sq, ui, fl, sz, tx, sqs, uis⟩) hxk h100)
        clear hxk
        go_wp2
        go_ret
        rw [Hf.out]
        exact ⟨rfl, HB.out⟩
      · have Hk := Lib.hid hxk
        clear hxk
        go_wp2
        refine ⟨⟨k + 1, by omega, by go_num, trivial, Lib.hid ?_⟩, by simp [intOf]; omega⟩
        intro y hy
        rw [List.take_add_one, Hk.out] at hy
        rcases List.mem_append.1 hy with hy | hy
        · exact hall.out y hy
        · simp at hy; subst hy; omega
    · have Hf := Lib.hid (fewP_all (v := ⟨sq, ui, fl, sz, tx, sqs, uis⟩) (l := l) (by have := hall.out; rw [List.take_of_length_le (by omega)] at this; exact this))
      by_cases g1 : l.length ≤ 40 <;> by_cases g2 : tx.length ≤ 1000 <;> by_cases g3 : 0 ≤ fl <;> by_cases g4 : fl < 64
      all_goals go_wp2
      all_goals
        go_ret
        rw [Hf.out]
        refine ⟨?_, HB.out⟩
        first | done | simp [g1, g2, g3, g4]
end Go.Proofs.YtkgngahmpafdhaaGreatDoor.QU

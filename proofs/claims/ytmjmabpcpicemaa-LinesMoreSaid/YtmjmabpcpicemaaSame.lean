/- What the reference's Same returns: whether two lists of texts are equal. No condition but that the two slices read as these texts. -/
import Derived.Test.YtmjmabpcpicemaaMem
import Derived.Test.YtmjmabpcpicemaaLinesPlain
import Derived.Test.YtmjmabpcpicemaaShelf
import Derived.WalkLawsBesides
import Derived.WalkSpells
import Derived.Deep.QuietTactic
import Derived.BigQuiet
namespace Go.Proofs.Ytmjmabpcpicemaa.LN
open Go.RowKit Mailsack MM

theorem lists_eq {xs ys : List Bs} {k : Nat} (hl : xs.length = ys.length) (hk : xs.length ≤ k) (h : ∀ j, j < k → xs[j]? = ys[j]?) : xs = ys := by
  refine List.ext_getElem? fun j => ?_
  rcases Nat.lt_or_ge j k with h1 | h1
  · exact h j h1
  · rw [List.getElem?_eq_none (by omega), List.getElem?_eq_none (by omega)]

set_option maxHeartbeats 1000000 in
theorem same_any (v u : Value) (xs ys : List Bs) (B : Nat) (w : World) (h1 : RdS w B v xs) (h2 : RdS w B u ys) (hx : xs.length < 4611686018427387904) :
    Calls Try.prog 14 #[v, u] w fun e w' => e = .returned (.bool (decide (xs = ys))) ∧ ∃ n, w' = w.drewN n := by
  obtain ⟨A, c, rfl, hc, hcell⟩ := h1
  obtain ⟨A', c', rfl, hc', hcell'⟩ := h2
  by_cases hl : xs.length = ys.length
  · rw [← hl] at hc' hcell' ⊢
    have Hl := Lib.hid hl
    have Hc := Lib.hid hcell
    have Hc' := Lib.hid hcell'
    clear hl hcell hcell'
    go_enter Try.func14, Try.ntmps14
    go_wp2
    go_loopw [5] (fun i wr => ∃ (k n : Nat), k ≤ xs.length ∧ i = .int .i64 k ∧ Hid (wr = w.drewN n) ∧ Hid (∀ j, j < k → xs[j]? = ys[j]?)) (fun i _ => xs.length - (intOf i).toNat)
    case atStart => exact ⟨0, 0, Nat.zero_le _, rfl, Lib.hid rfl, Lib.hid (fun j hj => absurd hj (Nat.not_lt_zero _))⟩
    case round =>
      obtain ⟨k, n, hk, rfl, hw, he⟩ := hrel
      have hw := hw.out
      subst hw
      by_cases hlt : k < xs.length
      · obtain ⟨b, off, rfl, _, hc1⟩ := Hc.out (by omega)
        obtain ⟨b', off', rfl, _, hc2⟩ := Hc'.out (by omega)
        obtain ⟨x, hx1⟩ : ∃ x, xs[k]? = some x := ⟨_, List.getElem?_eq_getElem hlt⟩
        obtain ⟨y, hy1⟩ : ∃ y, ys[k]? = some y := ⟨_, List.getElem?_eq_getElem (by have := Hl.out; omega)⟩
        have k1 := hc1 k x hx1
        have k2 := hc2 k y hy1
        clear hc1 hc2
        have hlt' : (k : Int) < (xs.length : Int) := by omega
        by_cases hxy : x = y
        · subst hxy
          have He2 := Lib.hid (show ∀ j, j < k + 1 → xs[j]? = ys[j]? from fun j hj => by
            rcases Nat.lt_succ_iff_lt_or_eq.1 hj with h | rfl
            · exact he.out j h
            · rw [hx1, hy1])
          clear hx1 hy1
          go_wp2
          go_quiet (fail)
          go_wp2
          go_roundw
          case rel => exact ⟨k + 1, _, by omega, by go_num, Lib.hid rfl, He2⟩
          case measure => first | (simp [intOf]; done) | (simp [intOf]; omega)
        · have hne : xs ≠ ys := fun e => by
            rw [e, hy1] at hx1; injection hx1 with h; exact hxy h.symm
          have Hd := Lib.hid (show decide (xs = ys) = false from decide_eq_false hne)
          have hb : (x == y) = false := beq_eq_false_iff_ne.2 hxy
          clear hne hx1 hy1
          go_wp2
          go_quiet (fail)
          go_wp2
          go_ret
          rw [Hd.out]
          exact ⟨rfl, _, World.drewN_drewN _ _ _⟩
      · have Hd := Lib.hid (show decide (xs = ys) = true from decide_eq_true (lists_eq Hl.out (by omega) he.out))
        go_wp2
        go_ret
        rw [Hd.out]
        exact ⟨rfl, _, rfl⟩
  · have hne : xs ≠ ys := fun e => hl (by rw [e])
    rw [show decide (xs = ys) = false from decide_eq_false hne]
    have hb : ((xs.length : Int) != (ys.length : Int)) = true := by simp; omega
    clear hne hcell hcell'
    go_enter Try.func14, Try.ntmps14
    go_wp2
    go_ret
    exact ⟨rfl, 0, rfl⟩
end Go.Proofs.Ytmjmabpcpicemaa.LN

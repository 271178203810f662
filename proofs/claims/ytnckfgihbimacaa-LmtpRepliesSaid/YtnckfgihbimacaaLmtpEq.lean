/- What the statements' helpers small and ref, and the reference's Equal at equal states, return. No conditions but lengths, and that the lists read as they are told. -/
import Derived.Test.YtnckfgihbimacaaLmtpAwake
namespace Go.Proofs.Ytnckfgihbimacaa.LM
open Go.RowKit Mailsack MM

def smallP (s : LSt) : Bool := decide (s.to.length ≤ 10) && (decide (s.body.length ≤ 2000) && decide (s.frm.length ≤ 600))

set_option maxHeartbeats 400000 in
theorem small_any (s : LSt) (A : Option Addr) (c : Nat) (w : World) (h1 : s.to.length ≤ 9223372036854775807) (h2 : s.body.length ≤ 9223372036854775807) (h3 : s.frm.length ≤ 9223372036854775807) :
    Calls Try.prog 10 #[stV s (.slice A s.to.length c)] w fun e w' => e = .returned (.bool (smallP s)) ∧ Below w.heap.size w w' := by
  by_cases a1 : s.to.length ≤ 10
  · by_cases a2 : s.body.length ≤ 2000
    · have Hr := Lib.hid (show smallP s = decide ((s.frm.length : Int) ≤ 600) by simp [smallP, a1, a2]; omega)
      have a2 : (s.body.length : Int) ≤ 2000 := by omega
      have a1 : (s.to.length : Int) ≤ 10 := by omega
      go_enter Try.func10, Try.ntmps10
      go_wp2
      all_goals
        go_ret
        rw [Hr.out]
        refine ⟨?_, (Below.refl _ _).alloc (Nat.le_refl _) _⟩
        first | rfl | (simp; omega) | simp
    · have Hr := Lib.hid (show smallP s = false by simp [smallP, a1, a2])
      have a2 : 2000 < s.body.length := by omega
      go_enter Try.func10, Try.ntmps10
      go_wp2
      go_ret
      rw [Hr.out]
      exact ⟨rfl, (Below.refl _ _).alloc (Nat.le_refl _) _⟩
  · have Hr := Lib.hid (show smallP s = false by simp [smallP, a1])
    have a1 : 10 < s.to.length := by omega
    go_enter Try.func10, Try.ntmps10
    go_wp2
    go_ret
    rw [Hr.out]
    exact ⟨rfl, (Below.refl _ _).alloc (Nat.le_refl _) _⟩

set_option maxHeartbeats 400000 in
theorem ref_any (b0 b1 b2 b3 : Bool) (f g : ByteArray) (A : Option Addr) (n c : Nat) (w : World) :
    Calls Try.prog 12 #[.agg #[.bool b0, .bool b1, .bool b2, .bool b3, .string f, .string g, .slice A n c]] w fun e w' =>
      e = .returned (.agg #[.bool b0, .bool b1, .bool b2, .bool b3, .string f, .string g, .slice A n c]) ∧ Below w.heap.size w w' := by
  go_enter Try.func12, Try.ntmps12
  go_wp2
  refine bodyPost_ret (v := .agg #[.bool b0, .bool b1, .bool b2, .bool b3, .string f, .string g, .slice A n c]) (by simp [results, Try.results12, go_sem]) rfl ⟨rfl, ?_⟩
  repeat (first | exact Below.refl _ _ | refine Below.alloc ?_ (by simp) _)

set_option maxHeartbeats 1000000 in
theorem equal_same (b0 b1 b2 b3 : Bool) (f g : ByteArray) (A A' : Option Addr) (c c' B : Nat) (xs : List Bs) (w : World) (h1 : RdS w B (.slice A xs.length c) xs) (h2 : RdS w B (.slice A' xs.length c') xs) (hB : B ≤ w.heap.size) (hx : xs.length ≤ 1000000) :
    Calls Try.prog 11 #[.agg #[.bool b0, .bool b1, .bool b2, .bool b3, .string f, .string g, .slice A xs.length c], .agg #[.bool b0, .bool b1, .bool b2, .bool b3, .string f, .string g, .slice A' xs.length c']] w fun e w' =>
      e = .returned (.bool true) ∧ Below w.heap.size w w' := by
  have Hd1 := Lib.hid h1
  have Hd2 := Lib.hid h2
  clear h1 h2
  go_enter Try.func11, Try.ntmps11
  go_wp2
  have k0 : ((w.alloc (.cells #[.bool b0, .bool b1, .bool b2, .bool b3, .string f, .string g, .slice A xs.length c] 33)).alloc (.cells #[.bool b0, .bool b1, .bool b2, .bool b3, .string f, .string g, .slice A' xs.length c'] 33)).cell? ⟨w.heap.size, 6, none⟩ = some (.slice A xs.length c) := cell_blk (two_old w (.cells #[.bool b0, .bool b1, .bool b2, .bool b3, .string f, .string g, .slice A xs.length c] 33) (.cells #[.bool b0, .bool b1, .bool b2, .bool b3, .string f, .string g, .slice A' xs.length c'] 33)) 6
  have k1 : ((w.alloc (.cells #[.bool b0, .bool b1, .bool b2, .bool b3, .string f, .string g, .slice A xs.length c] 33)).alloc (.cells #[.bool b0, .bool b1, .bool b2, .bool b3, .string f, .string g, .slice A' xs.length c'] 33)).cell? ⟨w.heap.size + 1, 6, none⟩ = some (.slice A' xs.length c') := cell_blk (two_new w (.cells #[.bool b0, .bool b1, .bool b2, .bool b3, .string f, .string g, .slice A xs.length c] 33) (.cells #[.bool b0, .bool b1, .bool b2, .bool b3, .string f, .string g, .slice A' xs.length c'] 33)) 6
  have hB2 : Below w.heap.size w ((w.alloc (.cells #[.bool b0, .bool b1, .bool b2, .bool b3, .string f, .string g, .slice A xs.length c] 33)).alloc (.cells #[.bool b0, .bool b1, .bool b2, .bool b3, .string f, .string g, .slice A' xs.length c'] 33)) := ((Below.refl _ _).alloc (Nat.le_refl _) _).alloc (by simp) _
  have Hd1 := Lib.hid (Hd1.out.below hB2 hB)
  have Hd2 := Lib.hid (Hd2.out.below hB2 hB)
  generalize (w.alloc (.cells #[.bool b0, .bool b1, .bool b2, .bool b3, .string f, .string g, .slice A xs.length c] 33)).alloc (.cells #[.bool b0, .bool b1, .bool b2, .bool b3, .string f, .string g, .slice A' xs.length c'] 33) = w2 at k0 k1 hB2 Hd1 Hd2 ⊢
  go_loopw [5] (fun i wr => ∃ (k n : Nat), k ≤ xs.length ∧ i = .int .i64 k ∧ Hid (wr = w2.drewN n)) (fun i _ => xs.length - (intOf i).toNat)
  case atStart => exact ⟨0, 0, Nat.zero_le _, rfl, Lib.hid rfl⟩
  case round =>
    obtain ⟨k, n, hk, rfl, hw⟩ := hrel
    have hw := hw.out
    subst hw
    by_cases hlt : k < xs.length
    · obtain ⟨A1, c1, e1, hc1, hx1⟩ := Hd1.out
      obtain ⟨A2, c2, e2, hc2, hx2⟩ := Hd2.out
      injection e1 with e1 _ e1'
      injection e2 with e2 _ e2'
      subst e1 e1' e2 e2'
      obtain ⟨b, off, rfl, _, hx1⟩ := hx1 (by omega)
      obtain ⟨b', off', rfl, _, hx2⟩ := hx2 (by omega)
      obtain ⟨x, hx⟩ : ∃ x, xs[k]? = some x := ⟨_, List.getElem?_eq_getElem hlt⟩
      have q1 := hx1 k x hx
      have q2 := hx2 k x hx
      have hlt' : (k : Int) < (xs.length : Int) := by omega
      clear hx1 hx2 hx
      go_wp2
      go_quiet (fail)
      go_wp2
      go_roundw
      case rel => exact ⟨k + 1, _, by omega, by go_num, Lib.hid rfl⟩
      case measure => first | (simp [intOf]; done) | (simp [intOf]; omega)
    · go_wp2
      go_ret
      exact ⟨rfl, below_drewN hB2 _⟩

theorem rds_zero (w : World) (B : Nat) (A : Option Addr) (c : Nat) : RdS w B (.slice A ([] : List Bs).length c) [] := ⟨A, c, rfl, Nat.zero_le _, fun h => absurd h (Nat.lt_irrefl _)⟩
theorem equal_zero (b0 b1 b2 b3 : Bool) (f g : ByteArray) (A A' : Option Addr) (c c' : Nat) (w : World) :
    Calls Try.prog 11 #[.agg #[.bool b0, .bool b1, .bool b2, .bool b3, .string f, .string g, .slice A 0 c], .agg #[.bool b0, .bool b1, .bool b2, .bool b3, .string f, .string g, .slice A' 0 c']] w fun e w' =>
      e = .returned (.bool true) ∧ Below w.heap.size w w' :=
  equal_same b0 b1 b2 b3 f g A A' c c' w.heap.size [] w (rds_zero _ _ _ _) (rds_zero _ _ _ _) (Nat.le_refl _) (by decide)
end Go.Proofs.Ytnckfgihbimacaa.LM

/- The reader of layer 20: word, number. Conditions: lengths. -/
import Derived.Test.YtkgngahmpafdhaaGreatDoorQueryFns3
import Derived.Test.YtkgngahmpafdhaaGreatDoorQueryUpper
namespace Go.Proofs.YtkgngahmpafdhaaGreatDoor.QU
open Go.RowKit Mailsack MM PT

/-- the block rb is a reader that has these words left -/
def RdrAt (rb mb : Nat) (W : World) (ws : List Bs) : Prop := ∃ sv, W.heap[rb]? = some (.cells #[sv, .map (some mb)] 42 (0, 0)) ∧ RdS W rb sv ws
theorem kp_set {q : Rg} {rb : Nat} {W : World} (hq : q.has rb) (i : Nat) (u : Value) : Kp q W (W.setCell ⟨rb, i, none⟩ u) :=
  ⟨rfl, rfl, rfl, by rw [size_set]; exact Nat.le_refl _, fun k _ hne => Below.heap_setCell W ⟨rb, i, none⟩ u k (fun e => hne (by rw [e]; exact hq))⟩
/-- the block rb alone -/
abbrev nq (rb : Nat) : Rg := ⟨rb, rb, rb⟩
theorem nq_has {rb b : Nat} : (nq rb).has b ↔ b = rb := by unfold Rg.has; simp only; omega
theorem Kp.widen {q : Rg} {rb : Nat} {w w' : World} (h : Kp (nq rb) w w') (hq : q.has rb) : Kp q w w' :=
  ⟨h.os, h.tape, h.output, h.size, fun k hk hne => h.block k hk (fun e => hne (by rw [nq_has.1 e]; exact hq))⟩
theorem rds_tail {W : World} {B b off c : Nat} {x : Bs} {r : List Bs} (h : RdS W B (.slice (some ⟨b, off, none⟩) (x :: r).length c) (x :: r)) : RdS W B (.slice (some ⟨b, off + 1, none⟩) r.length (c - 1)) r := by
  obtain ⟨A, c', e, hc, hcell⟩ := h
  injection e with e1 e2 e3
  subst e1 e3
  obtain ⟨b', off', e4, hb, hcs⟩ := hcell (by simp)
  injection e4 with e4
  injection e4 with e5 e6
  subst e5 e6
  simp only [List.length_cons] at hc
  refine ⟨_, _, rfl, by omega, fun _ => ⟨b, off + 1, rfl, hb, fun j y hy => ?_⟩⟩
  have := hcs (j + 1) y (by simpa using hy)
  rw [show off + 1 + j = off + (j + 1) by omega]
  exact this

set_option maxHeartbeats 1000000 in
set_option maxRecDepth 100000 in
theorem word_none (rb mb : Nat) (W : World) (h : RdrAt rb mb W []) :
    Calls Tryz.prog 31 #[.pointer (some ⟨rb, 0, none⟩)] W fun e W' => e = .returned (.tuple #[.string ⟨#[]⟩, .bool false]) ∧ W = W' := by
  obtain ⟨sv, hb, A, c, rfl, _, _⟩ := h
  have k0 : W.cell? ⟨rb, 0, none⟩ = some (.slice A 0 c) := cell_blk hb 0
  clear hb
  go_enter Tryz.func31, Tryz.ntmps31
  go_wp2
  go_ret2
  exact ⟨rfl, rfl⟩
set_option maxHeartbeats 1000000 in
set_option maxRecDepth 100000 in
theorem word_some (rb mb : Nat) (W : World) (x : Bs) (r : List Bs) (hr : r.length ≤ 1000000) (h : RdrAt rb mb W (x :: r)) :
    Calls Tryz.prog 31 #[.pointer (some ⟨rb, 0, none⟩)] W fun e W' => e = .returned (.tuple #[strV x, .bool true]) ∧ RdrAt rb mb W' r ∧ Kp (nq rb) W W' := by
  obtain ⟨sv, hb, hrd⟩ := h
  have hrd2 := hrd
  obtain ⟨A, c, rfl, hc, hcell⟩ := hrd2
  obtain ⟨b, off, rfl, hbB, hcs⟩ := hcell (by simp)
  have k0 : W.cell? ⟨rb, 0, none⟩ = some (.slice (some ⟨b, off, none⟩) (r.length + 1) c) := cell_blk hb 0
  have f0 : W.frozen? ⟨rb, 0, none⟩ = false := free_blk hb 0
  have k1 : W.cell? ⟨b, off, none⟩ = some (strV x) := hcs 0 x rfl
  have Hb := Lib.hid hb
  have Hr := Lib.hid (rds_tail hrd)
  have h0 : (((r.length : Int) + 1) == 0) = false := by rw [beq_eq_false_iff_ne]; omega
  simp only [List.length_cons] at hc
  clear hb hrd hcell hcs
  go_enter Tryz.func31, Tryz.ntmps31
  go_wp2
  · go_ret2
    refine ⟨rfl, ⟨_, blk_set Hb.out 0 _, ?_⟩, kp_set (.inl rfl) 0 _⟩
    have hr0 : r = [] := List.length_eq_zero_iff.1 (by omega)
    subst hr0
    exact ⟨_, _, rfl, Nat.zero_le _, fun h => absurd h (Nat.lt_irrefl _)⟩
  · go_ret2
    refine ⟨rfl, ⟨_, blk_set Hb.out 0 _, ?_⟩, kp_set (.inl rfl) 0 _⟩
    refine RdS.keep (w := W) Hr.out (fun p hp => ?_)
    exact World.cell?_setCell_other W ⟨rb, 0, none⟩ p _ (fun e => by subst e; exact Nat.lt_irrefl _ hp)
set_option maxHeartbeats 800000 in
set_option maxRecDepth 100000 in
theorem number_any (s : ByteArray) (w : World) (hl : s.size ≤ 9223372036854775807) :
    Calls Tryz.prog 41 #[.string s] w fun e w' => e = .returned (.tuple #[.int .i64 ((numQ s.data.toList).getD 0), .bool (numQ s.data.toList).isSome]) ∧ w = w' := by
  have hz := size_list s
  have Hno := Lib.hid (show (s.data.toList.length = 0 ∨ 9 < s.data.toList.length ∨ (1 < s.data.toList.length ∧ s.data.toList.head? = some 48) ∨ s.data.toList.all isDig = false) → numQ s.data.toList = none from fun h => by unfold numQ; rw [if_pos h])
  have Hyes := Lib.hid (show ¬ (s.data.toList.length = 0 ∨ 9 < s.data.toList.length ∨ (1 < s.data.toList.length ∧ s.data.toList.head? = some 48) ∨ s.data.toList.all isDig = false) → numQ s.data.toList = some (numP s.data.toList) from fun h => by unfold numQ; rw [if_neg h])
  by_cases h0 : s.size = 0
  · have Hn := Lib.hid (Hno.out (.inl (by omega)))
    have h0' : (s.size : Int) < 1 := by omega
    clear hz h0
    go_enter Tryz.func41, Tryz.ntmps41
    go_wp2
    all_goals (go_ret2; rw [Hn.out]; exact ⟨rfl, rfl⟩)
  have hp : 0 < s.size := by omega
  clear h0
  by_cases h9 : 9 < s.size
  · have Hn := Lib.hid (Hno.out (.inr (.inl (by omega))))
    clear hz
    go_enter Tryz.func41, Tryz.ntmps41
    go_wp2
    all_goals (go_ret2; rw [Hn.out]; exact ⟨rfl, rfl⟩)
  by_cases h48 : 1 < s.size ∧ ((s[0]'hp).toNat : Int) = 48
  · have Hn := Lib.hid (Hno.out (.inr (.inr (.inl ⟨by omega, by
      have h := h48.2
      rw [List.head?_eq_getElem?, List.getElem?_eq_getElem (by omega)]
      have : s.data.toList[0]'(by omega) = 48 := (byte_eq (x := s.data.toList[0]'(by omega)) (n := 48) (by decide)).1 h
      rw [this]⟩))))
    obtain ⟨h1, h2⟩ := h48
    clear hz
    go_enter Tryz.func41, Tryz.ntmps41
    go_wp2
    all_goals (go_ret2; rw [Hn.out]; exact ⟨rfl, rfl⟩)
  have H48 : Hid (¬ (1 < s.data.toList.length ∧ s.data.toList.head? = some 48)) := Lib.hid (by
    rintro ⟨h1, h2⟩
    apply h48
    refine ⟨by omega, ?_⟩
    rw [List.head?_eq_getElem?, List.getElem?_eq_getElem (by omega)] at h2
    exact (byte_eq (x := s.data.toList[0]'(by omega)) (n := 48) (by decide)).2 (Option.some.inj h2))
  have h48' : s.size ≤ 1 ∨ (1 < s.size ∧ (((s[0]'hp).toNat : Int) == 48) = false) := by
    by_cases h1 : 1 < s.size
    · exact .inr ⟨h1, by rw [beq_eq_false_iff_ne]; exact fun e => h48 ⟨h1, e⟩⟩
    · exact .inl (by omega)
  have Hz := Lib.hid hz
  clear h48 hz
  rcases h48' with h1 | ⟨h1, h2⟩
  all_goals
    go_enter Tryz.func41, Tryz.ntmps41
    go_wp2
    go_loop [4, 26] (fun n i => ∃ k : Nat, k ≤ s.size ∧ i = .int .i64 k ∧ n = .int .i64 (numP (s.data.toList.take k)) ∧ Hid (∀ c ∈ s.data.toList.take k, isDig c = true)) (fun _ i => s.size - (intOf i).toNat)
    case atStart => exact ⟨0, Nat.zero_le _, rfl, rfl, Lib.hid (by simp)⟩
    case round =>
      obtain ⟨k, hk, rfl, rfl, hd⟩ := hrel
      have hn := numP_ten hd.out (by rw [List.length_take]; omega)
      by_cases hlt : k < s.size
      · by_cases hdg : 48 ≤ ((s[k]'hlt).toNat : Int) ∧ ((s[k]'hlt).toNat : Int) ≤ 57
        · have Hs := Lib.hid (numP_snoc (s.data.toList.take k) (s[k]'hlt))
          have Hd2 := Lib.hid (dig_take (l := s.data.toList) (k := k) (by rw [Hz.out]; exact hlt) hd.out (dig_iff.2 hdg))
          obtain ⟨hd1, hd2⟩ := hdg
          go_wp2
          go_round
          case rel => exact ⟨k + 1, by omega, by go_num, (by rw [SP.take_snocS s k hlt]; exact congrArg (Value.int .i64) Hs.out.symm), Hd2⟩
          case measure => simp [intOf]; omega
        · have Hn := Lib.hid (Hno.out (.inr (.inr (.inr (by
            rw [List.all_eq_false]
            exact ⟨s[k]'hlt, List.getElem_mem (by rw [Hz.out]; exact hlt), by rw [isDig_no hdg]; decide⟩)))))
          have hdg : ((s[k]'hlt).toNat : Int) < 48 ∨ 57 < ((s[k]'hlt).toNat : Int) := by omega
          rcases hdg with hdg | hdg
          · go_wp2
            go_ret2
            rw [Hn.out]
            exact ⟨rfl, rfl⟩
          · go_wp2
            go_ret2
            rw [Hn.out]
            exact ⟨rfl, rfl⟩
      · have e : s.data.toList.take k = s.data.toList := List.take_of_length_le (by rw [Hz.out]; omega)
        rw [e] at hd hn ⊢
        have Hn := Lib.hid (Hyes.out (by
          have hz := Hz.out
          rintro (h | h | h | h)
          · omega
          · omega
          · exact H48.out h
          · rw [List.all_eq_true.2 hd.out] at h; cases h))
        clear e
        go_wp2
        go_ret2
        rw [Hn.out]
        exact ⟨rfl, rfl⟩
end Go.Proofs.YtkgngahmpafdhaaGreatDoor.QU

/- What the document's small functions of layers 18 and 20 return: Same, number. Conditions: lengths. -/
import Derived.Test.YtkgngahmpafdhaaGreatDoorQueryPlain
import Derived.Test.YtkgngahmpafdhaaGreatDoorSpanNumber
import Derived.Test.YtkgngahmpafdhaaGreatDoorUpPlain
import Derived.Test.YtkgngahmpafdhaaGreatDoorPartSmall
namespace Go.Proofs.YtkgngahmpafdhaaGreatDoor.QN
open Go.RowKit Mailsack MM PT

theorem same_at {s w : ByteArray} (he : s.size = w.size) : (upP s.data.toList = w.data.toList) ↔ ∀ (j : Nat) (h1 : j < s.size) (h2 : j < w.size), up s[j] = w[j] := by
  constructor
  · intro h j h1 h2
    have := congrArg (fun l : Bs => l[j]?) h
    simp only [upP, List.getElem?_map] at this
    rw [List.getElem?_eq_getElem (by rw [size_list]; exact h1), List.getElem?_eq_getElem (by rw [size_list]; exact h2)] at this
    simp only [Option.map_some, Option.some.injEq] at this
    exact this
  · intro h
    apply List.ext_getElem
    · rw [upP_length, size_list, size_list]; exact he
    · intro j h1 h2
      rw [upP_length, size_list] at h1
      rw [size_list] at h2
      have := h j h1 h2
      simp only [upP, List.getElem_map]
      exact this
set_option maxHeartbeats 1000000 in
set_option maxRecDepth 100000 in
theorem rsame_any (s w : ByteArray) (W : World) (hs : s.size ≤ 9223372036854775807) (_hw : w.size ≤ 9223372036854775807) :
    Calls Tryz.prog 12 #[.string s, .string w] W fun e W' => e = .returned (.bool (decide (upP s.data.toList = w.data.toList))) ∧ W = W' := by
  by_cases he : s.size = w.size
  · have Hs := Lib.hid (same_at he)
    obtain ⟨n, hn⟩ : ∃ n, s.size = n := ⟨_, rfl⟩
    have hnw : w.size = n := by omega
    clear he
    go_enter Tryz.func12, Tryz.ntmps12
    go_wp2
    go_loop [5] (fun i => ∃ k : Nat, k ≤ n ∧ i = .int .i64 k ∧ Hid (∀ (j : Nat) (h1 : j < s.size) (h2 : j < w.size), j < k → up s[j] = w[j])) (fun i => n - (intOf i).toNat)
    case atStart => exact ⟨0, Nat.zero_le _, rfl, Lib.hid (fun j _ _ h => absurd h (Nat.not_lt_zero _))⟩
    case round =>
      obtain ⟨k, hk, rfl, hall⟩ := hrel
      by_cases hlt : k < n
      · have h1 : k < s.size := by omega
        have h2 : k < w.size := by omega
        have h256 : s[k].toNat < 256 := UInt8.toNat_lt _
        by_cases heq : up s[k] = w[k]
        · have Hnx := Lib.hid (show ∀ (j : Nat) (h1 : j < s.size) (h2 : j < w.size), j < k + 1 → up s[j] = w[j] from fun j g1 g2 h => by
            by_cases e : j = k
            · subst e; exact heq
            · exact hall.out j g1 g2 (by omega))
          by_cases hc : 97 ≤ s[k].toNat ∧ s[k].toNat ≤ 122
          · have hb : ((s[k].toNat : Int) - 32 == (w[k].toNat : Int)) = true := by
              have := up_small hc.1 hc.2
              rw [heq] at this
              rw [beq_iff_eq]; omega
            obtain ⟨hc1, hc2⟩ := hc
            clear heq
            go_wp2
            go_round
            case rel => exact ⟨k + 1, by omega, by go_num, Hnx⟩
            case measure => simp [intOf]; omega
          · have hb : ((s[k].toNat : Int) == (w[k].toNat : Int)) = true := by
              rw [up_other hc] at heq
              rw [heq]; simp
            have hc' : s[k].toNat < 97 ∨ 122 < s[k].toNat := by omega
            clear heq hc
            rcases hc' with hc' | hc'
            all_goals
              go_wp2
              go_round
              case rel => exact ⟨k + 1, by omega, by go_num, Hnx⟩
              case measure => simp [intOf]; omega
        · have Hno : Hid (decide (upP s.data.toList = w.data.toList) = false) := Lib.hid (by
            rw [decide_eq_false_iff_not, Hs.out]
            exact fun h => heq (h k h1 h2))
          by_cases hc : 97 ≤ s[k].toNat ∧ s[k].toNat ≤ 122
          · have hb : ((s[k].toNat : Int) - 32 == (w[k].toNat : Int)) = false := by
              have := up_small hc.1 hc.2
              rw [beq_eq_false_iff_ne]
              intro e
              apply heq
              apply UInt8.toNat_inj.1
              omega
            obtain ⟨hc1, hc2⟩ := hc
            clear heq
            go_wp2
            go_ret
            rw [Hno.out]
            exact ⟨rfl, rfl⟩
          · have hb : ((s[k].toNat : Int) == (w[k].toNat : Int)) = false := by
              rw [up_other hc] at heq
              rw [beq_eq_false_iff_ne]
              intro e
              apply heq
              apply UInt8.toNat_inj.1
              omega
            have hc' : s[k].toNat < 97 ∨ 122 < s[k].toNat := by omega
            clear heq hc
            rcases hc' with hc' | hc'
            all_goals
              go_wp2
              go_ret
              rw [Hno.out]
              exact ⟨rfl, rfl⟩
      · have Hyes : Hid (decide (upP s.data.toList = w.data.toList) = true) := Lib.hid (by
          rw [decide_eq_true_eq, Hs.out]
          exact fun j h1 h2 => hall.out j h1 h2 (by omega))
        go_wp2
        go_ret
        rw [Hyes.out]
        exact ⟨rfl, rfl⟩
  · have Hno : Hid (decide (upP s.data.toList = w.data.toList) = false) := Lib.hid (by
      rw [decide_eq_false_iff_not]
      intro h
      have := congrArg List.length h
      rw [upP_length, size_list, size_list] at this
      exact he this)
    have hb : ((s.size : Int) == (w.size : Int)) = false := by rw [beq_eq_false_iff_ne]; omega
    clear he
    go_enter Tryz.func12, Tryz.ntmps12
    go_wp2
    go_ret
    rw [Hno.out]
    exact ⟨rfl, rfl⟩
set_option maxHeartbeats 1000000 in
set_option maxRecDepth 100000 in
theorem rnumber_any (s : ByteArray) (w : World) (hl : s.size ≤ 9223372036854775807) :
    Calls Tryz.prog 18 #[.string s] w fun e w' => e = .returned (.int .i64 ((numQ s.data.toList).getD (-1))) ∧ w = w' := by
  have hz := size_list s
  have Hno := Lib.hid (show (s.data.toList.length = 0 ∨ 9 < s.data.toList.length ∨ (1 < s.data.toList.length ∧ s.data.toList.head? = some 48) ∨ s.data.toList.all isDig = false) → numQ s.data.toList = none from fun h => by unfold numQ; rw [if_pos h])
  have Hyes := Lib.hid (show ¬ (s.data.toList.length = 0 ∨ 9 < s.data.toList.length ∨ (1 < s.data.toList.length ∧ s.data.toList.head? = some 48) ∨ s.data.toList.all isDig = false) → numQ s.data.toList = some (numP s.data.toList) from fun h => by unfold numQ; rw [if_neg h])
  by_cases h0 : s.size = 0
  · have Hn := Lib.hid (Hno.out (.inl (by omega)))
    have h0' : ((s.size : Int) == 0) = true := by rw [beq_iff_eq]; omega
    clear hz h0
    go_enter Tryz.func18, Tryz.ntmps18
    go_wp2
    all_goals (go_ret; rw [Hn.out]; exact ⟨rfl, rfl⟩)
  have hp : 0 < s.size := by omega
  have hq0 : ((s.size : Int) == 0) = false := by rw [beq_eq_false_iff_ne]; omega
  clear h0
  by_cases h9 : 9 < s.size
  · have Hn := Lib.hid (Hno.out (.inr (.inl (by omega))))
    clear hz
    go_enter Tryz.func18, Tryz.ntmps18
    go_wp2
    all_goals (go_ret; rw [Hn.out]; exact ⟨rfl, rfl⟩)
  by_cases h48 : 1 < s.size ∧ ((s[0]'hp).toNat : Int) = 48
  · have Hn := Lib.hid (Hno.out (.inr (.inr (.inl ⟨by omega, by
      have h := h48.2
      rw [List.head?_eq_getElem?, List.getElem?_eq_getElem (by omega)]
      have : s.data.toList[0]'(by omega) = 48 := (byte_eq (x := s.data.toList[0]'(by omega)) (n := 48) (by decide)).1 h
      rw [this]⟩))))
    obtain ⟨h1, h2⟩ := h48
    clear hz
    go_enter Tryz.func18, Tryz.ntmps18
    go_wp2
    all_goals (go_ret; rw [Hn.out]; exact ⟨rfl, rfl⟩)
  have H48 : Hid (¬ (1 < s.data.toList.length ∧ s.data.toList.head? = some 48)) := Lib.hid (by
    rintro ⟨h1, h2⟩
    apply h48
    refine ⟨by omega, ?_⟩
    rw [List.head?_eq_getElem?, List.getElem?_eq_getElem (by omega)] at h2
    exact (byte_eq (x := s.data.toList[0]'(by omega)) (n := 48) (by decide)).2 (Option.some.inj h2))
  have h48' : s.size ≤ 1 ∨ (1 < s.size ∧ (((s[0]'hp).toNat : Int) == 48) = false) := by
    by_cases h1 : 1 < s.size
    · exact .inr ⟨h1, by rw [beq_eq_false_iff_ne]; exact fun e => h48 ⟨h1, e⟩⟩
    · exact .inl (by omega)
  have Hz := Lib.hid hz
  clear h48 hz
  rcases h48' with h1 | ⟨h1, h2⟩
  all_goals
    go_enter Tryz.func18, Tryz.ntmps18
    go_wp2
    go_loop [3, 4] (fun n i => ∃ k : Nat, k ≤ s.size ∧ i = .int .i64 k ∧ n = .int .i64 (numP (s.data.toList.take k)) ∧ Hid (∀ c ∈ s.data.toList.take k, isDig c = true)) (fun _ i => s.size - (intOf i).toNat)
    case atStart => exact ⟨0, Nat.zero_le _, rfl, rfl, Lib.hid (by simp)⟩
    case round =>
      obtain ⟨k, hk, rfl, rfl, hd⟩ := hrel
      have hn := numP_ten hd.out (by rw [List.length_take]; omega)
      by_cases hlt : k < s.size
      · by_cases hdg : 48 ≤ ((s[k]'hlt).toNat : Int) ∧ ((s[k]'hlt).toNat : Int) ≤ 57
        · have Hs := Lib.hid (numP_snoc (s.data.toList.take k) (s[k]'hlt))
          have Hd2 := Lib.hid (dig_take (l := s.data.toList) (k := k) (by rw [Hz.out]; exact hlt) hd.out (dig_iff.2 hdg))
          obtain ⟨hd1, hd2⟩ := hdg
          go_wp2
          go_round
          case rel => exact ⟨k + 1, by omega, by go_num, (by rw [SP.take_snocS s k hlt]; exact congrArg (Value.int .i64) Hs.out.symm), Hd2⟩
          case measure => simp [intOf]; omega
        · have Hn := Lib.hid (Hno.out (.inr (.inr (.inr (by
            rw [List.all_eq_false]
            exact ⟨s[k]'hlt, List.getElem_mem (by rw [Hz.out]; exact hlt), by rw [isDig_no hdg]; decide⟩)))))
          have hdg : ((s[k]'hlt).toNat : Int) < 48 ∨ 57 < ((s[k]'hlt).toNat : Int) := by omega
          rcases hdg with hdg | hdg
          · go_wp2
            go_ret
            rw [Hn.out]
            exact ⟨rfl, rfl⟩
          · go_wp2
            go_ret
            rw [Hn.out]
            exact ⟨rfl, rfl⟩
      · have e : s.data.toList.take k = s.data.toList := List.take_of_length_le (by rw [Hz.out]; omega)
        rw [e] at hd hn ⊢
        have Hn := Lib.hid (Hyes.out (by
          have hz := Hz.out
          rintro (h | h | h | h)
          · omega
          · omega
          · exact H48.out h
          · rw [List.all_eq_true.2 hd.out] at h; cases h))
        clear e
        go_wp2
        go_ret
        rw [Hn.out]
        exact ⟨rfl, rfl⟩

def flW : List Bs := [wSEEN, wANSWERED, wFLAGGED, wDELETED, wDRAFT]
/-- a word of flags -/
def flagP (u : Bs) : Bool := flW.any (fun x => decide (u = x)) || flW.any (fun x => decide (u = [85, 78] ++ x)) || decide (u = wRECENT) || decide (u = wOLD)
theorem flagP_one {u : Bs} {k : Nat} {x : Bs} (hx : flW[k]? = some x) (h : u = x) : flagP u = true := by
  have : flW.any (fun x => decide (u = x)) = true := List.any_eq_true.2 ⟨x, List.mem_of_getElem? hx, by simpa using h⟩
  unfold flagP; rw [this]; rfl
theorem flagP_two {u : Bs} {k : Nat} {x : Bs} (hx : flW[k]? = some x) (h : u = [85, 78] ++ x) : flagP u = true := by
  have : flW.any (fun x => decide (u = [85, 78] ++ x)) = true := List.any_eq_true.2 ⟨x, List.mem_of_getElem? hx, by simpa using h⟩
  unfold flagP; rw [this]; simp
theorem flagP_rec {u : Bs} (h : u = wRECENT) : flagP u = true := by subst h; decide
theorem flagP_old {u : Bs} (h : u = wOLD) : flagP u = true := by subst h; decide
theorem flagP_no {u : Bs} (h1 : ∀ x ∈ flW, u ≠ x ∧ u ≠ [85, 78] ++ x) (h2 : u ≠ wRECENT) (h3 : u ≠ wOLD) : flagP u = false := by
  have e1 : flW.any (fun x => decide (u = x)) = false := List.any_eq_false.2 fun x hx => by simpa using (h1 x hx).1
  have e2 : flW.any (fun x => decide (u = [85, 78] ++ x)) = false := List.any_eq_false.2 fun x hx => by simpa using (h1 x hx).2
  unfold flagP
  rw [e1, e2, decide_eq_false h2, decide_eq_false h3]
  rfl
theorem cat2 (x : Bs) : ((⟨#[85, 78]⟩ : ByteArray) ++ ⟨x.toArray⟩).data.toList = [85, 78] ++ x := by simp [ByteArray.data_append]
theorem flW_len : flW.length = 5 := rfl
theorem flW_short : ∀ x ∈ flW, x.length ≤ 10 := by decide
theorem pow_small {k : Nat} (h : k < 5) : 2 ^ k ≤ 16 := by
  have : k = 0 ∨ k = 1 ∨ k = 2 ∨ k = 3 ∨ k = 4 := by omega
  rcases this with rfl | rfl | rfl | rfl | rfl <;> decide
set_option maxHeartbeats 1000000 in
set_option maxRecDepth 100000 in
theorem rflag_any (s : ByteArray) (W : World) (hs : s.size ≤ 9223372036854775807) :
    Calls Tryz.prog 11 #[.string s] W fun e W' => (∃ (n : Int) (b : Bool), e = .returned (.tuple #[.int .i64 n, .bool b]) ∧ 0 ≤ n ∧ n ≤ 32 ∧ (0 < n ↔ flagP (upP s.data.toList) = true)) ∧ Below W.heap.size W W' := by
  have hb0 := (Below.refl W.heap.size W).alloc (Nat.le_refl _) (.cells (flW.map strV).toArray 9)
  have HN := Lib.hid (blk_new W (.cells (flW.map strV).toArray 9))
  have HB := Lib.hid hb0
  have HS := Lib.hid (fun (w : ByteArray) (W' : World) (h : w.size ≤ 9223372036854775807) => rsame_any s w W' hs h)
  obtain ⟨u, hu⟩ : ∃ u, upP s.data.toList = u := ⟨_, rfl⟩
  rw [hu] at HS ⊢
  clear hb0 hu
  go_enter Tryz.func11, Tryz.ntmps11
  go_wp2_with fail
  go_loopw [5, 6] (fun n i wr => ∃ k : Nat, k ≤ 5 ∧ i = .int .i64 (k : Int) ∧ n = .int .i64 ((2 ^ k : Nat) : Int) ∧ Hid (Below (W.alloc (.cells (flW.map strV).toArray 9)).heap.size (W.alloc (.cells (flW.map strV).toArray 9)) wr) ∧ Hid (∀ x ∈ flW.take k, u ≠ x ∧ u ≠ [85, 78] ++ x)) (fun _ i _ => 5 - (intOf i).toNat)
  case atStart => exact ⟨0, by decide, rfl, rfl, Lib.hid (Below.refl _ _), Lib.hid (by simp)⟩
  case round =>
    obtain ⟨k, hk, rfl, rfl, hb, hno⟩ := hrel
    by_cases hlt : k < 5
    · obtain ⟨x, hx⟩ : ∃ x, flW[k]? = some x := ⟨_, List.getElem?_eq_getElem (by rw [flW_len]; exact hlt)⟩
      have hsh := flW_short x (List.mem_of_getElem? hx)
      have d1 : wr.cell? ⟨W.heap.size, k, none⟩ = some (strV x) := (cell_blk (blk_below HN.out hb.out (blk_lt HN.out)) k).trans (by simp [hx])
      have Hx := Lib.hid hx
      have hp16 := pow_small hlt
      have hpow := Nat.pow_succ 2 k
      have hsz : (⟨x.toArray⟩ : ByteArray).size = x.length := rfl
      obtain ⟨p, hp⟩ : ∃ p, 2 ^ k = p := ⟨_, rfl⟩
      have hp0 : 0 < p := by rw [← hp]; exact Nat.pow_pos (by decide)
      rw [hp] at hp16 hpow ⊢
      have Hpow := Lib.hid hpow
      clear hx hpow hp
      go_wp2_with fail
      refine (HS.out _ _ (by show x.length ≤ _; omega)).mono ?_
      rintro e w2 ⟨rfl, rfl⟩
      rw [show (⟨x.toArray⟩ : ByteArray).data.toList = x from rfl]
      cases h1 : decide (u = x) with
      | true =>
        have Hf := Lib.hid (flagP_one Hx.out (of_decide_eq_true h1))
        have HB2 := Lib.hid (HB.out.trans (hb.out.mono HB.out.size))
        clear h1
        go_wp2
        go_ret2
        exact ⟨⟨p, true, rfl, by omega, by omega, by rw [Hf.out]; simp; omega⟩, HB2.out⟩
      | false =>
        have H1 := Lib.hid (of_decide_eq_false h1)
        clear h1
        go_wp2_with fail
        refine (HS.out _ _ (by simp [ByteArray.size_append]; show 2 + x.length ≤ _; omega)).mono ?_
        rintro e w2 ⟨rfl, rfl⟩
        simp only [cat2]
        cases h2 : decide (u = [85, 78] ++ x) with
        | true =>
          have Hf := Lib.hid (flagP_two Hx.out (of_decide_eq_true h2))
          have HB2 := Lib.hid (HB.out.trans (hb.out.mono HB.out.size))
          clear h2
          go_wp2
          go_ret2
          exact ⟨⟨p, false, rfl, by omega, by omega, by rw [Hf.out]; simp; omega⟩, HB2.out⟩
        | false =>
          have H2 := Lib.hid (of_decide_eq_false h2)
          clear h2
          go_wp2
          go_roundw
          case rel =>
            refine ⟨k + 1, by omega, by go_num, ?_, hb, Lib.hid (fun y hy => ?_)⟩
            · rw [Hpow.out]; go_num
            · rw [List.take_add_one, Hx.out] at hy
              rcases List.mem_append.1 hy with hy | hy
              · exact hno.out y hy
              · simp at hy; subst hy; exact ⟨H1.out, H2.out⟩
          case measure => simp [intOf]; omega
    · have hno5 := Lib.hid (show ∀ x ∈ flW, u ≠ x ∧ u ≠ [85, 78] ++ x by have := hno.out; rw [List.take_of_length_le (by rw [flW_len]; omega)] at this; exact this)
      have HB2 := Lib.hid (HB.out.trans (hb.out.mono HB.out.size))
      go_wp2_with fail
      refine (HS.out _ _ (by decide)).mono ?_
      rintro e w2 ⟨rfl, rfl⟩
      cases h1 : decide (u = ([82, 69, 67, 69, 78, 84] : Bs)) with
      | true =>
        have Hf := Lib.hid (flagP_rec (of_decide_eq_true h1))
        clear h1
        go_wp2
        go_ret2
        exact ⟨⟨32, true, rfl, by decide, by decide, by rw [Hf.out]; simp⟩, HB2.out⟩
      | false =>
        have H1 := Lib.hid (of_decide_eq_false h1)
        clear h1
        go_wp2_with fail
        refine (HS.out _ _ (by decide)).mono ?_
        rintro e w2 ⟨rfl, rfl⟩
        cases h2 : decide (u = ([79, 76, 68] : Bs)) with
        | true =>
          have Hf := Lib.hid (flagP_old (of_decide_eq_true h2))
          clear h2
          go_wp2
          go_ret2
          exact ⟨⟨32, false, rfl, by decide, by decide, by rw [Hf.out]; simp⟩, HB2.out⟩
        | false =>
          have Hf := Lib.hid (flagP_no hno5.out H1.out (of_decide_eq_false h2))
          clear h2
          go_wp2
          go_ret2
          exact ⟨⟨0, false, rfl, by decide, by decide, by rw [Hf.out]; simp⟩, HB2.out⟩
end Go.Proofs.YtkgngahmpafdhaaGreatDoor.QN

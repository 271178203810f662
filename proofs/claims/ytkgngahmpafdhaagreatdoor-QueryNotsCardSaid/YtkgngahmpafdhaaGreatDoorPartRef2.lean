/- What the document's functions of layer 19 return: Has, Split, Rows. Conditions: lengths. -/
import Derived.Test.YtkgngahmpafdhaaGreatDoorPartRef
namespace Go.Proofs.YtkgngahmpafdhaaGreatDoor.PT
open Go.RowKit Mailsack MM

theorem bytes_ne {a b : ByteArray} (h : ¬ a = b) : (a.toList == b.toList) = false := by
  rw [beq_eq_false_iff_ne, ByteArray.toList_eq, ByteArray.toList_eq]
  intro e
  apply h
  cases a; cases b
  simp only at e
  rw [Array.toList_inj.1 e]
/-- does T stand in S at k? -/
def stands (S T : ByteArray) (k : Nat) : Prop := k + T.size ≤ S.size ∧ S.extract k (k + T.size) = T

set_option maxHeartbeats 1000000 in
set_option maxRecDepth 100000 in
theorem rhas_any (s t : ByteArray) (w : World) (hs : s.size < 4294967281) (ht : t.size < 4294967281) :
    Calls Tryz.prog 16 #[.string s, .string t] w fun e w' => e = .returned (.bool (hasP s.data.toList t.data.toList)) ∧ Below w.heap.size w w' := by
  have hS : (⟨(lowP s.data.toList).toArray⟩ : ByteArray).size = s.size := by rw [← size_list]; show (lowP s.data.toList).length = _; rw [lowP_length, size_list]
  have hT : (⟨(lowP t.data.toList).toArray⟩ : ByteArray).size = t.size := by rw [← size_list]; show (lowP t.data.toList).length = _; rw [lowP_length, size_list]
  have href : hasP s.data.toList t.data.toList = true ↔ ∃ i, stands ⟨(lowP s.data.toList).toArray⟩ ⟨(lowP t.data.toList).toArray⟩ i := by
    rw [hasP_ref]
    constructor
    · rintro ⟨i, h1, h2⟩
      refine ⟨i, by rw [hS, hT]; rw [size_list, size_list] at h1; exact h1, ?_⟩
      rw [ext_any, hT, Nat.add_sub_cancel_left, ← size_list t]
      rw [show (⟨(lowP s.data.toList).toArray⟩ : ByteArray).data.toList = lowP s.data.toList from rfl, h2]
    · rintro ⟨i, h1, h2⟩
      refine ⟨i, by rw [hS, hT] at h1; rw [size_list, size_list]; exact h1, ?_⟩
      have h3 := congrArg (fun b : ByteArray => b.data.toList) h2
      simp only at h3
      rw [ext_any, hT, Nat.add_sub_cancel_left, ← size_list t] at h3
      exact h3
  have E1 := small_any s
  have E2 := small_any t
  unfold strV at E1 E2
  generalize (⟨(lowP s.data.toList).toArray⟩ : ByteArray) = S at hS href E1
  generalize (⟨(lowP t.data.toList).toArray⟩ : ByteArray) = T at hT href E2
  generalize hasP s.data.toList t.data.toList = q at href ⊢
  have Hr := Lib.hid href
  have F1 := Lib.hid (fun w => E1 w hs)
  have F2 := Lib.hid (fun w => E2 w ht)
  rw [← hS] at hs
  rw [← hT] at ht
  clear href hS hT E1 E2
  go_enter Tryz.func16, Tryz.ntmps16
  go_wp2_with fail
  refine (F1.out _).mono ?_
  rintro e w1 ⟨rfl, hb1⟩
  go_wp2_with fail
  refine (F2.out _).mono ?_
  rintro e w2 ⟨rfl, hb2⟩
  have hb := Lib.hid (hb1.trans (hb2.mono hb1.size))
  clear hb1 hb2 F1 F2
  go_wp2_with fail
  go_loop [5] (fun iv => ∃ k : Nat, k ≤ S.size + 1 ∧ iv = .int .i64 k ∧ Hid (∀ j, j < k → ¬ stands S T j)) (fun iv => S.size + 1 - (intOf iv).toNat)
  case atStart => exact ⟨0, Nat.zero_le _, rfl, Lib.hid (fun j hj => absurd hj (Nat.not_lt_zero _))⟩
  case round =>
    obtain ⟨k, hk, rfl, hno⟩ := hrel
    by_cases hlt : k + T.size ≤ S.size
    · by_cases he : S.extract k (k + T.size) = T
      · have hq : q = true := Hr.out.2 ⟨k, hlt, he⟩
        subst hq
        have He : ((S.extract k (k + T.size)).toList == T.toList) = true := by rw [he]; simp
        have He2 := Lib.hid he
        clear he
        go_wp2
        go_ret
        exact ⟨rfl, hb.out⟩
      · have He : ((S.extract k (k + T.size)).toList == T.toList) = false := bytes_ne he
        have He2 := Lib.hid he
        clear he
        go_wp2
        go_round
        case rel => exact ⟨k + 1, by omega, by go_num, Lib.hid (fun j hj => by
          by_cases e : j = k
          · subst e; exact fun h => He2.out h.2
          · exact hno.out j (by omega))⟩
        case measure => simp [intOf]; omega
    · have hq : q = false := by
        cases q with
        | false => rfl
        | true =>
          obtain ⟨i, hi⟩ := Hr.out.1 rfl
          exact absurd hi (hno.out i (by have := hi.1; omega))
      subst hq
      go_wp2
      go_ret
      exact ⟨rfl, hb.out⟩

/-- where the document's Split stands: no end of the head before i -/
structure SpI (l : Bs) (fr i : Nat) : Prop where
  no0 : 0 < i → crlf l 0 = false
  no4 : ∀ k, k + 2 < i → Lib.occAt l [13, 10, 13, 10] k = false
  frm : fr = 0 ∧ (∀ j, j < i → crlf l j = false) ∨ ∃ j, fr = j + 2 ∧ j < i ∧ crlf l j = true ∧ ∀ k, j < k → k < i → crlf l k = false

theorem occ4 (l : Bs) (k : Nat) : Lib.occAt l [13, 10, 13, 10] k = true ↔ crlf l k = true ∧ crlf l (k + 2) = true := by
  rw [crlf_iff, crlf_iff]
  unfold Lib.occAt
  rw [show l[k]? = (l.drop k)[0]? by simp, show l[k + 1]? = (l.drop k)[1]? by simp, show l[k + 2]? = (l.drop k)[2]? by simp, show l[k + 2 + 1]? = (l.drop k)[3]? by simp [Nat.add_assoc]]
  rcases l.drop k with _ | ⟨a, _ | ⟨b, _ | ⟨c, _ | ⟨d, t⟩⟩⟩⟩
  all_goals (simp only [List.isPrefixOf, Bool.and_eq_true, Bool.and_true, Bool.and_false, beq_iff_eq, List.getElem?_cons_zero, List.getElem?_cons_succ, List.getElem?_nil, Option.some.injEq, reduceCtorEq, and_false])
  constructor
  · rintro ⟨rfl, rfl, rfl, rfl⟩; exact ⟨⟨rfl, rfl⟩, rfl, rfl⟩
  · rintro ⟨⟨rfl, rfl⟩, rfl, rfl⟩; exact ⟨rfl, rfl, rfl, rfl⟩
theorem crlf_next {l : Bs} {i : Nat} (h : crlf l i = true) : crlf l (i + 1) = false := by
  cases h2 : crlf l (i + 1) with
  | false => rfl
  | true =>
    have h3 := ((crlf_iff l i).1 h).2
    have h4 := ((crlf_iff l (i + 1)).1 h2).1
    rw [h3] at h4; cases h4
theorem SpI.skip {l : Bs} {fr i : Nat} (h : SpI l fr i) (hn : crlf l i = false) : SpI l fr (i + 1) := by
  refine ⟨fun _ => ?_, fun k hk => ?_, ?_⟩
  · by_cases e : i = 0
    · subst e; exact hn
    · exact h.no0 (by omega)
  · by_cases e : k + 2 = i
    · cases ho : Lib.occAt l [13, 10, 13, 10] k with
      | false => rfl
      | true => have := ((occ4 l k).1 ho).2; rw [e, hn] at this; cases this
    · exact h.no4 k (by omega)
  · rcases h.frm with ⟨h1, h2⟩ | ⟨j, h1, h2, h3, h4⟩
    · exact .inl ⟨h1, fun j hj => by by_cases e : j = i
                                     · subst e; exact hn
                                     · exact h2 j (by omega)⟩
    · exact .inr ⟨j, h1, by omega, h3, fun k hk hk2 => by by_cases e : k = i
                                                          · subst e; exact hn
                                                          · exact h4 k hk (by omega)⟩
/-- an end of a line at i: none is passed over; and it is the head's end just if it begins where the last one ended -/
theorem SpI.not_lt {l : Bs} {fr i : Nat} (h : SpI l fr i) (hc : crlf l i = true) : ¬ i < fr := by
  intro hlt
  rcases h.frm with ⟨h1, _⟩ | ⟨j, h1, h2, h3, _⟩
  · omega
  · have e : i = j + 1 := by omega
    rw [e, crlf_next h3] at hc; cases hc
theorem SpI.found {l : Bs} {i : Nat} (h : SpI l i i) (hc : crlf l i = true) : i + 2 = splitN l := by
  by_cases e : i = 0
  · subst e
    have hp : Lib.hasPrefix l [13, 10] = true := hc
    rw [(splitN_pre hp).1]
  · have hp : Lib.hasPrefix l [13, 10] = false := h.no0 (by omega)
    rcases h.frm with ⟨h1, _⟩ | ⟨j, h1, h2, h3, h4⟩
    · omega
    · subst h1
      have ho : Lib.occAt l [13, 10, 13, 10] j = true := (occ4 l j).2 ⟨h3, hc⟩
      have hi : Lib.index l [13, 10, 13, 10] = j := Lib.index_first (by
        have := Lib.occAt_room ho
        simp at this; omega) ho (fun k hk => h.no4 k (by omega))
      rw [(splitN_hit hp hi).1]
theorem SpI.next {l : Bs} {fr i : Nat} (h : SpI l fr i) (hc : crlf l i = true) (hne : i ≠ fr) : SpI l (i + 2) (i + 1) := by
  refine ⟨fun _ => ?_, fun k hk => ?_, .inr ⟨i, rfl, by omega, hc, fun k h1 h2 => by omega⟩⟩
  · by_cases e : i = 0
    · subst e
      rcases h.frm with ⟨h1, _⟩ | ⟨j, h1, h2, _⟩
      · omega
      · omega
    · exact h.no0 (by omega)
  · by_cases e : k + 2 = i
    · cases ho : Lib.occAt l [13, 10, 13, 10] k with
      | false => rfl
      | true =>
        exfalso
        have h1 := ((occ4 l k).1 ho).1
        rcases h.frm with ⟨_, h3⟩ | ⟨j, h2, h3, h4, h5⟩
        · rw [h3 k (by omega)] at h1; cases h1
        · by_cases e2 : j = k
          · omega
          · rcases Nat.lt_or_ge j k with h6 | h6
            · rw [h5 k h6 (by omega)] at h1; cases h1
            · have e3 : j = k + 1 := by omega
              rw [e3, crlf_next h1] at h4; cases h4
    · exact h.no4 k (by omega)
theorem SpI.none {l : Bs} {fr i : Nat} (h : SpI l fr i) (hi : l.length ≤ i + 1) : l.length = splitN l := by
  have hp : Lib.hasPrefix l [13, 10] = false := by
    by_cases e : i = 0
    · cases hc : Lib.hasPrefix l [13, 10] with
      | false => rfl
      | true => have := (splitN_pre hc).2; omega
    · exact h.no0 (by omega)
  have hx : Lib.index l [13, 10, 13, 10] = -1 := Lib.index_none (fun k hk => by
    cases ho : Lib.occAt l [13, 10, 13, 10] k with
    | false => rfl
    | true =>
      have h2 := Lib.occAt_room ho
      simp at h2
      rw [h.no4 k (by omega)] at ho; cases ho)
  rw [splitN_miss hp hx]
theorem spi_start (l : Bs) : SpI l 0 0 := ⟨fun h => absurd h (Nat.lt_irrefl _), fun k hk => by omega, .inl ⟨rfl, fun j hj => absurd hj (Nat.not_lt_zero _)⟩⟩
theorem crlf_get (s : ByteArray) (k : Nat) (h : k + 1 < s.size) : crlf s.data.toList k = true ↔ s[k] = 13 ∧ s[k + 1] = 10 := by
  rw [crlf_iff, List.getElem?_eq_getElem (by rw [size_list]; omega), List.getElem?_eq_getElem (by rw [size_list]; omega)]
  simp only [Option.some.injEq]
  exact Iff.rfl

set_option maxHeartbeats 1000000 in
set_option maxRecDepth 100000 in
theorem rsplit_any (s : ByteArray) (w : World) (hs : s.size < 4294967281) :
    Calls Tryz.prog 17 #[.string s] w fun e w' => e = .returned (.int .i64 (splitN s.data.toList)) ∧ w = w' := by
  go_enter Tryz.func17, Tryz.ntmps17
  go_wp2
  go_loop [3, 4] (fun fv iv => ∃ (fr k : Nat), k ≤ s.size ∧ fr ≤ k + 1 ∧ fv = .int .i64 fr ∧ iv = .int .i64 k ∧ Hid (SpI s.data.toList fr k)) (fun _ iv => s.size - (intOf iv).toNat)
  case atStart => exact ⟨0, 0, Nat.zero_le _, Nat.zero_le _, rfl, rfl, Lib.hid (spi_start _)⟩
  case round =>
    obtain ⟨fr, k, hk, hfk, rfl, rfl, hr⟩ := hrel
    by_cases hlt : k + 1 < s.size
    · have hcg := crlf_get s k hlt
      cases hc : crlf s.data.toList k
      · have hsk := Lib.hid (hr.out.skip hc)
        rw [hc] at hcg
        by_cases h13 : s[k] = 13
        · have h10 : ¬ s[k + 1] = 10 := fun h => by have := hcg.2 ⟨h13, h⟩; cases this
          have b1 : ((s[k].toNat : Int) != 13) = false := by rw [h13]; rfl
          have b2 : ((s[k + 1].toNat : Int) != 10) = true := by
            rw [bne_iff_ne]; intro e; exact h10 ((byte_eq (by decide)).1 e)
          clear hcg h13 h10 hc
          go_wp2
          go_round
          case rel => exact ⟨fr, k + 1, by omega, by omega, rfl, by go_num, hsk⟩
          case measure => simp [intOf]; omega
        · have b1 : ((s[k].toNat : Int) != 13) = true := by
            rw [bne_iff_ne]; intro e; exact h13 ((byte_eq (by decide)).1 e)
          clear hcg h13 hc
          go_wp2
          go_round
          case rel => exact ⟨fr, k + 1, by omega, by omega, rfl, by go_num, hsk⟩
          case measure => simp [intOf]; omega
      · obtain ⟨h13, h10⟩ := hcg.1 hc
        have hnl := hr.out.not_lt hc
        have b1 : ((s[k].toNat : Int) != 13) = false := by rw [h13]; rfl
        have b2 : ((s[k + 1].toNat : Int) != 10) = false := by rw [h10]; rfl
        by_cases he : k = fr
        · subst he
          have hf := Lib.hid (hr.out.found hc)
          have b3 : ((k : Int) == (k : Int)) = true := by simp
          clear hcg h13 h10 hc
          go_wp2
          go_ret
          refine ⟨?_, rfl⟩
          rw [← hf.out]
          rfl
        · have hn := Lib.hid (hr.out.next hc he)
          have b3 : ((k : Int) == (fr : Int)) = false := by simp; omega
          clear hcg h13 h10 hc he
          go_wp2
          go_round
          case rel => exact ⟨k + 2, k + 1, by omega, by omega, by go_num, by go_num, hn⟩
          case measure => simp [intOf]; omega
    · have hN := Lib.hid (hr.out.none (by rw [size_list]; omega))
      go_wp2
      go_ret
      refine ⟨?_, rfl⟩
      rw [← hN.out, size_list]
      rfl
end Go.Proofs.YtkgngahmpafdhaaGreatDoor.PT

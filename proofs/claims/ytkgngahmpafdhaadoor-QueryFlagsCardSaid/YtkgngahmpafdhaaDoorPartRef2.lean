/- What the document's functions of layer 19 return: Has, Split, Rows. Conditions: lengths. -/
import Derived.Test.YtkgngahmpafdhaaDoorPartRef
namespace Go.Proofs.YtkgngahmpafdhaaDoor.PT
open Go.RowKit Mailsack MM

theorem bytes_ne {a b : ByteArray} (h : ¬ a = b) : (a.toList == b.toList) = false := by
  rw [beq_eq_false_iff_ne, ByteArray.toList_eq, ByteArray.toList_eq]
  intro e
  apply h
  cases a; cases b
  simp only at e
  rw [Array.toList_inj.1 e]
/-- does T stand in S at k? -/
def stands (S T : ByteArray) (k : Nat) : Prop := k + T.size ≤ S.size ∧ S.extract k (k + T.size) = T

/-- where the document's Split stands: no end of the head before i -/
structure SpI (l : Bs) (fr i : Nat) : Prop where
  no0 : 0 < i → crlf l 0 = false
  no4 : ∀ k, k + 2 < i → Lib.occAt l [13, 10, 13, 10] k = false
  frm : fr = 0 ∧ (∀ j, j < i → crlf l j = false) ∨ ∃ j, fr = j + 2 ∧ j < i ∧ crlf l j = true ∧ ∀ k, j < k → k < i → crlf l k = false

theorem occ4 (l : Bs) (k : Nat) : Lib.occAt l [13, 10, 13, 10] k = true ↔ crlf l k = true ∧ crlf l (k + 2) = true := by
  rw [crlf_iff, crlf_iff]
  unfold Lib.occAt
  rw [show l[k]? = (l.drop k)[0]? by simp, show l[k + 1]? = (l.drop k)[1]? by simp, show l[k + 2]? = (l.drop k)[2]? by simp, show l[k + 2 + 1]? = (l.drop k)[3]? by simp [Nat.add_assoc]]
  rcases l.drop k with _ | ⟨a, _ | ⟨b, _ | ⟨c, _ | ⟨d, t⟩⟩⟩⟩
  all_goals (simp only [List.isPrefixOf, Bool.and_eq_true, Bool.and_true, Bool.and_false, beq_iff_eq, List.getElem?_cons_zero, List.getElem?_cons_succ, List.getElem?_nil, Option.some.injEq, reduceCtorEq, and_false])
  constructor
  · rintro ⟨rfl, rfl, rfl, rfl⟩; exact ⟨⟨rfl, rfl⟩, rfl, rfl⟩
  · rintro ⟨⟨rfl, rfl⟩, rfl, rfl⟩; exact ⟨rfl, rfl, rfl, rfl⟩
theorem crlf_next {l : Bs} {i : Nat} (h : crlf l i = true) : crlf l (i + 1) = false := by
  cases h2 : crlf l (i + 1) with
  | false => rfl
  | true =>
    have h3 := ((crlf_iff l i).1 h).2
    have h4 := ((crlf_iff l (i + 1)).1 h2).1
    rw [h3] at h4; cases h4
theorem SpI.skip {l : Bs} {fr i : Nat} (h : SpI l fr i) (hn : crlf l i = false) : SpI l fr (i + 1) := by
  refine ⟨fun _ => ?_, fun k hk => ?_, ?_⟩
  · by_cases e : i = 0
    · subst e; exact hn
    · exact h.no0 (by omega)
  · by_cases e : k + 2 = i
    · cases ho : Lib.occAt l [13, 10, 13, 10] k with
      | false => rfl
      | true => have := ((occ4 l k).1 ho).2; rw [e, hn] at this; cases this
    · exact h.no4 k (by omega)
  · rcases h.frm with ⟨h1, h2⟩ | ⟨j, h1, h2, h3, h4⟩
    · exact .inl ⟨h1, fun j hj => by by_cases e : j = i
                                     · subst e; exact hn
                                     · exact h2 j (by omega)⟩
    · exact .inr ⟨j, h1, by omega, h3, fun k hk hk2 => by by_cases e : k = i
                                                          · subst e; exact hn
                                                          · exact h4 k hk (by omega)⟩
/-- an end of a line at i: none is passed over; and it is the head's end just if it begins where the last one ended -/
theorem SpI.not_lt {l : Bs} {fr i : Nat} (h : SpI l fr i) (hc : crlf l i = true) : ¬ i < fr := by
  intro hlt
  rcases h.frm with ⟨h1, _⟩ | ⟨j, h1, h2, h3, _⟩
  · omega
  · have e : i = j + 1 := by omega
    rw [e, crlf_next h3] at hc; cases hc
theorem SpI.found {l : Bs} {i : Nat} (h : SpI l i i) (hc : crlf l i = true) : i + 2 = splitN l := by
  by_cases e : i = 0
  · subst e
    have hp : Lib.hasPrefix l [13, 10] = true := hc
    rw [(splitN_pre hp).1]
  · have hp : Lib.hasPrefix l [13, 10] = false := h.no0 (by omega)
    rcases h.frm with ⟨h1, _⟩ | ⟨j, h1, h2, h3, h4⟩
    · omega
    · subst h1
      have ho : Lib.occAt l [13, 10, 13, 10] j = true := (occ4 l j).2 ⟨h3, hc⟩
      have hi : Lib.index l [13, 10, 13, 10] = j := Lib.index_first (by
        have := Lib.occAt_room ho
        simp at this; omega) ho (fun k hk => h.no4 k (by omega))
      rw [(splitN_hit hp hi).1]
theorem SpI.next {l : Bs} {fr i : Nat} (h : SpI l fr i) (hc : crlf l i = true) (hne : i ≠ fr) : SpI l (i + 2) (i + 1) := by
  refine ⟨fun _ => ?_, fun k hk => ?_, .inr ⟨i, rfl, by omega, hc, fun k h1 h2 => by omega⟩⟩
  · by_cases e : i = 0
    · subst e
      rcases h.frm with ⟨h1, _⟩ | ⟨j, h1, h2, _⟩
      · omega
      · omega
    · exact h.no0 (by omega)
  · by_cases e : k + 2 = i
    · cases ho : Lib.occAt l [13, 10, 13, 10] k with
      | false => rfl
      | true =>
        exfalso
        have h1 := ((occ4 l k).1 ho).1
        rcases h.frm with ⟨_, h3⟩ | ⟨j, h2, h3, h4, h5⟩
        · rw [h3 k (by omega)] at h1; cases h1
        · by_cases e2 : j = k
          · omega
          · rcases Nat.lt_or_ge j k with h6 | h6
            · rw [h5 k h6 (by omega)] at h1; cases h1
            · have e3 : j = k + 1 := by omega
              rw [e3, crlf_next h1] at h4; cases h4
    · exact h.no4 k (by omega)
theorem SpI.none {l : Bs} {fr i : Nat} (h : SpI l fr i) (hi : l.length ≤ i + 1) : l.length = splitN l := by
  have hp : Lib.hasPrefix l [13, 10] = false := by
    by_cases e : i = 0
    · cases hc : Lib.hasPrefix l [13, 10] with
      | false => rfl
      | true => have := (splitN_pre hc).2; omega
    · exact h.no0 (by omega)
  have hx : Lib.index l [13, 10, 13, 10] = -1 := Lib.index_none (fun k hk => by
    cases ho : Lib.occAt l [13, 10, 13, 10] k with
    | false => rfl
    | true =>
      have h2 := Lib.occAt_room ho
      simp at h2
      rw [h.no4 k (by omega)] at ho; cases ho)
  rw [splitN_miss hp hx]
theorem spi_start (l : Bs) : SpI l 0 0 := ⟨fun h => absurd h (Nat.lt_irrefl _), fun k hk => by omega, .inl ⟨rfl, fun j hj => absurd hj (Nat.not_lt_zero _)⟩⟩
theorem crlf_get (s : ByteArray) (k : Nat) (h : k + 1 < s.size) : crlf s.data.toList k = true ↔ s[k] = 13 ∧ s[k + 1] = 10 := by
  rw [crlf_iff, List.getElem?_eq_getElem (by rw [size_list]; omega), List.getElem?_eq_getElem (by rw [size_list]; omega)]
  simp only [Option.some.injEq]
  exact Iff.rfl

end Go.Proofs.YtkgngahmpafdhaaDoor.PT

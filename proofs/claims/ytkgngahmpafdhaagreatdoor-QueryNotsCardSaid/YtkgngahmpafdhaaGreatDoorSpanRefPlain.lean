/- Plain laws (no program) of layer 14: how the document's answer reads a set, step by step. No conditions but those stated. -/
import Derived.Test.YtkgngahmpafdhaaGreatDoorSpanPlain
namespace Mailsack

/-- the document's number at the head of a text: its value, and how many bytes it has -/
def refN (l : Bs) : Option (Int × Nat) :=
  if l.head? = some 42 then some (0, 1)
  else if ((l.take 11).takeWhile isDig).length = 0 ∨ 10 < ((l.take 11).takeWhile isDig).length ∨ l.head? = some 48 ∨ 4294967295 < numP ((l.take 11).takeWhile isDig) then none
  else some (numP ((l.take 11).takeWhile isDig), ((l.take 11).takeWhile isDig).length)

theorem tw_le {l : Bs} : ∀ {i : Nat} {c : UInt8}, l[i]? = some c → isDig c = false → (l.takeWhile isDig).length ≤ i := by
  induction l with
  | nil => intro i c h; simp at h
  | cons x r ih =>
    intro i c h hc
    cases i with
    | zero => simp at h; subst h; simp [List.takeWhile, hc]
    | succ i =>
      have := ih (i := i) (by simpa using h) hc
      rw [List.takeWhile_cons]
      split
      · simp; exact this
      · simp
theorem tw_all {a r : Bs} (ha : ∀ c ∈ a, isDig c = true) (hr : ∀ c, r.head? = some c → isDig c = false) : (a ++ r).takeWhile isDig = a := by
  rw [List.takeWhile_append_of_pos ha]
  cases r with
  | nil => simp
  | cons c r => simp [List.takeWhile, hr c rfl]
theorem head_app {a r : Bs} (h : a ≠ []) : (a ++ r).head? = a.head? := by cases a with
  | nil => exact absurd rfl h
  | cons x a => rfl
theorem get0_head (a : Bs) : a[0]? = a.head? := by cases a <;> rfl

theorem refN_at (a r : Bs) (hr : ∀ c, r.head? = some c → isDig c = false ∧ c ≠ 42) :
    ((numS a).2 = true → refN (a ++ r) = some ((numS a).1, a.length)) ∧ ((numS a).2 = false → ∀ n k, refN (a ++ r) = some (n, k) → k < a.length) := by
  by_cases h42 : a.head? = some 42
  · cases a with
    | nil => cases h42
    | cons x a =>
      simp at h42; subst h42
      have e : refN (42 :: a ++ r) = some (0, 1) := by unfold refN; exact if_pos rfl
      rw [e]
      cases a with
      | nil => exact ⟨fun _ => rfl, fun h => by cases h⟩
      | cons y a =>
        have hn : numS (42 :: y :: a) = (0, false) := numS_no (by simp) (.inr (.inr (.inr (.inl (by simp [List.all_cons, show isDig 42 = false by decide])))))
        rw [hn]
        refine ⟨fun h => (by cases h), fun _ n k h => ?_⟩
        injection h with h; injection h with h1 h2; subst h2; simp
  have hne : a ≠ [42] := fun e => h42 (by rw [e]; rfl)
  have hh : (a ++ r).head? ≠ some 42 := by
    cases a with
    | nil => intro h; exact (hr 42 h).2 rfl
    | cons x a => exact h42
  cases hd : a.all isDig with
  | true =>
    have hd' : ∀ c ∈ a, isDig c = true := List.all_eq_true.1 hd
    have e : ((a ++ r).take 11).takeWhile isDig = a.take 11 := by
      rw [List.take_append]
      refine tw_all (fun c hc => hd' c (List.mem_of_mem_take hc)) (fun c hc => ?_)
      cases r with
      | nil => simp at hc
      | cons y r =>
        cases hk : 11 - a.length with
        | zero => rw [hk] at hc; simp at hc
        | succ k => rw [hk] at hc; simp at hc; subst hc; exact (hr y rfl).1
    by_cases hlen : a.length ≤ 10
    · rw [List.take_of_length_le (l := a) (by omega)] at e
      have hhd : (a ++ r).head? = some 48 ↔ a.head? = some 48 := by
        cases a with
        | nil =>
          constructor
          · intro h; exact absurd (hr 48 h).1 (by decide)
          · intro h; cases h
        | cons x a => exact Iff.rfl
      by_cases hc : a.length = 0 ∨ 10 < a.length ∨ a[0]? = some 48 ∨ a.all isDig = false ∨ 4294967295 < numP a
      · rw [numS_no hne hc]
        refine ⟨fun h => (by cases h), fun _ n k h => ?_⟩
        unfold refN at h
        rw [if_neg hh, e, if_pos] at h
        · cases h
        · rcases hc with h | h | h | h | h
          · exact .inl h
          · exact .inr (.inl h)
          · exact .inr (.inr (.inl (hhd.2 (by rw [← get0_head]; exact h))))
          · rw [hd] at h; cases h
          · exact .inr (.inr (.inr h))
      · have e2 : numS a = (numP a, true) := by unfold numS; rw [if_neg hne, if_neg hc]
        rw [e2]
        refine ⟨fun _ => ?_, fun h => by cases h⟩
        unfold refN
        rw [if_neg hh, e, if_neg]
        rintro (h | h | h | h)
        · exact hc (.inl h)
        · exact hc (.inr (.inl h))
        · exact hc (.inr (.inr (.inl (by rw [get0_head]; exact hhd.1 h))))
        · exact hc (.inr (.inr (.inr (.inr h))))
    · rw [numS_no hne (.inr (.inl (by omega)))]
      refine ⟨fun h => (by cases h), fun _ n k h => ?_⟩
      unfold refN at h
      rw [if_neg hh, e, if_pos (.inr (.inl (by rw [List.length_take]; omega)))] at h
      cases h
  | false =>
    rw [numS_no hne (.inr (.inr (.inr (.inl hd))))]
    refine ⟨fun h => (by cases h), fun _ n k h => ?_⟩
    obtain ⟨c, hc, hcd⟩ := List.all_eq_false.1 hd
    have hcd : isDig c = false := by cases e : isDig c with
      | true => exact absurd e hcd
      | false => rfl
    obtain ⟨i, hi⟩ := List.mem_iff_getElem?.1 hc
    have hil : i < a.length := (List.getElem?_eq_some_iff.1 hi).1
    have hle : (((a ++ r).take 11).takeWhile isDig).length ≤ i := by
      by_cases h11 : i < 11
      · refine tw_le (c := c) ?_ hcd
        rw [List.getElem?_take, if_pos h11, List.getElem?_append_left hil]; exact hi
      · have := (List.takeWhile_sublist isDig (l := (a ++ r).take 11)).length_le
        rw [List.length_take] at this
        omega
    unfold refN at h
    rw [if_neg hh] at h
    split at h
    · cases h
    · injection h with h; injection h with h1 h2; omega

/-- what stands behind a range decides -/
def TailRule (l : Bs) (x : Int × Int) (m : Nat) : Prop :=
  m ≤ l.length ∧ (m = l.length → parseS l = some [x]) ∧ (l[m]? = some 44 → parseS l = (parseS (l.drop (m + 1))).map (x :: ·)) ∧ (m < l.length → l[m]? ≠ some 44 → parseS l = none)

theorem parse_bad {l : Bs} (h : ∃ p ∈ splitC 44 l, partOK p = false) : parseS l = none := by
  obtain ⟨p, hp, hb⟩ := h
  unfold parseS
  rw [if_neg]
  intro h
  rw [List.all_eq_true.1 h p hp] at hb; cases hb
theorem parse_cons {p q : Bs} (hp : 44 ∉ p) (hok : partOK p = true) : parseS (p ++ 44 :: q) = (parseS q).map (partV p :: ·) := by
  unfold parseS
  rw [splitC_hit hp, List.all_cons, hok, Bool.true_and]
  split <;> rfl
theorem parse_one {p : Bs} (hp : 44 ∉ p) (hok : partOK p = true) : parseS p = some [partV p] := by
  unfold parseS
  rw [splitC_none hp]
  simp [hok]

/-- a text begins with its first part -/
theorem first_part (l : Bs) : ∃ p t : Bs, l = p ++ t ∧ 44 ∉ p ∧ (t = [] ∨ ∃ q, t = 44 :: q) := by
  rcases idx_cases l 44 with ⟨_, h⟩ | ⟨i, _, _, h, e⟩
  · exact ⟨l, [], by simp, h, .inl rfl⟩
  · exact ⟨l.take i, 44 :: l.drop (i + 1), e, h, .inr ⟨_, rfl⟩⟩
theorem part_mem {p t : Bs} (hp : 44 ∉ p) (ht : t = [] ∨ ∃ q, t = 44 :: q) : p ∈ splitC 44 (p ++ t) := by
  rcases ht with rfl | ⟨q, rfl⟩
  · rw [List.append_nil, splitC_none hp]; simp
  · rw [splitC_hit hp]; simp
theorem tail_good {p t : Bs} (hp : 44 ∉ p) (ht : t = [] ∨ ∃ q, t = 44 :: q) (hok : partOK p = true) : TailRule (p ++ t) (partV p) p.length := by
  rcases ht with rfl | ⟨q, rfl⟩
  · rw [List.append_nil]
    refine ⟨Nat.le_refl _, fun _ => parse_one hp hok, fun h => ?_, fun h => by omega⟩
    rw [List.getElem?_eq_none (Nat.le_refl _)] at h; cases h
  · refine ⟨by simp, fun h => by simp at h, fun _ => ?_, fun _ h => absurd (by simp) h⟩
    rw [parse_cons hp hok]
    congr 2
    rw [show p ++ 44 :: q = (p ++ [44]) ++ q by simp, List.drop_append_of_le_length (by simp)]
    simp
theorem tail_bad {p t : Bs} (hp : 44 ∉ p) (ht : t = [] ∨ ∃ q, t = 44 :: q) (hok : partOK p = false) {m : Nat} (hm : m < p.length) (x : Int × Int) : TailRule (p ++ t) x m := by
  have hn : parseS (p ++ t) = none := parse_bad ⟨p, part_mem hp ht, hok⟩
  refine ⟨by simp; omega, fun h => ?_, fun h => ?_, fun _ _ => hn⟩
  · simp at h; omega
  · rw [List.getElem?_append_left hm] at h
    exact absurd (List.mem_of_getElem? h) hp
theorem tail_head {t : Bs} (ht : t = [] ∨ ∃ q, t = 44 :: q) : ∀ c, t.head? = some c → isDig c = false ∧ c ≠ 42 := by
  intro c h
  rcases ht with rfl | ⟨q, rfl⟩
  · cases h
  · simp at h; subst h; decide
theorem index_58 (p : Bs) : Go.Lib.index p [58] = Go.Lib.indexByte p 58 := by
  first | exact Go.Lib.index_one p 58 | exact Go.Lib.index_singleton p 58 | rfl

/-- the step of the document's answer -/
theorem parse_step (l : Bs) :
    (refN l = none → parseS l = none) ∧
    (∀ a k, refN l = some (a, k) → k ≤ l.length ∧
      (l[k]? ≠ some 58 → TailRule l (a, a) k) ∧
      (l[k]? = some 58 → (refN (l.drop (k + 1)) = none → parseS l = none) ∧ ∀ b j, refN (l.drop (k + 1)) = some (b, j) → TailRule l (a, b) (k + 1 + j))) := by
  obtain ⟨p, t, rfl, hp, ht⟩ := first_part l
  have hmem := part_mem hp ht
  rcases idx_cases p 58 with ⟨hi, h58⟩ | ⟨i, hi, hil, h58, hcut⟩
  · have he : ends p = (p, p) := by unfold ends; rw [index_58, hi, if_neg (by decide)]
    have hok : partOK p = (numS p).2 := by unfold partOK; rw [he]; simp
    have hv : partV p = ((numS p).1, (numS p).1) := by unfold partV; rw [he]
    obtain ⟨h1, h2⟩ := refN_at p t (tail_head ht)
    cases hn : (numS p).2 with
    | true =>
      rw [h1 hn]
      refine ⟨fun h => (by cases h), fun a k h => ?_⟩
      injection h with h; injection h with ha hk; subst ha hk
      refine ⟨by simp, fun _ => ?_, fun h => ?_⟩
      · rw [← hv]; exact tail_good hp ht (hok.trans hn)
      · rcases ht with rfl | ⟨q, rfl⟩
        · simp at h
        · simp at h
    | false =>
      refine ⟨fun _ => parse_bad ⟨p, hmem, hok.trans hn⟩, fun a k h => ?_⟩
      have hk := h2 hn a k h
      refine ⟨by simp; omega, fun _ => tail_bad hp ht (hok.trans hn) hk _, fun h => ?_⟩
      rw [List.getElem?_append_left hk] at h
      exact absurd (List.mem_of_getElem? h) h58
  · have he : ends p = (p.take i, p.drop (i + 1)) := by unfold ends; rw [index_58, hi, if_pos (by omega)]; simp
    generalize ea : p.take i = a0 at *
    generalize eb : p.drop (i + 1) = b0 at *
    clear ea eb hi hil
    subst hcut
    have hok : partOK (a0 ++ 58 :: b0) = ((numS a0).2 && (numS b0).2) := by unfold partOK; rw [he]
    have hv : partV (a0 ++ 58 :: b0) = ((numS a0).1, (numS b0).1) := by unfold partV; rw [he]
    have hpa : 44 ∉ a0 := fun h => hp (by simp [h])
    have hpb : 44 ∉ b0 := fun h => hp (by simp [h])
    have el : a0 ++ 58 :: b0 ++ t = a0 ++ (58 :: (b0 ++ t)) := by simp
    obtain ⟨h1, h2⟩ := refN_at a0 (58 :: (b0 ++ t)) (fun c h => by simp at h; subst h; decide)
    obtain ⟨h3, h4⟩ := refN_at b0 t (tail_head ht)
    rw [← el] at h1 h2
    cases hn : (numS a0).2 with
    | true =>
      rw [h1 hn]
      refine ⟨fun h => (by cases h), fun a k h => ?_⟩
      injection h with h; injection h with ha hk; subst ha hk
      have hat : (a0 ++ 58 :: b0 ++ t)[a0.length]? = some 58 := by rw [el]; simp
      have hdr : (a0 ++ 58 :: b0 ++ t).drop (a0.length + 1) = b0 ++ t := by
        rw [show a0 ++ 58 :: b0 ++ t = (a0 ++ [58]) ++ (b0 ++ t) by simp, List.drop_append_of_le_length (by simp)]; simp
      refine ⟨by simp <;> omega, fun h => absurd hat h, fun _ => ?_⟩
      rw [hdr]
      cases hb : (numS b0).2 with
      | true =>
        rw [h3 hb]
        refine ⟨fun h => (by cases h), fun b j h => ?_⟩
        injection h with h; injection h with hb1 hj; subst hb1 hj
        have := tail_good hp ht (by rw [hok, hn, hb]; rfl)
        rw [hv] at this
        rw [show a0.length + 1 + b0.length = (a0 ++ 58 :: b0).length by simp; omega]
        exact this
      | false =>
        have hbad : partOK (a0 ++ 58 :: b0) = false := by rw [hok, hn, hb]; rfl
        refine ⟨fun _ => parse_bad ⟨_, hmem, hbad⟩, fun b j h => ?_⟩
        have := h4 hb b j h
        exact tail_bad hp ht hbad (by simp; omega) _
    | false =>
      have hbad : partOK (a0 ++ 58 :: b0) = false := by rw [hok, hn]; rfl
      refine ⟨fun _ => parse_bad ⟨_, hmem, hbad⟩, fun a k h => ?_⟩
      have hk := h2 hn a k h
      refine ⟨by simp; omega, fun _ => tail_bad hp ht hbad (by simp; omega) _, fun h => ?_⟩
      rw [el, List.getElem?_append_left hk] at h
      exact absurd (List.mem_of_getElem? h) h58
end Mailsack

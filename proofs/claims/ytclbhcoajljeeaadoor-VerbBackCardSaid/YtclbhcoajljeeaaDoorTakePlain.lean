/- Plain definitions and laws about commands (no program): what Take computes, as a function on lists of bytes. No conditions but those stated. -/
import Derived.Test.YtclbhcoajljeeaaDoorLinesLitPlain
namespace Mailsack

structure TakeR where
  texts : List Bs
  lits : List Bs
  rest : Bs
  state : Int
  n : Nat

def takeGo : Nat → List Bs → List Bs → Bs → TakeR
  | 0, _, L, _ => ⟨[], [], [], 0, L.length⟩
  | f + 1, T, L, l =>
    if (nextP l).2.2 = 1 then
      match litP (nextP l).1 with
      | none => ⟨T ++ [(nextP l).1], L, (nextP l).2.1, 1, L.length⟩
      | some (n, a) =>
        if 700 < n ∨ 3 < L.length then ⟨[], [], (nextP l).2.1, 2, L.length⟩
        else if (((nextP l).2.1).length : Int) < n then ⟨[], [], [], 0, L.length + 1⟩
        else takeGo f (T ++ [(nextP l).1.take a]) (L ++ [(nextP l).2.1.take n.toNat]) ((nextP l).2.1.drop n.toNat)
    else ⟨[], [], (nextP l).2.1, (nextP l).2.2, L.length⟩

/-- the first command of a text -/
def takeP (l : Bs) : TakeR := takeGo 5 [] [] l

section
variable {f : Nat} {T L : List Bs} {l ln rest : Bs} {st n : Int} {a : Nat}
theorem takeGo_stop (h : nextP l = (ln, rest, st)) (hs : st ≠ 1) : takeGo (f + 1) T L l = ⟨[], [], rest, st, L.length⟩ := by
  simp [takeGo, h, hs]
theorem takeGo_plain (h : nextP l = (ln, rest, 1)) (hl : litP ln = none) : takeGo (f + 1) T L l = ⟨T ++ [ln], L, rest, 1, L.length⟩ := by
  simp [takeGo, h, hl]
theorem takeGo_great (h : nextP l = (ln, rest, 1)) (hl : litP ln = some (n, a)) (hn : 700 < n ∨ 3 < L.length) : takeGo (f + 1) T L l = ⟨[], [], rest, 2, L.length⟩ := by
  simp [takeGo, h, hl, hn]
theorem takeGo_short (h : nextP l = (ln, rest, 1)) (hl : litP ln = some (n, a)) (hn : ¬ (700 < n ∨ 3 < L.length)) (hr : (rest.length : Int) < n) : takeGo (f + 1) T L l = ⟨[], [], [], 0, L.length + 1⟩ := by
  simp [takeGo, h, hl, hr, if_neg hn]
theorem takeGo_go (h : nextP l = (ln, rest, 1)) (hl : litP ln = some (n, a)) (hn : ¬ (700 < n ∨ 3 < L.length)) (hr : ¬ (rest.length : Int) < n) :
    takeGo (f + 1) T L l = takeGo f (T ++ [ln.take a]) (L ++ [rest.take n.toNat]) (rest.drop n.toNat) := by
  rw [takeGo]
  simp only [h, hl, if_pos, if_neg hn, if_neg hr]
end

theorem nextP_len {l ln rest : Bs} (h : nextP l = (ln, rest, 1)) : ln.length + 2 + rest.length = l.length ∧ ln.length ≤ 512 := by
  rcases index_cases l [13, 10] with hi | ⟨i, hi⟩
  · by_cases hs : l.length ≤ 512
    · rw [nextP_miss_short hi hs] at h; injection h with _ h; injection h with _ h; cases h
    · rw [nextP_miss_long hi hs] at h; injection h with _ h; injection h with _ h; cases h
  · have hle : i + 2 ≤ l.length := index_le hi
    by_cases hs : i ≤ 512
    · rw [nextP_hit_short hi hs] at h
      injection h with h1 h; injection h with h2 _
      subst h1 h2
      simp; omega
    · rw [nextP_hit_long hi hs] at h; injection h with _ h; injection h with _ h; cases h
theorem nextP_rest {l ln rest : Bs} {st : Int} (h : nextP l = (ln, rest, st)) : rest.length ≤ l.length := by
  rcases index_cases l [13, 10] with hi | ⟨i, hi⟩
  · by_cases hs : l.length ≤ 512
    · rw [nextP_miss_short hi hs] at h; injection h with _ h; injection h with h _; subst h; simp
    · rw [nextP_miss_long hi hs] at h; injection h with _ h; injection h with h _; subst h; simp
  · by_cases hs : i ≤ 512
    · rw [nextP_hit_short hi hs] at h; injection h with _ h; injection h with h _; subst h; simp
    · rw [nextP_hit_long hi hs] at h; injection h with _ h; injection h with h _; subst h; simp
theorem takeGo_len : ∀ (f : Nat) (T L : List Bs) (l : Bs), (takeGo f T L l).texts.length ≤ T.length + f ∧ (takeGo f T L l).lits.length ≤ L.length + f
  | 0, T, L, l => by simp [takeGo]
  | f + 1, T, L, l => by
    rw [takeGo]
    split
    · split
      · simp
      · split
        · simp
        · split
          · simp
          · have := takeGo_len f
            refine ⟨Nat.le_trans (this _ _ _).1 ?_, Nat.le_trans (this _ _ _).2 ?_⟩ <;> simp <;> omega
    · simp
theorem takeP_len (l : Bs) : (takeP l).texts.length ≤ 5 ∧ (takeP l).lits.length ≤ 5 := by
  have := takeGo_len 5 [] [] l
  simpa [takeP] using this
theorem litP_at {l : Bs} {n : Int} {a : Nat} (h : litP l = some (n, a)) : a + 2 < l.length := litOk_len (litP_inv h).1
end Mailsack

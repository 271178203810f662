/- Plain laws about commands (no program): bytes behind a whole command do not change it; a line without CR and without a literal is a command of one text. No conditions but those stated. -/
import Derived.Test.YtclbhcoajljeeaaDoorTakePlain
namespace Mailsack

theorem get_app {u x : Bs} {j : Nat} (h : j < u.length) : (u ++ x)[j]? = u[j]? := List.getElem?_append_left h

theorem index_app {ln x : Bs} (h : ∀ j, j < ln.length → Go.Lib.occAt (ln ++ 13 :: 10 :: x) [13, 10] j = false) : Go.Lib.index (ln ++ 13 :: 10 :: x) [13, 10] = ln.length := by
  refine Go.Lib.index_first (by simp) ?_ h
  rw [occ_crlf, List.getElem?_append_right (Nat.le_refl _), List.getElem?_append_right (by omega), show ln.length + 1 - ln.length = 1 by omega, Nat.sub_self]
  rfl

theorem nextP_app {ln x : Bs} (h : ∀ j, j < ln.length → Go.Lib.occAt (ln ++ 13 :: 10 :: x) [13, 10] j = false) (hl : ln.length ≤ 512) : nextP (ln ++ 13 :: 10 :: x) = (ln, x, 1) := by
  rw [nextP_hit_short (index_app h) hl]
  have e1 : (ln ++ 13 :: 10 :: x).take ln.length = ln := by simp
  have e2 : (ln ++ 13 :: 10 :: x).drop (ln.length + 2) = x := by
    rw [show ln ++ 13 :: 10 :: x = (ln ++ [13, 10]) ++ x by simp, show ln.length + 2 = (ln ++ [13, 10]).length by simp, List.drop_left]
  rw [e1, e2]

theorem occ_same {ln x y : Bs} {j : Nat} (h : j < ln.length) : Go.Lib.occAt (ln ++ 13 :: 10 :: x) [13, 10] j = Go.Lib.occAt (ln ++ 13 :: 10 :: y) [13, 10] j := by
  have e : ∀ z : Bs, ln ++ 13 :: 10 :: z = (ln ++ [13, 10]) ++ z := fun z => by simp
  rw [occ_crlf, occ_crlf, e x, e y, get_app (u := ln ++ [13, 10]) (x := x) (j := j) (by simp; omega), get_app (u := ln ++ [13, 10]) (x := x) (j := j + 1) (by simp; omega), get_app (u := ln ++ [13, 10]) (x := y) (j := j) (by simp; omega), get_app (u := ln ++ [13, 10]) (x := y) (j := j + 1) (by simp; omega)]

/-- a line that is found: the text is the line, CR LF and the rest; and it is the line whatever stands behind -/
theorem nextP_form {l ln rest : Bs} (h : nextP l = (ln, rest, 1)) : l = ln ++ 13 :: 10 :: rest ∧ ∀ x, nextP (ln ++ 13 :: 10 :: x) = (ln, x, 1) := by
  rcases Go.Lib.index_spec l [13, 10] with ⟨hi, _⟩ | ⟨i, hi, _, hocc, hno⟩
  · by_cases hs : l.length ≤ 512
    · rw [nextP_miss_short hi hs] at h; injection h with _ h; injection h with _ h; cases h
    · rw [nextP_miss_long hi hs] at h; injection h with _ h; injection h with _ h; cases h
  · by_cases hs : i ≤ 512
    · rw [nextP_hit_short hi hs] at h
      injection h with h1 h; injection h with h2 _
      have hle : i + 2 ≤ l.length := index_le hi
      have hlen : ln.length = i := by rw [← h1, List.length_take]; omega
      rw [occ_crlf, Bool.and_eq_true, beq_iff_eq, beq_iff_eq] at hocc
      have e : l = ln ++ 13 :: 10 :: rest := by
        have g1 : l.drop i = 13 :: l.drop (i + 1) := by
          rw [List.drop_eq_getElem_cons (by omega)]
          congr 1
          have := hocc.1
          rw [List.getElem?_eq_getElem (by omega)] at this
          injection this
        have g2 : l.drop (i + 1) = 10 :: l.drop (i + 2) := by
          rw [List.drop_eq_getElem_cons (by omega)]
          congr 1
          have := hocc.2
          rw [List.getElem?_eq_getElem (by omega)] at this
          injection this
        rw [← h1, ← h2, ← g2, ← g1, List.take_append_drop]
      refine ⟨e, fun x => nextP_app (fun j hj => ?_) (by omega)⟩
      rw [occ_same (y := rest) hj, ← e]
      exact hno j (by omega)
    · rw [nextP_hit_long hi hs] at h; injection h with _ h; injection h with _ h; cases h

theorem takeGo_more : ∀ (f : Nat) (T L : List Bs) (l : Bs), T.length = L.length → (takeGo f T L l).state = 1 →
    ∃ u, l = u ++ (takeGo f T L l).rest ∧ (∀ x, takeGo f T L (u ++ x) = { takeGo f T L l with rest := x }) ∧ (takeGo f T L l).texts.length = (takeGo f T L l).lits.length + 1 ∧ (takeGo f T L l).n = (takeGo f T L l).lits.length
  | 0, T, L, l, _, h => by simp [takeGo] at h
  | f + 1, T, L, l, hTL, h => by
    rcases hnx : nextP l with ⟨ln, rest, st⟩
    by_cases hst : st = 1
    · subst hst
      obtain ⟨e, hx⟩ := nextP_form hnx
      rcases hlit : litP ln with _ | ⟨n, a⟩
      · rw [takeGo_plain hnx hlit] at h ⊢
        refine ⟨ln ++ [13, 10], by rw [e]; simp, fun x => ?_, by simp [hTL], rfl⟩
        rw [show ln ++ [13, 10] ++ x = ln ++ 13 :: 10 :: x by simp, takeGo_plain (hx x) hlit]
      · by_cases hg : 700 < n ∨ 3 < L.length
        · rw [takeGo_great hnx hlit hg] at h; simp at h
        · by_cases hr : (rest.length : Int) < n
          · rw [takeGo_short hnx hlit hg hr] at h; simp at h
          · rw [takeGo_go hnx hlit hg hr] at h ⊢
            obtain ⟨u, h1, h2, h3, h4⟩ := takeGo_more f (T ++ [ln.take a]) (L ++ [rest.take n.toNat]) (rest.drop n.toNat) (by simp [hTL]) h
            have hn := numP_lit hlit
            have hnl : n.toNat ≤ rest.length := by omega
            refine ⟨ln ++ 13 :: 10 :: (rest.take n.toNat ++ u), ?_, fun x => ?_, h3, h4⟩
            · rw [List.append_assoc, List.cons_append, List.cons_append, List.append_assoc, ← h1, List.take_append_drop]; exact e
            · have e1 : ln ++ 13 :: 10 :: (rest.take n.toNat ++ u) ++ x = ln ++ 13 :: 10 :: (rest.take n.toNat ++ (u ++ x)) := by simp
              have hlen : (rest.take n.toNat).length = n.toNat := by rw [List.length_take]; omega
              have ht : (rest.take n.toNat ++ (u ++ x)).take n.toNat = rest.take n.toNat := by
                rw [List.take_append_of_le_length (by omega), List.take_of_length_le (by omega)]
              have hd : (rest.take n.toNat ++ (u ++ x)).drop n.toNat = u ++ x := by
                rw [List.drop_append_of_le_length (by omega), List.drop_of_length_le (by omega)]; rfl
              rw [e1, takeGo_go (hx _) hlit hg (by rw [List.length_append, hlen]; omega), ht, hd, h2]
    · rw [takeGo_stop hnx hst] at h; exact absurd h hst

theorem takeP_more {l : Bs} (h : (takeP l).state = 1) : (takeP l).rest.length ≤ l.length ∧ (takeP l).texts.length = (takeP l).lits.length + 1 ∧ (takeP l).n = (takeP l).lits.length ∧
    (∀ x, takeP (l ++ x) = { takeP l with rest := (takeP l).rest ++ x }) ∧ takeP (l.take (l.length - (takeP l).rest.length)) = { takeP l with rest := [] } := by
  obtain ⟨u, h1, h2, h3, h4⟩ := takeGo_more 5 [] [] l rfl h
  have hl : l.length = u.length + (takeP l).rest.length := by
    have := congrArg List.length h1
    rw [List.length_append] at this
    exact this
  refine ⟨by omega, h3, h4, fun x => ?_, ?_⟩
  · have e : l ++ x = u ++ ((takeP l).rest ++ x) := by rw [← List.append_assoc]; exact congrArg (· ++ x) h1
    rw [e]; exact h2 _
  · have e : l.take (l.length - (takeP l).rest.length) = u ++ [] := by
      rw [hl, Nat.add_sub_cancel, List.append_nil]
      exact (congrArg (List.take u.length) h1).trans (by simp)
    rw [e]; exact h2 _

theorem takeGo_none : ∀ (f : Nat) (T L : List Bs) (l : Bs), (takeGo f T L l).state ≠ 1 → (takeGo f T L l).texts = [] ∧ (takeGo f T L l).lits = []
  | 0, T, L, l, _ => by simp [takeGo]
  | f + 1, T, L, l, h => by
    rcases hnx : nextP l with ⟨ln, rest, st⟩
    by_cases hst : st = 1
    · subst hst
      rcases hlit : litP ln with _ | ⟨n, a⟩
      · rw [takeGo_plain hnx hlit] at h; exact absurd rfl h
      · by_cases hg : 700 < n ∨ 3 < L.length
        · rw [takeGo_great hnx hlit hg]; simp
        · by_cases hr : (rest.length : Int) < n
          · rw [takeGo_short hnx hlit hg hr]; simp
          · rw [takeGo_go hnx hlit hg hr] at h ⊢
            exact takeGo_none f _ _ _ h
    · rw [takeGo_stop hnx hst]; simp
theorem takeP_none {l : Bs} (h : (takeP l).state ≠ 1) : (takeP l).texts = [] ∧ (takeP l).lits = [] := takeGo_none 5 [] [] l h

theorem takeP_line {ln x : Bs} (h13 : ∀ c ∈ ln, c ≠ 13) (hl : ln.length ≤ 512) (hlit : litP ln = none) : takeP (ln ++ 13 :: 10 :: x) = ⟨[ln], [], x, 1, 0⟩ := by
  have hn : nextP (ln ++ 13 :: 10 :: x) = (ln, x, 1) := nextP_app (fun j hj => by
    rw [occ_crlf, List.getElem?_append_left hj, List.getElem?_eq_getElem hj]
    have := h13 _ (List.getElem_mem hj)
    simp [this]) hl
  exact takeGo_plain hn hlit
end Mailsack

/- Plain definitions: the tokens of a text (layer 21; no program). No conditions but those stated. -/
import Derived.Test.YtiapdhllphcnnaaGreatDoorVerbPlain
namespace Mailsack
abbrev Tok := Nat × Bs
/-- a token more, unless there are too many already -/
def addP (T : List Tok) (t : Tok) : List Tok := if T.length ≤ 40 then T ++ [t] else T
theorem addP_len {T : List Tok} {t : Tok} (h : T.length ≤ 41) : (addP T t).length ≤ 41 := by
  unfold addP; split
  · simp; omega
  · exact h
/-- a quoted text behind its first quote: what it says, and how many bytes stand behind it -/
def unqA : Bs → Bs → Option (Bs × Nat)
  | _, [] => none
  | acc, c :: r => if c = 34 then some (acc, r.length) else if c = 92 then
      match r with
      | [] => none
      | d :: r' => if d = 92 ∨ d = 34 then unqA (acc ++ [d]) r' else none
    else unqA (acc ++ [c]) r
def scanF : Nat → Bs → List Tok → Nat → Option (List Tok × Nat)
  | _, [], T, d => some (T, d)
  | 0, _ :: _, _, _ => none
  | f + 1, c :: r, T, d =>
    if c = 32 then scanF f r T d
    else if c = 40 then scanF f r (addP T (2, [])) (d + 1)
    else if c = 41 then (if d = 0 then none else scanF f r (addP T (3, [])) (d - 1))
    else if c = 34 then (match unqA [] r with
      | none => none
      | some (q, n) => scanF f (r.drop (r.length - n)) (addP T (1, q)) d)
    else scanF f ((c :: r).drop (wordLen (c :: r))) (addP T (0, (c :: r).take (wordLen (c :: r)))) d
def tokRun (lits : List Bs) : Nat → List Bs → List Tok → Nat → Option (List Tok × Nat)
  | _, [], T, d => some (T, d)
  | i, t :: ts, T, d =>
    if plainP t = true then
      match scanF t.length t (if 0 < i then addP T (1, lits.getD (i - 1) []) else T) d with
      | none => none
      | some (T2, d2) => tokRun lits (i + 1) ts T2 d2
    else none
def tokensP (texts lits : List Bs) : Option (List Tok) :=
  if texts.length = lits.length + 1 then
    match tokRun lits 0 texts [] 0 with
    | none => none
    | some (T, d) => if d = 0 ∧ T.length ≤ 40 then some T else none
  else none
theorem unqA_le : ∀ (l acc q : Bs) (n : Nat), unqA acc l = some (q, n) → n < l.length := by
  intro l
  induction hl : l.length using Nat.strongRecOn generalizing l with
  | ind m ih =>
    intro acc q n h
    cases l with
    | nil => simp [unqA] at h
    | cons c r =>
      unfold unqA at h
      simp only [List.length_cons] at hl
      split at h
      · simp at h; omega
      · split at h
        · cases r with
          | nil => simp at h
          | cons d r' =>
            simp only at h
            split at h
            · simp only [List.length_cons] at hl
              have := ih r'.length (by omega) r' rfl _ _ _ h
              omega
            · cases h
        · have := ih r.length (by omega) r rfl _ _ _ h
          omega
theorem wordLen_pos {c : UInt8} {r : Bs} (h : specialB c = false) : 0 < wordLen (c :: r) := by
  unfold wordLen
  rw [List.takeWhile_cons, if_pos (by rw [h]; rfl)]
  simp
end Mailsack

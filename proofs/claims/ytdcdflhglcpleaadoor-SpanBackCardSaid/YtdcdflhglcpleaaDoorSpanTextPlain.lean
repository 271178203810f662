/- Plain definitions and laws (no program) of layer 14: the text of numbers. No conditions but those stated. -/
import Derived.Test.YtdcdflhglcpleaaDoorSpanPlain
import Derived.Lib.ItoaNum
namespace Mailsack

def fol (x y : Int) : Bool := decide (1 ≤ x ∧ x < y ∧ y - 1 = x)
def runLen (x : Int) : List Int → Nat
  | [] => 0
  | y :: r => if fol x y = true then runLen y r + 1 else 0
theorem runLen_le : ∀ (x : Int) (r : List Int), runLen x r ≤ r.length
  | _, [] => Nat.le_refl _
  | x, y :: r => by
    unfold runLen
    split
    · have := runLen_le y r; simp; exact this
    · simp
/-- one part of the text -/
def partT (x : Int) (k : Nat) : Bs := Go.Lib.itoa x ++ if k = 0 then [] else 58 :: Go.Lib.itoa (x + k)
def textR : Nat → Bool → List Int → Bs
  | 0, _, _ => []
  | _ + 1, _, [] => []
  | n + 1, first, x :: r => (if first then [] else [44]) ++ partT x (runLen x r) ++ textR n false (r.drop (runLen x r))
def textS (l : List Int) : Bs := textR l.length true l
theorem textR_fuel : ∀ (n m : Nat) (f : Bool) (l : List Int), l.length ≤ n → l.length ≤ m → textR n f l = textR m f l
  | 0, m, f, [], _, _ => by cases m <;> rfl
  | n + 1, 0, f, [], _, _ => rfl
  | n + 1, m + 1, f, [], _, _ => rfl
  | n + 1, m + 1, f, x :: r, h1, h2 => by
    unfold textR
    rw [textR_fuel n m false (r.drop (runLen x r)) (by simp at h1 ⊢; omega) (by simp at h2 ⊢; omega)]
  | 0, m, f, x :: r, h1, _ => by simp at h1
  | n + 1, 0, f, x :: r, _, h2 => by simp at h2

/-- where a run ends -/
theorem run_exit : ∀ (k : Nat) (x : Int) (r : List Int), (∀ j a b, j < k → (x :: r)[j]? = some a → (x :: r)[j + 1]? = some b → fol a b = true) → k ≤ r.length →
    (k = r.length ∨ ∃ a b, (x :: r)[k]? = some a ∧ (x :: r)[k + 1]? = some b ∧ fol a b = false) → runLen x r = k
  | 0, x, [], _, _, _ => rfl
  | 0, x, y :: r, _, _, he => by
    rcases he with h | ⟨a, b, h1, h2, h3⟩
    · simp at h
    · simp at h1 h2; subst h1 h2; unfold runLen; rw [h3]; rfl
  | k + 1, x, [], _, hk, _ => by simp at hk
  | k + 1, x, y :: r, hf, hk, he => by
    have h0 : fol x y = true := hf 0 x y (by omega) rfl rfl
    unfold runLen
    rw [if_pos h0, run_exit k y r (fun j a b hj h1 h2 => hf (j + 1) a b (by omega) (by simpa using h1) (by simpa using h2)) (by simpa using hk) (by
      rcases he with h | ⟨a, b, h1, h2, h3⟩
      · left; simpa using h
      · right; exact ⟨a, b, by simpa using h1, by simpa using h2, h3⟩)]
theorem fol_iff {x y : Int} : fol x y = true ↔ 1 ≤ x ∧ y = x + 1 := by
  unfold fol; rw [decide_eq_true_iff]; omega
theorem run_last : ∀ (x : Int) (r : List Int), (x :: r)[runLen x r]? = some (x + runLen x r)
  | x, [] => by simp [runLen]
  | x, y :: r => by
    unfold runLen
    split
    · rename_i h
      have h2 := fol_iff.1 h
      have := run_last y r
      rw [List.getElem?_cons_succ, this, h2.2]
      congr 1; push_cast; omega
    · simp
end Mailsack

/- Plain definitions and laws about the fields of a head (layer 19; no program). No conditions but those stated. -/
import Derived.Test.YtkgngahmpafdhaaGreatDoorPartPlain
import Derived.Lib.Join
import Derived.Lib.SlTrimSet
namespace Mailsack
open Go.Lib (index occAt count splitK cut)

def isCont : Bs → Bool
  | [] => false
  | c :: _ => c == 32 || c == 9
def fieldsF : Nat → List Bs → List (Bs × Bs)
  | 0, _ => []
  | _ + 1, [] => []
  | n + 1, f :: r => if (cut f [58]).2.2 = false ∨ isCont f = true then fieldsF n r
    else ((cut f [58]).1, Go.Lib.trimS (Go.Lib.join ((cut f [58]).2.1 :: r.takeWhile isCont) []) [32, 9]) :: fieldsF n (r.dropWhile isCont)
theorem dropWhile_len {α : Type} (p : α → Bool) (l : List α) : (l.dropWhile p).length ≤ l.length := (List.dropWhile_sublist p).length_le
theorem fieldsF_fuel : ∀ (n m : Nat) (l : List Bs), l.length ≤ n → l.length ≤ m → fieldsF n l = fieldsF m l
  | 0, 0, _, _, _ => rfl
  | 0, m + 1, [], _, _ => rfl
  | n + 1, 0, [], _, _ => rfl
  | _ + 1, _ + 1, [], _, _ => rfl
  | 0, _ + 1, _ :: _, h, _ => by simp at h
  | _ + 1, 0, _ :: _, _, h => by simp at h
  | n + 1, m + 1, f :: r, h1, h2 => by
    have h1' : r.length ≤ n := by simpa using h1
    have h2' : r.length ≤ m := by simpa using h2
    have hd := dropWhile_len isCont r
    unfold fieldsF
    rw [fieldsF_fuel n m r h1' h2', fieldsF_fuel n m (r.dropWhile isCont) (by omega) (by omega)]
/-- the fields of lines -/
def fieldsP (l : List Bs) : List (Bs × Bs) := fieldsF l.length l
theorem fieldsP_nil : fieldsP [] = [] := rfl
theorem fieldsP_skip {f : Bs} {r : List Bs} (h : (cut f [58]).2.2 = false ∨ isCont f = true) : fieldsP (f :: r) = fieldsP r := by
  show fieldsF (r.length + 1) (f :: r) = _
  unfold fieldsF
  rw [if_pos h]
  rfl
theorem fieldsP_take {f : Bs} {r : List Bs} (h1 : (cut f [58]).2.2 = true) (h2 : isCont f = false) :
    fieldsP (f :: r) = ((cut f [58]).1, Go.Lib.trimS (Go.Lib.join ((cut f [58]).2.1 :: r.takeWhile isCont) []) [32, 9]) :: fieldsP (r.dropWhile isCont) := by
  show fieldsF (r.length + 1) (f :: r) = _
  unfold fieldsF
  rw [if_neg (by rw [h1, h2]; simp), fieldsF_fuel r.length (r.dropWhile isCont).length _ (dropWhile_len _ _) (Nat.le_refl _)]
  rfl
theorem fieldsP_len : ∀ (n : Nat) (l : List Bs), l.length ≤ n → (fieldsP l).length ≤ l.length
  | _, [], _ => Nat.le_refl _
  | 0, _ :: _, h => by simp at h
  | n + 1, f :: r, h => by
    have h' : r.length ≤ n := by simpa using h
    by_cases hc : (cut f [58]).2.2 = false ∨ isCont f = true
    · rw [fieldsP_skip hc]
      have := fieldsP_len n r h'
      simp; omega
    · have hc' : (cut f [58]).2.2 = true ∧ isCont f = false := by
        constructor
        · cases hx : (cut f [58]).2.2 with
          | true => rfl
          | false => exact absurd (.inl hx) hc
        · cases hx : isCont f with
          | false => rfl
          | true => exact absurd (.inr hx) hc
      rw [fieldsP_take hc'.1 hc'.2]
      have h2 := dropWhile_len isCont r
      have := fieldsP_len n (r.dropWhile isCont) (by omega)
      simp; omega
/-- the field of a name -/
def fieldP (F : List (Bs × Bs)) (name : Bs) : Bs × Bool := match F.find? (fun p => decide (upP p.1 = upP name)) with
  | some p => (p.2, true)
  | none => ([], false)
theorem splitK_each {sep : Bs} {save : Nat} : ∀ (k : Nat) (s : Bs), ∀ x ∈ splitK sep save k s, x.length ≤ s.length
  | 0, s, x, hx => by simp [splitK] at hx; rw [hx]; exact Nat.le_refl _
  | k + 1, s, x, hx => by
    unfold splitK at hx
    split at hx
    · simp at hx; rw [hx]; exact Nat.le_refl _
    · rcases List.mem_cons.1 hx with hx | hx
      · rw [hx, List.length_take]; omega
      · have := splitK_each k _ x hx
        rw [List.length_drop] at this; omega
theorem join_flat (xs : List Bs) : Go.Lib.join xs [] = xs.flatten := by
  unfold Go.Lib.join
  induction xs with
  | nil => rfl
  | cons x r ih =>
    cases r with
    | nil => simp [List.intercalate]
    | cons y r => simp [List.intercalate] at ih ⊢; rw [← ih]
theorem flat_len (M : Nat) : ∀ (xs : List Bs), (∀ x ∈ xs, x.length ≤ M) → xs.flatten.length ≤ xs.length * M
  | [], _ => by simp
  | x :: r, h => by
    have h1 := flat_len M r (fun y hy => h y (by simp [hy]))
    have h2 := h x (by simp)
    rw [List.flatten_cons, List.length_append, List.length_cons, Nat.succ_mul]
    omega
theorem trimS_len (l cs : Bs) : (Go.Lib.trimS l cs).length ≤ l.length := by
  unfold Go.Lib.trimS Go.Lib.trimLeftS Go.Lib.trimRightS
  refine Nat.le_trans (dropWhile_len _ _) ?_
  rw [List.length_reverse]
  refine Nat.le_trans (dropWhile_len _ _) ?_
  rw [List.length_reverse]
  exact Nat.le_refl _
end Mailsack

/- The flags of a message, in plain Lean: how they are written and read. No program; no conditions but those stated. -/
import Derived.Test.YtiapdhllphcnnaaGreatDoorUpPlain
import Derived.Lib.Join
namespace Mailsack
/-- the flags' words -/
def fwL : List Bs := [[92, 83, 101, 101, 110], [92, 65, 110, 115, 119, 101, 114, 101, 100], [92, 70, 108, 97, 103, 103, 101, 100], [92, 68, 101, 108, 101, 116, 101, 100], [92, 68, 114, 97, 102, 116], [92, 82, 101, 99, 101, 110, 116]]
def fw (i : Nat) : Bs := fwL.getD i []
def flBit (n k : Nat) : Bool := n / 2 ^ k % 2 == 1
/-- the words of those of the first k flags that are there -/
def flW (n : Nat) : Nat → List Bs
  | 0 => []
  | k + 1 => if flBit n k then flW n k ++ [fw k] else flW n k
def flagsP (n : Int) : Bs := if n < 0 ∨ 63 < n then [] else Go.Lib.join (flW n.toNat 6) [32]
/-- the document's way: what is written behind k rounds -/
def flS (n : Nat) : Nat → Bs
  | 0 => []
  | k + 1 => if flBit n k then (if (flS n k).length = 0 then flS n k ++ fw k else flS n k ++ [32] ++ fw k) else flS n k
theorem flS_eq : ∀ n : Fin 64, flS n 6 = Go.Lib.join (flW n 6) [32] := by decide +kernel
theorem flW_len (n : Nat) : ∀ k, (flW n k).length ≤ k
  | 0 => Nat.le_refl _
  | k + 1 => by
    have := flW_len n k
    unfold flW
    split
    · simp; omega
    · omega
/-- does a text name the flag k? -/
def eqF (s : Bs) (k : Nat) : Bool := upP s == upP (fw k)
theorem fw_apart : ∀ j : Fin 6, ∀ k : Fin 6, upP (fw j) = upP (fw k) → j = k := by decide +kernel
theorem eqF_one {s : Bs} {j k : Nat} (hj : j < 6) (hk : k < 6) (h1 : eqF s j = true) (h2 : eqF s k = true) : j = k := by
  unfold eqF at h1 h2
  have h3 := (beq_iff_eq.1 h1).symm.trans (beq_iff_eq.1 h2)
  have := fw_apart ⟨j, hj⟩ ⟨k, hk⟩ h3
  exact congrArg Fin.val this
/-- the flag that is named, from the first k on: 0 if none is -/
def flagFrom (s : Bs) (k : Nat) : Nat := (if eqF s k && decide (k < 5) then 2 ^ k else 0)
def flagOfP (s : Bs) : Nat :=
  if eqF s 0 then 1 else if eqF s 1 then 2 else if eqF s 2 then 4 else if eqF s 3 then 8 else if eqF s 4 then 16 else 0
theorem flagOfP_hit {s : Bs} {k : Nat} (hk : k < 5) (h : eqF s k = true) : flagOfP s = 2 ^ k := by
  have hn : ∀ j, j < 6 → j ≠ k → eqF s j = false := fun j hj hne => by
    cases hc : eqF s j with
    | false => rfl
    | true => exact absurd (eqF_one hj (by omega) hc h) hne
  unfold flagOfP
  have : k = 0 ∨ k = 1 ∨ k = 2 ∨ k = 3 ∨ k = 4 := by omega
  rcases this with rfl | rfl | rfl | rfl | rfl
  · simp [h]
  · simp [h, hn 0]
  · simp [h, hn 0, hn 1]
  · simp [h, hn 0, hn 1, hn 2]
  · simp [h, hn 0, hn 1, hn 2, hn 3]
theorem flagOfP_miss {s : Bs} (h : ∀ k, k < 5 → eqF s k = false) : flagOfP s = 0 := by
  simp [flagOfP, h 0, h 1, h 2, h 3, h 4]
theorem flagOfP_lt (s : Bs) : flagOfP s < 32 := by
  unfold flagOfP
  repeat' split
  all_goals decide
/-- the flags that texts are, behind those of a sum -/
def flagsOfP : List Bs → Nat → Option Nat
  | [], n => some n
  | s :: l, n => if flagOfP s = 0 then none else flagsOfP l (n ||| flagOfP s)
/-- the document's inner rounds -/
def refIn (s : Bs) (n : Nat) : Nat → Nat × Bool
  | 0 => (n, false)
  | k + 1 => if eqF s k then ((if (refIn s n k).1 / 2 ^ k % 2 = 0 then (refIn s n k).1 + 2 ^ k else (refIn s n k).1), true) else refIn s n k
theorem or_add : ∀ n : Fin 32, ∀ k : Fin 5, (if (n : Nat) / 2 ^ (k : Nat) % 2 = 0 then (n : Nat) + 2 ^ (k : Nat) else n) = n ||| 2 ^ (k : Nat) := by decide +kernel
theorem refIn_miss {s : Bs} {n : Nat} : ∀ k, (∀ j, j < k → eqF s j = false) → refIn s n k = (n, false)
  | 0, _ => rfl
  | k + 1, h => by
    unfold refIn
    rw [h k (by omega), if_neg (by simp)]
    exact refIn_miss k fun j hj => h j (by omega)
theorem refIn_hit {s : Bs} {n : Nat} (hn : n < 32) {j : Nat} (hj : j < 5) (h : eqF s j = true) : ∀ k, j < k → k ≤ 5 → refIn s n k = (n ||| 2 ^ j, true)
  | 0, h1, _ => by omega
  | k + 1, h1, h2 => by
    unfold refIn
    by_cases e : j = k
    · subst e
      rw [h, if_pos rfl, refIn_miss j (fun i hi => by
        cases hc : eqF s i with
        | false => rfl
        | true => have := eqF_one (by omega) (by omega) hc h; omega)]
      have := or_add ⟨n, hn⟩ ⟨j, hj⟩
      simp only at this ⊢
      rw [this]
    · have hf : eqF s k = false := by
        cases hc : eqF s k with
        | false => rfl
        | true => have := eqF_one (by omega) (by omega) h hc; omega
      rw [hf, if_neg (by simp)]
      exact refIn_hit hn hj h k (by omega) (by omega)
theorem refIn_eq {s : Bs} {n : Nat} (hn : n < 32) : refIn s n 5 = (n ||| flagOfP s, flagOfP s != 0) := by
  by_cases h : ∃ j, j < 5 ∧ eqF s j = true
  · obtain ⟨j, hj, he⟩ := h
    rw [refIn_hit hn hj he 5 hj (by omega), flagOfP_hit hj he]
    have : (2 ^ j != 0) = true := by
      have := Nat.pos_of_ne_zero (show 2 ^ j ≠ 0 by simp)
      simp
    rw [this]
  · have h' : ∀ j, j < 5 → eqF s j = false := fun j hj => by
      cases hc : eqF s j with
      | false => rfl
      | true => exact absurd ⟨j, hj, hc⟩ h
    rw [refIn_miss 5 h', flagOfP_miss h']
    simp
theorem or_lt : ∀ n : Fin 32, ∀ m : Fin 32, (n : Nat) ||| (m : Nat) < 32 := by decide +kernel
theorem or_flag_lt {n : Nat} (h : n < 32) (s : Bs) : n ||| flagOfP s < 32 := or_lt ⟨n, h⟩ ⟨flagOfP s, flagOfP_lt s⟩
end Mailsack

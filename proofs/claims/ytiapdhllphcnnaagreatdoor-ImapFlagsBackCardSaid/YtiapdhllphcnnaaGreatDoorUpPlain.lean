/- Plain definitions: a text in capitals. No conditions but those stated. -/
import Derived.Test.YtiapdhllphcnnaaGreatDoorLinesPlain
namespace Mailsack
/-- a byte of a to z as the one of A to Z -/
def up (c : UInt8) : UInt8 := if 97 ≤ c.toNat ∧ c.toNat ≤ 122 then UInt8.ofNat (c.toNat - 32) else c
def upP (l : Bs) : Bs := l.map up
theorem up_small {c : UInt8} (h1 : 97 ≤ c.toNat) (h2 : c.toNat ≤ 122) : (up c).toNat = c.toNat - 32 := by
  unfold up; rw [if_pos ⟨h1, h2⟩, UInt8.toNat_ofNat_of_lt' (show c.toNat - 32 < UInt8.size by have : UInt8.size = 256 := rfl; omega)]
theorem up_other {c : UInt8} (h : ¬ (97 ≤ c.toNat ∧ c.toNat ≤ 122)) : up c = c := by unfold up; rw [if_neg h]
theorem up_up (c : UInt8) : up (up c) = up c := by
  by_cases h : 97 ≤ c.toNat ∧ c.toNat ≤ 122
  · have := up_small h.1 h.2
    exact up_other (by omega)
  · rw [up_other h, up_other h]
theorem upP_length (l : Bs) : (upP l).length = l.length := by simp [upP]
theorem upP_upP (l : Bs) : upP (upP l) = upP l := by simp [upP, up_up]
theorem upP_append (a b : Bs) : upP (a ++ b) = upP a ++ upP b := by simp [upP]
/-- what stands in the bytes when the first k are done -/
def upTo (l : Bs) (k j : Nat) : UInt8 := if j < k then up (l.getD j 0) else l.getD j 0
theorem upTo_done (l : Bs) (j : Nat) (h : j < l.length) : (upP l)[j]'(by rw [upP_length]; exact h) = upTo l l.length j := by
  simp [upTo, upP, h, List.getD_eq_getElem?_getD]
theorem upTo_step {l : Bs} {k j : Nat} (h : j ≠ k) : upTo l (k + 1) j = upTo l k j := by
  unfold upTo
  by_cases h1 : j < k
  · rw [if_pos (by omega), if_pos h1]
  · rw [if_neg (by omega), if_neg h1]
theorem upTo_at (l : Bs) (k : Nat) : upTo l (k + 1) k = up (l.getD k 0) := by unfold upTo; rw [if_pos (by omega)]
theorem upTo_not (l : Bs) (k : Nat) : upTo l k k = l.getD k 0 := by unfold upTo; rw [if_neg (by omega)]
theorem upTo_keep {l : Bs} {k : Nat} (h : ¬ (97 ≤ (l.getD k 0).toNat ∧ (l.getD k 0).toNat ≤ 122)) (j : Nat) : upTo l (k + 1) j = upTo l k j := by
  by_cases e : j = k
  · subst e; rw [upTo_at, upTo_not, up_other h]
  · exact upTo_step e
end Mailsack

/- Plain definitions: a text in capitals. No conditions but those stated. -/
/- Plain definitions and laws about words and quoted texts (layer 21; no program). No conditions but those stated. -/
import Derived.Test.YtomnljigoljldaaGreatDoorLinesPlain
import Derived.Lib.IndexAny
import Derived.Lib.ItoaNum

namespace Mailsack
/-- a byte of a to z as the one of A to Z -/
def up (c : UInt8) : UInt8 := if 97 ≤ c.toNat ∧ c.toNat ≤ 122 then UInt8.ofNat (c.toNat - 32) else c
def upP (l : Bs) : Bs := l.map up
theorem up_small {c : UInt8} (h1 : 97 ≤ c.toNat) (h2 : c.toNat ≤ 122) : (up c).toNat = c.toNat - 32 := by
  unfold up; rw [if_pos ⟨h1, h2⟩, UInt8.toNat_ofNat_of_lt' (show c.toNat - 32 < UInt8.size by have : UInt8.size = 256 := rfl; omega)]
theorem up_other {c : UInt8} (h : ¬ (97 ≤ c.toNat ∧ c.toNat ≤ 122)) : up c = c := by unfold up; rw [if_neg h]
theorem up_up (c : UInt8) : up (up c) = up c := by
  by_cases h : 97 ≤ c.toNat ∧ c.toNat ≤ 122
  · have := up_small h.1 h.2
    exact up_other (by omega)
  · rw [up_other h, up_other h]
theorem upP_length (l : Bs) : (upP l).length = l.length := by simp [upP]
theorem upP_upP (l : Bs) : upP (upP l) = upP l := by simp [upP, up_up]
theorem upP_append (a b : Bs) : upP (a ++ b) = upP a ++ upP b := by simp [upP]
/-- what stands in the bytes when the first k are done -/
def upTo (l : Bs) (k j : Nat) : UInt8 := if j < k then up (l.getD j 0) else l.getD j 0
theorem upTo_done (l : Bs) (j : Nat) (h : j < l.length) : (upP l)[j]'(by rw [upP_length]; exact h) = upTo l l.length j := by
  simp [upTo, upP, h, List.getD_eq_getElem?_getD]
theorem upTo_step {l : Bs} {k j : Nat} (h : j ≠ k) : upTo l (k + 1) j = upTo l k j := by
  unfold upTo
  by_cases h1 : j < k
  · rw [if_pos (by omega), if_pos h1]
  · rw [if_neg (by omega), if_neg h1]
theorem upTo_at (l : Bs) (k : Nat) : upTo l (k + 1) k = up (l.getD k 0) := by unfold upTo; rw [if_pos (by omega)]
theorem upTo_not (l : Bs) (k : Nat) : upTo l k k = l.getD k 0 := by unfold upTo; rw [if_neg (by omega)]
theorem upTo_keep {l : Bs} {k : Nat} (h : ¬ (97 ≤ (l.getD k 0).toNat ∧ (l.getD k 0).toNat ≤ 122)) (j : Nat) : upTo l (k + 1) j = upTo l k j := by
  by_cases e : j = k
  · subst e; rw [upTo_at, upTo_not, up_other h]
  · exact upTo_step e
end Mailsack


namespace Mailsack

def plainB (c : UInt8) : Bool := decide (32 ≤ c.toNat) && decide (c.toNat ≤ 126)
def plainP (l : Bs) : Bool := l.all plainB
def specialB (c : UInt8) : Bool := c == 32 || c == 40 || c == 41 || c == 34
def escB (c : UInt8) : Bs := if c = 92 ∨ c = 34 then [92, c] else [c]
def escP (l : Bs) : Bs := l.flatMap escB
def isWord (l : Bs) : Bool := decide (0 < l.length) && l.all (fun c => !specialB c)
def quoteP (l : Bs) : Bs :=
  if plainP l = false then [123] ++ Go.Lib.decDigits l.length ++ [125, 13, 10] ++ l
  else if isWord l = true then l else [34] ++ escP l ++ [34]
theorem escP_len (l : Bs) : (escP l).length ≤ 2 * l.length := by
  unfold escP
  induction l with
  | nil => simp
  | cons c r ih =>
    rw [List.flatMap_cons, List.length_append, List.length_cons]
    have : (escB c).length ≤ 2 := by unfold escB; split <;> simp
    omega
theorem escP_snoc (l : Bs) (c : UInt8) : escP (l ++ [c]) = escP l ++ escB c := by simp [escP]
theorem contains_special (c : UInt8) : List.contains [32, 40, 41, 34] c = specialB c := by
  unfold specialB
  show List.elem c [32, 40, 41, 34] = _
  simp only [List.elem]
  cases c == 32 <;> cases c == 40 <;> cases c == 41 <;> cases c == 34 <;> rfl
/-- the length of the word that begins a text -/
def wordLen (l : Bs) : Nat := (l.takeWhile (fun c => !specialB c)).length
theorem wordLen_le (l : Bs) : wordLen l ≤ l.length := (List.takeWhile_sublist _).length_le
theorem indexAny_word : ∀ l : Bs, Go.Lib.indexAny l [32, 40, 41, 34] = if wordLen l = l.length then -1 else (wordLen l : Int)
  | [] => rfl
  | b :: l => by
    unfold Go.Lib.indexAny wordLen
    rw [contains_special, List.takeWhile_cons]
    have ih := indexAny_word l
    unfold wordLen at ih
    have hle := wordLen_le l
    unfold wordLen at hle
    cases hb : specialB b
    · simp only [Bool.false_eq_true, if_false, Bool.not_false, if_true, List.length_cons]
      rw [ih]
      by_cases h : (l.takeWhile fun c => !specialB c).length = l.length
      · simp [h]
      · have h2 : ¬ (((l.takeWhile fun c => !specialB c).length : Int) == -1) = true := by simp
        have h3 : ¬ (l.takeWhile fun c => !specialB c).length + 1 = l.length + 1 := by omega
        rw [if_neg h, if_neg h2, if_neg h3]
        rfl
    · simp
theorem wordLen_all (l : Bs) : (wordLen l = l.length) ↔ l.all (fun c => !specialB c) = true := by
  unfold wordLen
  constructor
  · intro h
    have := (List.takeWhile_prefix (fun c => !specialB c) (l := l)).eq_of_length h
    rw [← this]
    exact List.all_takeWhile
  · intro h
    induction l with
    | nil => rfl
    | cons b l ih =>
      rw [List.all_cons, Bool.and_eq_true] at h
      rw [List.takeWhile_cons, if_pos h.1, List.length_cons, List.length_cons, ih h.2]
end Mailsack

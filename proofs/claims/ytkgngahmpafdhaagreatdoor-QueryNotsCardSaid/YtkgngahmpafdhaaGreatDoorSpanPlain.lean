/- Plain definitions and laws about sets of numbers (layer 14; no program). No conditions but those stated. -/
import Derived.Test.YtkgngahmpafdhaaGreatDoorSplitPlain
import Derived.Test.YtkgngahmpafdhaaGreatDoorLinesLitPlain
namespace Mailsack

/-- what span.number answers -/
def numS (s : Bs) : Int × Bool :=
  if s = [42] then (0, true)
  else if s.length = 0 ∨ 10 < s.length ∨ s[0]? = some 48 ∨ s.all isDig = false ∨ 4294967295 < numP s then (0, false)
  else (numP s, true)
theorem numS_star : numS [42] = (0, true) := rfl
theorem numS_no {s : Bs} (h1 : s ≠ [42]) (h : s.length = 0 ∨ 10 < s.length ∨ s[0]? = some 48 ∨ s.all isDig = false ∨ 4294967295 < numP s) : numS s = (0, false) := by
  unfold numS; rw [if_neg h1, if_pos h]
theorem numS_yes {s : Bs} (h1 : s ≠ [42]) (h2 : s.length ≠ 0) (h3 : s.length ≤ 10) (h4 : s[0]? ≠ some 48) (h5 : s.all isDig = true) (h6 : numP s ≤ 4294967295) : numS s = (numP s, true) := by
  unfold numS; rw [if_neg h1, if_neg]
  rintro (h | h | h | h | h)
  · exact h2 h
  · omega
  · exact h4 h
  · rw [h5] at h; cases h
  · omega
theorem numS_range (s : Bs) : 0 ≤ (numS s).1 ∧ (numS s).1 ≤ 4294967295 := by
  unfold numS
  split
  · decide
  · split
    · decide
    · rename_i h
      have hd : ∀ c ∈ s, isDig c = true := by
        have : s.all isDig = true := by
          cases e : s.all isDig with
          | true => rfl
          | false => exact absurd (.inr (.inr (.inr (.inl e)))) h
        exact List.all_eq_true.1 this
      refine ⟨(numP_bound hd).1, ?_⟩
      have : ¬ 4294967295 < numP s := fun e => h (.inr (.inr (.inr (.inr e))))
      show numP s ≤ _
      omega
theorem numP_ten {ds : Bs} (h : ∀ c ∈ ds, isDig c = true) (hl : ds.length ≤ 10) : 0 ≤ numP ds ∧ numP ds < 10000000000 := by
  have h1 := numP_bound h
  have h2 : ((10 ^ ds.length : Nat) : Int) ≤ ((10 ^ 10 : Nat) : Int) := Int.ofNat_le.2 (Nat.pow_le_pow_right (by decide) hl)
  have h3 : ((10 ^ ds.length : Nat) : Int) = (10 : Int) ^ ds.length := by rw [Int.natCast_pow]; rfl
  rw [h3] at h2
  have h4 : ((10 ^ 10 : Nat) : Int) = 10000000000 := by decide
  omega

/-- the two texts of a part -/
def ends (p : Bs) : Bs × Bs := if 0 ≤ Go.Lib.index p [58] then (p.take (Go.Lib.index p [58]).toNat, p.drop ((Go.Lib.index p [58]).toNat + 1)) else (p, p)
def partOK (p : Bs) : Bool := (numS (ends p).1).2 && (numS (ends p).2).2
def partV (p : Bs) : Int × Int := ((numS (ends p).1).1, (numS (ends p).2).1)
def parseS (s : Bs) : Option (List (Int × Int)) := if (splitC 44 s).all partOK = true then some ((splitC 44 s).map partV) else none

def endG (g x : Int) : Int := if x = 0 then g else x
def hasR (n g : Int) (r : Int × Int) : Bool := decide (min (endG g r.1) (endG g r.2) ≤ n ∧ n ≤ max (endG g r.1) (endG g r.2))
def hasS (l : List (Int × Int)) (n g : Int) : Bool := l.any (hasR n g)
def lastI (l : List Int) : Int := l.getLastD 0
def pickS (l : List (Int × Int)) (ns : List Int) : List Int := ns.filter fun n => hasS l n (lastI ns)
end Mailsack

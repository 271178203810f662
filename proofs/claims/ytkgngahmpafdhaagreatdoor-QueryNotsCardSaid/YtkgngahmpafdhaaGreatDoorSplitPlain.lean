/- Plain definitions and laws (no program): a text split at a byte. No conditions but those stated. -/
import Derived.Test.YtkgngahmpafdhaaGreatDoorLinesPlain
import Derived.Lib.IndexLaws
namespace Mailsack

def splitC (c : UInt8) : Bs → List Bs
  | [] => [[]]
  | x :: r => if x = c then [] :: splitC c r else match splitC c r with
    | [] => [[x]]
    | h :: t => (x :: h) :: t
theorem splitC_ne (c : UInt8) : ∀ l : Bs, splitC c l ≠ []
  | [] => by simp [splitC]
  | x :: r => by
    unfold splitC
    split
    · simp
    · split <;> simp
theorem splitC_none {c : UInt8} : ∀ {l : Bs}, c ∉ l → splitC c l = [l]
  | [], _ => rfl
  | x :: r, h => by
    rw [splitC, if_neg (fun e => h (by rw [e]; simp)), splitC_none (fun hr => h (List.mem_cons_of_mem _ hr))]
theorem splitC_hit {c : UInt8} : ∀ {a b : Bs}, c ∉ a → splitC c (a ++ c :: b) = a :: splitC c b
  | [], b, _ => by simp [splitC]
  | x :: a, b, h => by
    rw [List.cons_append, splitC, if_neg (fun e => h (by rw [e]; simp)), splitC_hit (fun hr => h (List.mem_cons_of_mem _ hr))]
theorem splitC_len (c : UInt8) : ∀ l : Bs, (splitC c l).length ≤ l.length + 1
  | [] => by simp [splitC]
  | x :: r => by
    have ih := splitC_len c r
    unfold splitC
    split
    · simp; omega
    · split
      · simp
      · rename_i h t e; rw [e] at ih; simp at ih ⊢; omega
theorem splitC_mem_len (c : UInt8) : ∀ (l : Bs), ∀ p ∈ splitC c l, p.length ≤ l.length
  | [], p, h => by simp [splitC] at h; simp [h]
  | x :: r, p, h => by
    have ih := splitC_mem_len c r
    unfold splitC at h
    split at h
    · rcases List.mem_cons.1 h with rfl | h
      · simp
      · have := ih p h; simp; omega
    · split at h
      · rw [List.mem_singleton.1 h]; simp
      · rename_i a t e
        rw [e] at ih
        rcases List.mem_cons.1 h with rfl | h
        · have := ih a (by simp); simp; omega
        · have := ih p (by simp [h]); simp; omega
/-- the byte's first place, and the two pieces -/
theorem idx_cases (l : Bs) (c : UInt8) : (Go.Lib.indexByte l c = -1 ∧ c ∉ l) ∨ ∃ i : Nat, Go.Lib.indexByte l c = i ∧ i < l.length ∧ c ∉ l.take i ∧ l = l.take i ++ c :: l.drop (i + 1) := by
  have hge := Go.Lib.indexByte_ge l c
  rcases Int.lt_or_le (Go.Lib.indexByte l c) 0 with h | h
  · left
    have e : Go.Lib.indexByte l c = -1 := by omega
    refine ⟨e, fun hm => ?_⟩
    obtain ⟨k, hk⟩ := List.mem_iff_getElem?.1 hm
    exact Go.Lib.indexByte_none e k hk
  · right
    obtain ⟨i, hi⟩ : ∃ i : Nat, Go.Lib.indexByte l c = i := ⟨_, (Int.toNat_of_nonneg h).symm⟩
    obtain ⟨h1, h2⟩ := Go.Lib.indexByte_some hi
    obtain ⟨hlt, hg⟩ := List.getElem?_eq_some_iff.1 h1
    refine ⟨i, hi, hlt, fun hm => ?_, ?_⟩
    · obtain ⟨k, hk⟩ := List.mem_iff_getElem?.1 hm
      rw [List.getElem?_take] at hk
      split at hk
      · rename_i hki; exact h2 k hki hk
      · cases hk
    · rw [← hg, List.getElem_cons_drop, List.take_append_drop]
end Mailsack

/- Plain definitions and laws about the parts of a message (layer 19; no program). No conditions but those stated. -/
import Derived.Test.YtkgngahmpafdhaaGreatDoorUpPlain
import Derived.Lib.IndexLaws
import Derived.Lib.IndexMore
import Derived.Lib.SplitLaws
namespace Mailsack
open Go.Lib (index occAt count NoOcc)

/-- a byte of A to Z as the one of a to z -/
def low (c : UInt8) : UInt8 := if 65 ≤ c.toNat ∧ c.toNat ≤ 90 then UInt8.ofNat (c.toNat + 32) else c
def lowP (l : Bs) : Bs := l.map low
theorem low_cap {c : UInt8} (h1 : 65 ≤ c.toNat) (h2 : c.toNat ≤ 90) : (low c).toNat = c.toNat + 32 := by
  unfold low; rw [if_pos ⟨h1, h2⟩, UInt8.toNat_ofNat_of_lt' (show c.toNat + 32 < UInt8.size by have : UInt8.size = 256 := rfl; omega)]
theorem low_other {c : UInt8} (h : ¬ (65 ≤ c.toNat ∧ c.toNat ≤ 90)) : low c = c := by unfold low; rw [if_neg h]
theorem up_low (c : UInt8) : up (low c) = up c := by
  by_cases h : 65 ≤ c.toNat ∧ c.toNat ≤ 90
  · have h1 := low_cap h.1 h.2
    apply UInt8.toNat_inj.1
    rw [up_small (by omega) (by omega), up_other (by omega), h1]
    omega
  · rw [low_other h]
theorem low_up (c : UInt8) : low (up c) = low c := by
  by_cases h : 97 ≤ c.toNat ∧ c.toNat ≤ 122
  · have h1 := up_small h.1 h.2
    apply UInt8.toNat_inj.1
    rw [low_cap (by omega) (by omega), low_other (by omega), h1]
    omega
  · rw [up_other h]
theorem up_low_iff (c d : UInt8) : up c = up d ↔ low c = low d :=
  ⟨fun h => by rw [← low_up c, ← low_up d, h], fun h => by rw [← up_low c, ← up_low d, h]⟩
theorem lowP_length (l : Bs) : (lowP l).length = l.length := by simp [lowP]
theorem upP_lowP (l : Bs) : upP (lowP l) = upP l := by
  unfold upP lowP; rw [List.map_map]; exact List.map_congr_left fun c _ => up_low c
theorem upP_eq_iff (a b : Bs) : upP a = upP b ↔ lowP a = lowP b := by
  constructor
  · intro h
    have e : ∀ l : Bs, lowP (upP l) = lowP l := fun l => by unfold upP lowP; rw [List.map_map]; exact List.map_congr_left fun c _ => low_up c
    rw [← e a, ← e b, h]
  · intro h; rw [← upP_lowP a, ← upP_lowP b, h]
theorem occ_up_low : ∀ (s t : Bs), (upP t).isPrefixOf (upP s) = (lowP t).isPrefixOf (lowP s)
  | _, [] => rfl
  | [], _ :: _ => rfl
  | a :: s, b :: t => by
    show (up b == up a && (upP t).isPrefixOf (upP s)) = (low b == low a && (lowP t).isPrefixOf (lowP s))
    rw [occ_up_low s t]
    congr 1
    rw [Bool.eq_iff_iff, beq_iff_eq, beq_iff_eq]
    exact up_low_iff b a
theorem occAt_up_low (s t : Bs) (i : Nat) : occAt (upP s) (upP t) i = occAt (lowP s) (lowP t) i := by
  unfold occAt
  have e1 : (upP s).drop i = upP (s.drop i) := by unfold upP; rw [List.map_drop]
  have e2 : (lowP s).drop i = lowP (s.drop i) := by unfold lowP; rw [List.map_drop]
  rw [e1, e2]
  exact occ_up_low _ _
theorem contains_iff (s t : Bs) : Go.Lib.contains s t = true ↔ ∃ i, i ≤ s.length ∧ occAt s t i = true := by
  unfold Go.Lib.contains
  rw [decide_eq_true_iff]
  rcases Go.Lib.index_spec s t with ⟨h1, h2⟩ | ⟨i, h1, h2, h3, _⟩
  · constructor
    · intro h; omega
    · rintro ⟨i, hi, ho⟩; rw [h2 i hi] at ho; cases ho
  · constructor
    · intro _; exact ⟨i, h2, h3⟩
    · intro _; omega
theorem occAt_mid (a b c : Bs) : occAt (a ++ b ++ c) b a.length = true := by
  unfold occAt
  rw [List.append_assoc, List.drop_left]
  rw [List.isPrefixOf_iff_prefix]
  exact List.prefix_append _ _
/-- has a text another one in it, in any case? -/
def hasP (s t : Bs) : Bool := Go.Lib.contains (upP s) (upP t)
theorem hasP_mid (a b c : Bs) : hasP (a ++ b ++ c) b = true := by
  unfold hasP
  rw [contains_iff]
  refine ⟨(upP a).length, by simp [upP], ?_⟩
  rw [upP_append, upP_append]
  exact occAt_mid _ _ _
theorem hasP_end (a b : Bs) : hasP (a ++ b) b = true := by have := hasP_mid a b []; rwa [List.append_nil] at this
theorem hasP_low (a b : Bs) : hasP (lowP (a ++ b)) b = true := by
  have := hasP_end a b
  unfold hasP at this ⊢
  rwa [upP_lowP]
/-- the document's: some place from which on it stands there -/
theorem hasP_ref (s t : Bs) : hasP s t = true ↔ ∃ i, i + t.length ≤ s.length ∧ ((lowP s).drop i).take t.length = lowP t := by
  unfold hasP
  rw [contains_iff]
  constructor
  · rintro ⟨i, hi, ho⟩
    rw [occAt_up_low] at ho
    have hl : i + t.length ≤ s.length := by
      rcases Go.Lib.occAt_room ho with h | h
      · rw [lowP_length, lowP_length] at h; exact h
      · have : t.length = 0 := by rw [← lowP_length t, h]; rfl
        rw [upP_length] at hi; omega
    refine ⟨i, hl, ?_⟩
    rw [Go.Lib.occAt_iff_take _ _ _ (by rw [lowP_length, lowP_length]; exact hl), lowP_length, beq_iff_eq] at ho
    exact ho
  · rintro ⟨i, hl, ho⟩
    refine ⟨i, by rw [upP_length]; omega, ?_⟩
    rw [occAt_up_low, Go.Lib.occAt_iff_take _ _ _ (by rw [lowP_length, lowP_length]; exact hl), lowP_length, beq_iff_eq]
    exact ho

/-- ends of lines -/
def cc : Bs → Nat
  | 13 :: 10 :: t => cc t + 1
  | _ :: t => cc t
  | [] => 0
def crlf (s : Bs) (i : Nat) : Bool := occAt s [13, 10] i
theorem crlf_iff (s : Bs) (i : Nat) : crlf s i = true ↔ s[i]? = some 13 ∧ s[i + 1]? = some 10 := by
  unfold crlf occAt
  rw [show s[i]? = (s.drop i)[0]? by simp, show s[i + 1]? = (s.drop i)[1]? by simp]
  rcases s.drop i with _ | ⟨a, _ | ⟨b, t⟩⟩
  · simp
  · show ((13 == a) && false) = true ↔ _
    simp
  · show ((13 == a) && ((10 == b) && true)) = true ↔ some a = some 13 ∧ some b = some 10
    rw [Bool.and_true, Bool.and_eq_true, beq_iff_eq, beq_iff_eq]
    constructor
    · rintro ⟨rfl, rfl⟩; exact ⟨rfl, rfl⟩
    · rintro ⟨h1, h2⟩; injection h1 with h1; injection h2 with h2; exact ⟨h1.symm, h2.symm⟩
theorem cc_ne {a : UInt8} {t : Bs} (h : ¬ (a = 13 ∧ t[0]? = some 10)) : cc (a :: t) = cc t := by
  rw [cc]
  intro t0 h1 h2
  subst h2
  exact h ⟨h1, rfl⟩
theorem cc_at {s : Bs} {i : Nat} (h : crlf s i = true) : cc (s.drop i) = cc (s.drop (i + 1)) + 1 ∧ cc (s.drop (i + 1)) = cc (s.drop (i + 2)) := by
  obtain ⟨h1, h2⟩ := (crlf_iff s i).1 h
  have e1 : s.drop i = 13 :: s.drop (i + 1) := by
    rw [List.drop_eq_getElem_cons (List.getElem?_eq_some_iff.1 h1).1, (List.getElem?_eq_some_iff.1 h1).2]
  have e2 : s.drop (i + 1) = 10 :: s.drop (i + 2) := by
    rw [List.drop_eq_getElem_cons (List.getElem?_eq_some_iff.1 h2).1, (List.getElem?_eq_some_iff.1 h2).2]
  have e3 : cc (s.drop (i + 1)) = cc (s.drop (i + 2)) := by rw [e2]; simp [cc]
  refine ⟨?_, e3⟩
  rw [e1, e2, ← e2, e3]
  rw [e2]; simp [cc]
theorem cc_not {s : Bs} {i : Nat} (h : crlf s i = false) : cc (s.drop i) = cc (s.drop (i + 1)) := by
  by_cases hi : i < s.length
  · have e1 : s.drop i = s[i] :: s.drop (i + 1) := List.drop_eq_getElem_cons hi
    have h' : ¬ (s[i]? = some 13 ∧ s[i + 1]? = some 10) := fun e => by rw [(crlf_iff s i).2 e] at h; cases h
    rw [e1]
    rw [List.getElem?_eq_getElem hi, show s[i + 1]? = (s.drop (i + 1))[0]? by simp] at h'
    exact cc_ne (fun e => h' ⟨by rw [e.1], e.2⟩)
  · rw [List.drop_eq_nil_of_le (by omega), List.drop_eq_nil_of_le (by omega)]
theorem cc_run {s : Bs} : ∀ (n i : Nat), (∀ j, i ≤ j → j < i + n → crlf s j = false) → cc (s.drop i) = cc (s.drop (i + n))
  | 0, _, _ => rfl
  | n + 1, i, h => by rw [cc_not (h i (Nat.le_refl _) (by omega)), cc_run n (i + 1) (fun j h1 h2 => h j (by omega) (by omega)), show i + 1 + n = i + (n + 1) by omega]
/-- strings.Count of the ends of lines -/
theorem count_cc (n : Nat) : ∀ s : Bs, s.length ≤ n → count s [13, 10] = cc s := by
  induction n with
  | zero =>
    intro s h
    have : s = [] := List.eq_nil_of_length_eq_zero (by omega)
    subst this; rfl
  | succ n ih =>
    intro s h
    rcases Go.Lib.index_spec s [13, 10] with ⟨h1, h2⟩ | ⟨i, h1, h2, h3, h4⟩
    · rw [Go.Lib.count_miss h1]
      have := cc_run (s := s) s.length 0 (fun j _ hj => h2 j (by omega))
      rw [List.drop_zero] at this
      rw [this, Nat.zero_add, List.drop_length]; rfl
    · rw [Go.Lib.count_hit (by simp) h1]
      have h5 := cc_run (s := s) i 0 (fun j _ hj => h4 j (by omega))
      rw [List.drop_zero, Nat.zero_add] at h5
      have h6 := cc_at (s := s) (i := i) h3
      rw [h5, h6.1, h6.2, ih _ (by
        have := Go.Lib.occAt_room h3
        rw [List.length_drop]; simp at this ⊢; omega)]
      simp; omega
theorem count_cc' (s : Bs) : count s [13, 10] = cc s := count_cc s.length s (Nat.le_refl _)
theorem cc_append_x : ∀ (a : Bs) (t : Bs), cc (a ++ 120 :: t) = cc a + cc t
  | [], t => by simp [cc]
  | [b], t => by
    show cc (b :: 120 :: t) = cc [b] + cc t
    rw [cc_ne (by simp), cc_ne (by simp), cc_ne (by simp)]
    simp [cc]
  | b :: c :: a, t => by
    by_cases h : b = 13 ∧ c = 10
    · obtain ⟨rfl, rfl⟩ := h
      show cc (13 :: 10 :: (a ++ 120 :: t)) = cc (13 :: 10 :: a) + cc t
      simp only [cc]
      rw [cc_append_x a t]; omega
    · have e : ∀ z : Bs, cc (b :: c :: z) = cc (c :: z) := fun z => by
        rw [cc]
        intro t0 h1 h2
        simp at h2
        exact h ⟨h1, h2.1⟩
      show cc (b :: c :: (a ++ 120 :: t)) = cc (b :: c :: a) + cc t
      rw [e, e]
      exact cc_append_x (c :: a) t
/-- an end of a line, some times -/
def lines3 : Nat → Bs
  | 0 => []
  | n + 1 => lines3 n ++ [120, 13, 10]
theorem lines3_front : ∀ n, lines3 (n + 1) = [120, 13, 10] ++ lines3 n
  | 0 => rfl
  | n + 1 => by
    show lines3 (n + 1) ++ [120, 13, 10] = [120, 13, 10] ++ (lines3 n ++ [120, 13, 10])
    rw [lines3_front n, List.append_assoc]
theorem cc_lines3 : ∀ (n : Nat) (a : Bs), cc (a ++ lines3 n) = cc a + n
  | 0, a => by simp [lines3]
  | n + 1, a => by
    rw [lines3_front]
    show cc (a ++ 120 :: (13 :: 10 :: lines3 n)) = _
    rw [cc_append_x]
    have := cc_lines3 n []
    simp [cc] at this ⊢
    rw [this]
end Mailsack

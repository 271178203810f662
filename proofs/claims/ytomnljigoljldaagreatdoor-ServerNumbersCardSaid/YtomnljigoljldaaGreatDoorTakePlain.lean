/- Plain definitions and laws about the announcement of a literal at a line's end (no program). No conditions but those stated. -/
/- Plain definitions and laws about commands (no program): what Take computes, as a function on lists of bytes. No conditions but those stated. -/
import Derived.Test.YtomnljigoljldaaGreatDoorLinesPlain
import Derived.Lib.LastIndexByte
import Derived.Lib.Strings

namespace Mailsack

def isDig (c : UInt8) : Bool := decide (48 ≤ (c.toNat : Int) ∧ (c.toNat : Int) ≤ 57)
def numStep (n : Int) (c : UInt8) : Int := 10 * n + ((c.toNat : Int) - 48)
def numP (ds : Bs) : Int := ds.foldl numStep 0
def goodNum (ds : Bs) : Bool := decide (1 ≤ ds.length) && decide (ds.length ≤ 4) && !(decide (1 < ds.length) && ds[0]? == some 48) && ds.all isDig
def litOk (l : Bs) (a : Nat) : Bool := l[a]? == some 123 && l.getLast? == some 125 && goodNum ((l.drop (a + 1)).dropLast)
/-- the number that a line announces, and where the brace stands -/
def litP (l : Bs) : Option (Int × Nat) := ((List.range l.length).find? (litOk l)).map fun a => (numP ((l.drop (a + 1)).dropLast), a)

theorem dig_iff {c : UInt8} : isDig c = true ↔ 48 ≤ (c.toNat : Int) ∧ (c.toNat : Int) ≤ 57 := by simp [isDig]

theorem isDig_no {c : UInt8} (h : ¬ (48 ≤ (c.toNat : Int) ∧ (c.toNat : Int) ≤ 57)) : isDig c = false := by unfold isDig; exact decide_eq_false h

theorem goodNum_dig {ds : Bs} (h : goodNum ds = true) {c : UInt8} (hc : c ∈ ds) : isDig c = true := by
  simp only [goodNum, Bool.and_eq_true, List.all_eq_true] at h
  exact h.2 c hc

theorem goodNum_len {ds : Bs} (h : goodNum ds = true) : 1 ≤ ds.length ∧ ds.length ≤ 4 := by
  simp only [goodNum, Bool.and_eq_true, decide_eq_true_eq] at h
  exact ⟨h.1.1.1, h.1.1.2⟩

theorem mem_mid {l : Bs} {a b : Nat} {c : UInt8} (hab : a < b) (hb : b + 1 < l.length) (hc : l[b]? = some c) : c ∈ (l.drop (a + 1)).dropLast := by
  refine List.mem_iff_getElem?.2 ⟨b - (a + 1), ?_⟩
  rw [List.dropLast_eq_take, List.getElem?_take, if_pos (by simp; omega), List.getElem?_drop, ← hc]
  congr 1; omega

theorem litOk_len {l : Bs} {a : Nat} (h : litOk l a = true) : a + 2 < l.length := by
  simp only [litOk, Bool.and_eq_true] at h
  have := (goodNum_len h.2).1
  simp at this
  omega

theorem litOk_lt {l : Bs} {a b : Nat} (ha : litOk l a = true) (hb : litOk l b = true) : ¬ a < b := by
  intro hab
  have h2 := litOk_len hb
  simp only [litOk, Bool.and_eq_true, beq_iff_eq] at ha hb
  have := goodNum_dig ha.2 (mem_mid hab (by omega) hb.1.1)
  exact absurd this (by decide)

theorem litOk_one {l : Bs} {a b : Nat} (ha : litOk l a = true) (hb : litOk l b = true) : a = b := by
  have h1 := litOk_lt ha hb
  have h2 := litOk_lt hb ha
  omega

theorem litP_some {l : Bs} {a : Nat} (h : litOk l a = true) : litP l = some (numP ((l.drop (a + 1)).dropLast), a) := by
  unfold litP
  cases hf : (List.range l.length).find? (litOk l) with
  | none =>
    have := List.find?_eq_none.1 hf a (by have := litOk_len h; simp; omega)
    exact absurd h this
  | some b => rw [litOk_one h (List.find?_some hf)]; rfl

theorem litP_none {l : Bs} (h : ∀ a, litOk l a = false) : litP l = none := by
  unfold litP
  rw [List.find?_eq_none.2 (fun a _ => by rw [h a]; decide)]; rfl

theorem litP_inv {l : Bs} {n : Int} {a : Nat} (h : litP l = some (n, a)) : litOk l a = true ∧ n = numP ((l.drop (a + 1)).dropLast) := by
  unfold litP at h
  cases hf : (List.range l.length).find? (litOk l) with
  | none => rw [hf] at h; simp at h
  | some b =>
    rw [hf] at h
    simp only [Option.map_some, Option.some.injEq, Prod.mk.injEq] at h
    obtain ⟨h1, rfl⟩ := h
    exact ⟨List.find?_some hf, h1.symm⟩

theorem litP_none_inv {l : Bs} (h : litP l = none) (a : Nat) : litOk l a = false := by
  cases e : litOk l a with
  | false => rfl
  | true => rw [litP_some e] at h; cases h

theorem numP_snoc (ds : Bs) (c : UInt8) : numP (ds ++ [c]) = 10 * numP ds + ((c.toNat : Int) - 48) := by
  simp [numP, numStep]

theorem num_fold : ∀ (ds : Bs) (n : Int), 0 ≤ n → (∀ c ∈ ds, isDig c = true) → 0 ≤ ds.foldl numStep n ∧ ds.foldl numStep n < (n + 1) * 10 ^ ds.length
  | [], n, hn, _ => by simp; omega
  | c :: ds, n, hn, h => by
    have h2 := dig_iff.1 (h c (by simp))
    have ih := num_fold ds (numStep n c) (by unfold numStep; omega) (fun x hx => h x (by simp [hx]))
    refine ⟨ih.1, Int.lt_of_lt_of_le ih.2 ?_⟩
    have e : (n + 1) * (10 : Int) ^ (ds.length + 1) = ((n + 1) * 10) * 10 ^ ds.length := by rw [Int.pow_succ, Int.mul_comm ((10 : Int) ^ ds.length) 10, Int.mul_assoc]
    rw [List.length_cons, e]
    exact Int.mul_le_mul_of_nonneg_right (by unfold numStep; omega) (Int.le_of_lt (Int.pow_pos (by decide)))

theorem numP_bound {ds : Bs} (h : ∀ c ∈ ds, isDig c = true) : 0 ≤ numP ds ∧ numP ds < 10 ^ ds.length := by
  have := num_fold ds 0 (by decide) h
  simpa [numP] using this

theorem numP_lit {l : Bs} {n : Int} {a : Nat} (h : litP l = some (n, a)) : 0 ≤ n ∧ n < 10000 := by
  obtain ⟨h1, rfl⟩ := litP_inv h
  simp only [litOk, Bool.and_eq_true] at h1
  have hl := goodNum_len h1.2
  have hb := numP_bound (fun c hc => goodNum_dig h1.2 hc)
  generalize (l.drop (a + 1)).dropLast = ds at *
  refine ⟨hb.1, Int.lt_of_lt_of_le hb.2 ?_⟩
  have : ds.length = 1 ∨ ds.length = 2 ∨ ds.length = 3 ∨ ds.length = 4 := by omega
  rcases this with e | e | e | e <;> rw [e] <;> decide

/-- what 'number' answers -/
def numR (l : Bs) : Int × Bool := if goodNum l then (numP l, true) else (0, false)
theorem numR_no {l : Bs} (h : goodNum l = false) : numR l = (0, false) := by simp [numR, h]
theorem numR_yes {l : Bs} (h : goodNum l = true) : numR l = (numP l, true) := by simp [numR, h]
theorem goodNum_short {l : Bs} (h : l.length < 1) : goodNum l = false := by simp [goodNum, show ¬ 1 ≤ l.length by omega]
theorem goodNum_long {l : Bs} (h : 4 < l.length) : goodNum l = false := by simp [goodNum, show ¬ l.length ≤ 4 by omega]
theorem goodNum_zero {l : Bs} (h : 1 < l.length) (h0 : ((l[0]'(by omega)).toNat : Int) = 48) : goodNum l = false := by
  have : l[0]'(by omega) = 48 := (byte_eq (n := 48) (by decide)).1 h0
  simp [goodNum, h, List.getElem?_eq_getElem (show 0 < l.length by omega), this]
theorem goodNum_bad {l : Bs} {k : Nat} (h : k < l.length) (hd : isDig l[k] = false) : goodNum l = false := by
  have : l.all isDig = false := by rw [List.all_eq_false]; exact ⟨l[k], List.getElem_mem h, by simp [hd]⟩
  simp [goodNum, this]
theorem goodNum_ok {l : Bs} (h1 : 1 ≤ l.length) (h4 : l.length ≤ 4) (h0 : l.length = 1 ∨ ((l[0]'(by omega)).toNat : Int) ≠ 48) (hd : ∀ c ∈ l, isDig c = true) : goodNum l = true := by
  have ha : l.all isDig = true := by rw [List.all_eq_true]; exact hd
  simp only [goodNum, ha, h1, h4, decide_true, Bool.and_true, Bool.true_and, Bool.not_eq_true', Bool.and_eq_false_iff, decide_eq_false_iff_not]
  rcases h0 with h0 | h0
  · left; omega
  · right
    rw [List.getElem?_eq_getElem (show 0 < l.length by omega), beq_eq_false_iff_ne]
    intro e
    injection e with e
    exact h0 (by rw [e]; rfl)
theorem take_snoc {l : Bs} {k : Nat} (h : k < l.length) : l.take (k + 1) = l.take k ++ [l[k]] := by
  rw [List.take_succ_eq_append_getElem h]
theorem dig_take {l : Bs} {k : Nat} (h : k < l.length) (h0 : ∀ c ∈ l.take k, isDig c = true) (hd : isDig l[k] = true) : ∀ c ∈ l.take (k + 1), isDig c = true := by
  intro c hc
  rw [take_snoc h, List.mem_append] at hc
  rcases hc with hc | hc
  · exact h0 c hc
  · rw [List.mem_singleton.1 hc]; exact hd
theorem numP_small {ds : Bs} (h : ∀ c ∈ ds, isDig c = true) (hl : ds.length ≤ 4) : 0 ≤ numP ds ∧ numP ds < 10000 := by
  have hb := numP_bound h
  refine ⟨hb.1, Int.lt_of_lt_of_le hb.2 ?_⟩
  have : ds.length = 0 ∨ ds.length = 1 ∨ ds.length = 2 ∨ ds.length = 3 ∨ ds.length = 4 := by omega
  rcases this with e | e | e | e | e <;> rw [e] <;> decide

/-- what 'Literal' answers -/
def litR (l : Bs) : Bs × Int × Bool := match litP l with
  | some (n, a) => (l.take a, n, true)
  | none => (l, 0, false)
theorem litR_none {l : Bs} (h : litP l = none) : litR l = (l, 0, false) := by simp [litR, h]
theorem litR_some {l : Bs} {n : Int} {a : Nat} (h : litP l = some (n, a)) : litR l = (l.take a, n, true) := by simp [litR, h]

theorem hasSuffix_one (l : Bs) (c : UInt8) : Go.Lib.hasSuffix l [c] = (l.getLast? == some c) := by
  unfold Go.Lib.hasSuffix
  rw [Bool.eq_iff_iff, List.isSuffixOf_iff_suffix, beq_iff_eq]
  constructor
  · rintro ⟨t, rfl⟩; simp
  · intro h
    obtain ⟨x, rfl⟩ : ∃ x, l = x ++ [c] := by
      have hne : l ≠ [] := by rintro rfl; simp at h
      refine ⟨l.dropLast, ?_⟩
      rw [List.getLast?_eq_some_getLast hne] at h
      injection h with h
      rw [← h, List.dropLast_concat_getLast hne]
    exact ⟨x, rfl⟩
theorem trim_one {l : Bs} {c : UInt8} (h : Go.Lib.hasSuffix l [c] = true) : Go.Lib.trimSuffix l [c] = l.dropLast := by
  unfold Go.Lib.trimSuffix
  rw [if_pos h, List.dropLast_eq_take]; rfl
theorem trim_size {s b : ByteArray} {p : Bs} (h : b.data.toList = Go.Lib.trimSuffix s.data.toList p) : b.size ≤ s.size := by
  rw [← size_list b, ← size_list s, h]
  unfold Go.Lib.trimSuffix
  split
  · rw [List.length_take]; omega
  · exact Nat.le_refl _

theorem lit_noend {l : Bs} (h : Go.Lib.hasSuffix l [125] = false) : litP l = none := by
  rw [hasSuffix_one] at h
  exact litP_none fun a => by simp [litOk, h]

theorem byte_at (b : ByteArray) (j : Nat) (h : j < b.size) : b.data[j]! = b.data.toList[j]'(by rw [size_list]; exact h) := by
  have : j < b.data.size := h
  simp [getElem!_pos b.data j this]

theorem lit_nobrace {s b : ByteArray} (hs : Go.Lib.hasSuffix s.data.toList [125] = true) (hb : b.data.toList = Go.Lib.trimSuffix s.data.toList [125])
    (hno : ∀ j, j < b.size → ((b.data[j]!).toNat : Int) ≠ 123) : litP s.data.toList = none := by
  rw [trim_one hs] at hb
  refine litP_none fun a => ?_
  cases e : litOk s.data.toList a with
  | false => rfl
  | true =>
    have hl := litOk_len e
    simp only [litOk, Bool.and_eq_true, beq_iff_eq] at e
    have hbl : a < b.data.toList.length := by rw [hb, List.length_dropLast]; omega
    have hbs : a < b.size := by rw [← size_list]; exact hbl
    refine absurd ?_ (hno a hbs)
    rw [byte_at b a hbs]
    have h2 : b.data.toList[a]? = some 123 := by
      rw [hb, List.dropLast_eq_take, List.getElem?_take, if_pos (by omega)]; exact e.1.1
    rw [List.getElem?_eq_getElem hbl] at h2
    injection h2 with h2
    rw [h2]; rfl

theorem lit_brace {s b : ByteArray} {i : Nat} (hs : Go.Lib.hasSuffix s.data.toList [125] = true) (hb : b.data.toList = Go.Lib.trimSuffix s.data.toList [125])
    (hi : i < b.size) (hc : ((b.data[i]!).toNat : Int) = 123) (hno : ∀ j, i < j → j < b.size → ((b.data[j]!).toNat : Int) ≠ 123) :
    litP s.data.toList = if goodNum (b.data.toList.drop (i + 1)) = true then some (numP (b.data.toList.drop (i + 1)), i) else none := by
  rw [trim_one hs] at hb
  have hil : i < b.data.toList.length := by rw [size_list]; exact hi
  have hlen : b.data.toList.length = s.data.toList.length - 1 := by rw [hb, List.length_dropLast]
  have e1 : s.data.toList[i]? = some 123 := by
    rw [byte_at b i hi] at hc
    have : b.data.toList[i]? = some 123 := by
      rw [List.getElem?_eq_getElem hil, (byte_eq (n := 123) (by decide)).1 hc]; rfl
    rw [hb, List.dropLast_eq_take, List.getElem?_take, if_pos (by omega)] at this
    exact this
  have e2 : (s.data.toList.drop (i + 1)).dropLast = b.data.toList.drop (i + 1) := by
    rw [hb, List.dropLast_eq_take, List.dropLast_eq_take, List.drop_take, List.length_drop]
    congr 1; omega
  rw [hasSuffix_one] at hs
  split
  · rename_i hg
    have := litP_some (l := s.data.toList) (a := i) (by simp only [litOk, e1, hs, e2, hg]; decide)
    rw [this, e2]
  · rename_i hg
    refine litP_none fun a => ?_
    cases e : litOk s.data.toList a with
    | false => rfl
    | true =>
      have hl := litOk_len e
      have hgn := e
      simp only [litOk, Bool.and_eq_true, beq_iff_eq] at hgn
      rcases Nat.lt_trichotomy a i with h | h | h
      · have := goodNum_dig hgn.2 (mem_mid h (by omega) e1)
        exact absurd this (by decide)
      · subst h
        rw [e2] at hgn
        exact absurd hgn.2 hg
      · have hbl : a < b.data.toList.length := by omega
        have hbs : a < b.size := by rw [← size_list]; exact hbl
        refine absurd ?_ (hno a h hbs)
        rw [byte_at b a hbs]
        have h2 : b.data.toList[a]? = some 123 := by
          rw [hb, List.dropLast_eq_take, List.getElem?_take, if_pos (by omega)]; exact hgn.1.1
        rw [List.getElem?_eq_getElem hbl] at h2
        injection h2 with h2
        rw [h2]; rfl

/-- what the reference's 'Literal' answers -/
def rlitR (l : Bs) : Int × Int := match litP l with
  | some (n, a) => (n, a)
  | none => (-1, 0)
theorem rlitR_none {l : Bs} (h : litP l = none) : rlitR l = (-1, 0) := by simp [rlitR, h]
theorem rlitR_some {l : Bs} {n : Int} {a : Nat} (h : litP l = some (n, a)) : rlitR l = (n, (a : Int)) := by simp [rlitR, h]
theorem rlit_short {l : Bs} (h : l.length < 3) : litP l = none := litP_none fun a => by
  cases e : litOk l a with
  | false => rfl
  | true => have := litOk_len e; omega
theorem last_at {l : Bs} (h : l.length - 1 < l.length) : l.getLast? = some l[l.length - 1] := by
  rw [List.getLast?_eq_getElem?, List.getElem?_eq_getElem h]
theorem sget (s : ByteArray) (j : Nat) (h : j < s.size) : s.data.toList[j]'(by rw [size_list]; exact h) = s[j] := rfl
theorem last_s {s : ByteArray} (h : s.size - 1 < s.size) : s.data.toList.getLast? = some s[s.size - 1] := by
  rw [List.getLast?_eq_getElem?, size_list, List.getElem?_eq_getElem (by rw [size_list]; exact h)]; rfl
theorem rlit_noend {s : ByteArray} (h : s.size - 1 < s.size) (he : ¬ ((s[s.size - 1]).toNat : Int) = 125) : litP s.data.toList = none :=
  litP_none fun a => by
    have : s[s.size - 1] ≠ 125 := fun e => he (by rw [e]; rfl)
    simp [litOk, last_s h, this]
theorem rlit_last {s : ByteArray} (h : s.size - 1 < s.size) (he : ((s[s.size - 1]).toNat : Int) = 125) : s.data.toList.getLast? = some 125 := by
  rw [last_s h, (byte_eq (n := 125) (by decide)).1 he]; rfl

/-- behind place z all bytes but the last are digits -/
def digBack (l : Bs) (z : Int) : Prop := ∀ j : Nat, z < j → ∀ h : j + 1 < l.length, isDig l[j] = true
theorem digBack_start {l : Bs} : digBack l ((l.length : Int) - 2) := fun j hj h => by omega
theorem digBack_step {l : Bs} {a : Nat} (h : digBack l a) (ha : a + 1 < l.length) (hd : isDig l[a] = true) : digBack l ((a : Int) - 1) := fun j hj h' => by
  rcases Nat.lt_or_ge a j with h1 | h1
  · exact h j (by omega) h'
  · have : j = a := by omega
    subst this; exact hd
theorem digBack_no {l : Bs} {z : Int} (h : digBack l z) {b : Nat} (hb : z < b) : litOk l b = false := by
  cases e : litOk l b with
  | false => rfl
  | true =>
    have hl := litOk_len e
    have h1 := h b hb (by omega)
    simp only [litOk, Bool.and_eq_true, beq_iff_eq] at e
    have h2 := e.1.1
    rw [List.getElem?_eq_getElem (by omega)] at h2
    injection h2 with h2
    rw [h2] at h1
    exact absurd h1 (by decide)
theorem nondig_no {l : Bs} {a b : Nat} (ha : a + 1 < l.length) (hnd : isDig l[a] = false) (hb : b < a) : litOk l b = false := by
  cases e : litOk l b with
  | false => rfl
  | true =>
    simp only [litOk, Bool.and_eq_true, beq_iff_eq] at e
    have := goodNum_dig e.2 (mem_mid hb ha (List.getElem?_eq_getElem (by omega)))
    rw [this] at hnd; cases hnd
theorem rlit_neg {l : Bs} (h : digBack l (-1)) : litP l = none := litP_none fun _ => digBack_no h (by omega)
theorem rlit_other {l : Bs} {a : Nat} (ha : a + 1 < l.length) (hnd : isDig l[a] = false) (hne : ¬ ((l[a]).toNat : Int) = 123) (h : digBack l a) : litP l = none :=
  litP_none fun b => by
    rcases Nat.lt_trichotomy b a with h1 | h1 | h1
    · exact nondig_no ha hnd h1
    · subst h1
      have : l[b] ≠ 123 := fun e => hne (by rw [e]; rfl)
      simp [litOk, List.getElem?_eq_getElem (show b < l.length by omega), this]
    · exact digBack_no h (by omega)
def mid (l : Bs) (a : Nat) : Bs := (l.drop (a + 1)).dropLast
theorem mid_len {l : Bs} {a : Nat} : (mid l a).length = l.length - 2 - a := by simp [mid]; omega
theorem mid_get {l : Bs} {a k : Nat} (h : a + 1 + k + 1 < l.length) : (mid l a)[k]? = some l[a + 1 + k] := by
  unfold mid
  rw [List.dropLast_eq_take, List.getElem?_take, if_pos (by simp; omega), List.getElem?_drop, List.getElem?_eq_getElem (by omega)]
theorem mid_dig {l : Bs} {a : Nat} (h : digBack l a) : ∀ c ∈ mid l a, isDig c = true := fun c hc => by
  obtain ⟨k, hk⟩ := List.mem_iff_getElem?.1 hc
  have hkl : k < (mid l a).length := (List.getElem?_eq_some_iff.1 hk).1
  rw [mid_len] at hkl
  rw [mid_get (by omega)] at hk
  injection hk with hk
  rw [← hk]
  exact h _ (by omega) (by omega)
theorem rlit_brace {l : Bs} {a : Nat} (ha : a + 1 < l.length) (he : ((l[a]).toNat : Int) = 123) (hlast : l.getLast? = some 125) (h : digBack l a) :
    litP l = if goodNum (mid l a) = true then some (numP (mid l a), a) else none := by
  have e1 : l[a] = 123 := (byte_eq (n := 123) (by decide)).1 he
  have e2 : isDig l[a] = false := by rw [e1]; decide
  split
  · rename_i hg
    exact litP_some (l := l) (a := a) (by simp only [litOk, List.getElem?_eq_getElem (show a < l.length by omega), e1, hlast]; exact hg)
  · rename_i hg
    refine litP_none fun b => ?_
    rcases Nat.lt_trichotomy b a with h1 | h1 | h1
    · exact nondig_no ha e2 h1
    · subst h1
      simp only [litOk]
      rw [show goodNum ((l.drop (b + 1)).dropLast) = false from Bool.eq_false_iff.2 hg]; simp
    · exact digBack_no h (by omega)
theorem mid_zero {ds : Bs} {c : UInt8} (hf : ds[0]? = some c) (h : 1 < ds.length) (h0 : ((c).toNat : Int) = 48) : goodNum ds = false := by
  rw [List.getElem?_eq_getElem (by omega)] at hf
  injection hf with hf
  exact goodNum_zero h (by rw [hf]; exact h0)
theorem mid_good {ds : Bs} {c : UInt8} (hf : ds[0]? = some c) (h1 : 1 ≤ ds.length) (h4 : ds.length ≤ 4) (h0 : ds.length = 1 ∨ ((c).toNat : Int) ≠ 48) (hd : ∀ c ∈ ds, isDig c = true) : goodNum ds = true := by
  rw [List.getElem?_eq_getElem (by omega)] at hf
  injection hf with hf
  exact goodNum_ok h1 h4 (by rw [hf]; exact h0) hd
theorem mid_mem {l : Bs} {a j : Nat} (h1 : a + 1 ≤ j) (h2 : j + 1 < l.length) : l[j] ∈ mid l a := by
  have := mid_get (l := l) (a := a) (k := j - (a + 1)) (by omega)
  refine List.mem_iff_getElem?.2 ⟨j - (a + 1), ?_⟩
  rw [this]; congr 2; omega
theorem mid_num {l : Bs} {a j : Nat} (h1 : a + 1 ≤ j) (h2 : j + 1 < l.length) :
    numP ((mid l a).take (j + 1 - (a + 1))) = 10 * numP ((mid l a).take (j - (a + 1))) + ((l[j].toNat : Int) - 48) := by
  obtain ⟨k, rfl⟩ := Nat.exists_eq_add_of_le h1
  have hk : k < (mid l a).length := by rw [mid_len]; omega
  have e := mid_get (l := l) (a := a) (k := k) (by omega)
  rw [List.getElem?_eq_getElem hk] at e
  injection e with e
  rw [show a + 1 + k + 1 - (a + 1) = k + 1 by omega, show a + 1 + k - (a + 1) = k by omega, take_snoc hk, numP_snoc, e]
end Mailsack


namespace Mailsack

structure TakeR where
  texts : List Bs
  lits : List Bs
  rest : Bs
  state : Int
  n : Nat

def takeGo : Nat → List Bs → List Bs → Bs → TakeR
  | 0, _, L, _ => ⟨[], [], [], 0, L.length⟩
  | f + 1, T, L, l =>
    if (nextP l).2.2 = 1 then
      match litP (nextP l).1 with
      | none => ⟨T ++ [(nextP l).1], L, (nextP l).2.1, 1, L.length⟩
      | some (n, a) =>
        if 700 < n ∨ 3 < L.length then ⟨[], [], (nextP l).2.1, 2, L.length⟩
        else if (((nextP l).2.1).length : Int) < n then ⟨[], [], [], 0, L.length + 1⟩
        else takeGo f (T ++ [(nextP l).1.take a]) (L ++ [(nextP l).2.1.take n.toNat]) ((nextP l).2.1.drop n.toNat)
    else ⟨[], [], (nextP l).2.1, (nextP l).2.2, L.length⟩

/-- the first command of a text -/
def takeP (l : Bs) : TakeR := takeGo 5 [] [] l

section
variable {f : Nat} {T L : List Bs} {l ln rest : Bs} {st n : Int} {a : Nat}
theorem takeGo_stop (h : nextP l = (ln, rest, st)) (hs : st ≠ 1) : takeGo (f + 1) T L l = ⟨[], [], rest, st, L.length⟩ := by
  simp [takeGo, h, hs]
theorem takeGo_plain (h : nextP l = (ln, rest, 1)) (hl : litP ln = none) : takeGo (f + 1) T L l = ⟨T ++ [ln], L, rest, 1, L.length⟩ := by
  simp [takeGo, h, hl]
theorem takeGo_great (h : nextP l = (ln, rest, 1)) (hl : litP ln = some (n, a)) (hn : 700 < n ∨ 3 < L.length) : takeGo (f + 1) T L l = ⟨[], [], rest, 2, L.length⟩ := by
  simp [takeGo, h, hl, hn]
theorem takeGo_short (h : nextP l = (ln, rest, 1)) (hl : litP ln = some (n, a)) (hn : ¬ (700 < n ∨ 3 < L.length)) (hr : (rest.length : Int) < n) : takeGo (f + 1) T L l = ⟨[], [], [], 0, L.length + 1⟩ := by
  simp [takeGo, h, hl, hr, if_neg hn]
theorem takeGo_go (h : nextP l = (ln, rest, 1)) (hl : litP ln = some (n, a)) (hn : ¬ (700 < n ∨ 3 < L.length)) (hr : ¬ (rest.length : Int) < n) :
    takeGo (f + 1) T L l = takeGo f (T ++ [ln.take a]) (L ++ [rest.take n.toNat]) (rest.drop n.toNat) := by
  rw [takeGo]
  simp only [h, hl, if_pos, if_neg hn, if_neg hr]
end

theorem nextP_len {l ln rest : Bs} (h : nextP l = (ln, rest, 1)) : ln.length + 2 + rest.length = l.length ∧ ln.length ≤ 512 := by
  rcases index_cases l [13, 10] with hi | ⟨i, hi⟩
  · by_cases hs : l.length ≤ 512
    · rw [nextP_miss_short hi hs] at h; injection h with _ h; injection h with _ h; cases h
    · rw [nextP_miss_long hi hs] at h; injection h with _ h; injection h with _ h; cases h
  · have hle : i + 2 ≤ l.length := index_le hi
    by_cases hs : i ≤ 512
    · rw [nextP_hit_short hi hs] at h
      injection h with h1 h; injection h with h2 _
      subst h1 h2
      simp; omega
    · rw [nextP_hit_long hi hs] at h; injection h with _ h; injection h with _ h; cases h
theorem nextP_rest {l ln rest : Bs} {st : Int} (h : nextP l = (ln, rest, st)) : rest.length ≤ l.length := by
  rcases index_cases l [13, 10] with hi | ⟨i, hi⟩
  · by_cases hs : l.length ≤ 512
    · rw [nextP_miss_short hi hs] at h; injection h with _ h; injection h with h _; subst h; simp
    · rw [nextP_miss_long hi hs] at h; injection h with _ h; injection h with h _; subst h; simp
  · by_cases hs : i ≤ 512
    · rw [nextP_hit_short hi hs] at h; injection h with _ h; injection h with h _; subst h; simp
    · rw [nextP_hit_long hi hs] at h; injection h with _ h; injection h with h _; subst h; simp
theorem takeGo_len : ∀ (f : Nat) (T L : List Bs) (l : Bs), (takeGo f T L l).texts.length ≤ T.length + f ∧ (takeGo f T L l).lits.length ≤ L.length + f
  | 0, T, L, l => by simp [takeGo]
  | f + 1, T, L, l => by
    rw [takeGo]
    split
    · split
      · simp
      · split
        · simp
        · split
          · simp
          · have := takeGo_len f
            refine ⟨Nat.le_trans (this _ _ _).1 ?_, Nat.le_trans (this _ _ _).2 ?_⟩ <;> simp <;> omega
    · simp
theorem takeP_len (l : Bs) : (takeP l).texts.length ≤ 5 ∧ (takeP l).lits.length ≤ 5 := by
  have := takeGo_len 5 [] [] l
  simpa [takeP] using this
theorem litP_at {l : Bs} {n : Int} {a : Nat} (h : litP l = some (n, a)) : a + 2 < l.length := litOk_len (litP_inv h).1
end Mailsack

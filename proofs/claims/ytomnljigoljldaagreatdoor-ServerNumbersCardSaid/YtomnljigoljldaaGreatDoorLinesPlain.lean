/- Plain definitions and laws about lines and literals (no program): what the functions of layer 17 compute, as functions on lists of bytes. No conditions but those stated. -/
import Derived.Lib.IndexMore
namespace Mailsack
abbrev Bs := List UInt8

/-- the first line, what stands behind it, and what there is of it -/
def nextP (l : Bs) : Bs × Bs × Int :=
  if Go.Lib.index l [13, 10] < 0 then (if l.length ≤ 512 then ([], [], 0) else ([], [], 2))
  else if (Go.Lib.index l [13, 10]).toNat ≤ 512 then (l.take (Go.Lib.index l [13, 10]).toNat, l.drop ((Go.Lib.index l [13, 10]).toNat + 2), 1)
  else ([], l.drop ((Go.Lib.index l [13, 10]).toNat + 2), 2)

theorem nextP_miss_short {l : Bs} (h : Go.Lib.index l [13, 10] = -1) (hl : l.length ≤ 512) : nextP l = ([], [], 0) := by
  unfold nextP; rw [if_pos (by omega), if_pos hl]
theorem nextP_miss_long {l : Bs} (h : Go.Lib.index l [13, 10] = -1) (hl : ¬ l.length ≤ 512) : nextP l = ([], [], 2) := by
  unfold nextP; rw [if_pos (by omega), if_neg hl]
theorem nextP_hit_short {l : Bs} {i : Nat} (h : Go.Lib.index l [13, 10] = i) (hl : i ≤ 512) : nextP l = (l.take i, l.drop (i + 2), 1) := by
  unfold nextP; rw [if_neg (by omega), h]; simp [hl]
theorem nextP_hit_long {l : Bs} {i : Nat} (h : Go.Lib.index l [13, 10] = i) (hl : ¬ i ≤ 512) : nextP l = ([], l.drop (i + 2), 2) := by
  unfold nextP; rw [if_neg (by omega), h]; simp [hl]

theorem index_cases (l sub : Bs) : Go.Lib.index l sub = -1 ∨ ∃ i : Nat, Go.Lib.index l sub = i := by
  rcases Go.Lib.index_spec l sub with ⟨h, _⟩ | ⟨i, h, _⟩
  · exact .inl h
  · exact .inr ⟨i, h⟩

theorem cut_miss {l sep : Bs} (h : Go.Lib.index l sep = -1) : Go.Lib.cut l sep = (l, [], false) := by
  unfold Go.Lib.cut; rw [if_neg (by omega)]
theorem cut_hit {l sep : Bs} {i : Nat} (h : Go.Lib.index l sep = i) : Go.Lib.cut l sep = (l.take i, l.drop (i + sep.length), true) := by
  unfold Go.Lib.cut; rw [if_pos (by omega), h]; rfl
theorem index_le {l sub : Bs} {i : Nat} (h : Go.Lib.index l sub = i) : i + sub.length ≤ l.length := by
  have := Go.Lib.index_room l sub (by omega); omega

theorem ext_any (s : ByteArray) (a b : Nat) : s.extract a b = ⟨((s.data.toList.drop a).take (b - a)).toArray⟩ := by
  have h := Go.Lib.extract_data s a b
  generalize s.extract a b = r at h
  obtain ⟨⟨x⟩⟩ := r
  simp at h
  subst h
  rfl
theorem ext_take (s : ByteArray) (i : Nat) : s.extract 0 i = ⟨(s.data.toList.take i).toArray⟩ := by
  rw [ext_any]; simp
theorem ext_drop (s : ByteArray) (a : Nat) : s.extract a s.size = ⟨(s.data.toList.drop a).toArray⟩ := by
  rw [ext_any, List.take_of_length_le (by rw [List.length_drop, Array.length_toList]; exact Nat.le_refl _)]
theorem ext_drop_mk (l : Bs) (a : Nat) : ((⟨l.toArray⟩ : ByteArray).extract a l.length).data.toList = l.drop a := by
  have := ext_drop ⟨l.toArray⟩ a
  rw [show (⟨l.toArray⟩ : ByteArray).size = l.length from rfl] at this
  rw [this]
theorem size_list (s : ByteArray) : s.data.toList.length = s.size := by rw [Array.length_toList]; rfl
theorem ext_size (s : ByteArray) (a b : Nat) : (s.extract a b).size = min b s.size - a := by rw [ByteArray.size_extract]
theorem sget' (s : ByteArray) (j : Nat) (h : j < s.size) : s.data.toList[j]'(by rw [size_list]; exact h) = s[j] := rfl
theorem mk_list (s : ByteArray) : (⟨s.data.toList.toArray⟩ : ByteArray) = s := rfl

theorem byte_eq {x : UInt8} {n : Nat} (hn : n < 256) : ((x.toNat : Int) = (n : Int)) ↔ x = UInt8.ofNat n := by
  constructor
  · intro h
    have : x.toNat = n := by omega
    subst this; simp
  · rintro rfl
    simp [UInt8.toNat_ofNat_of_lt' (show n < UInt8.size from hn)]

theorem occ_crlf (l : Bs) (k : Nat) : Go.Lib.occAt l [13, 10] k = (l[k]? == some 13 && l[k + 1]? == some 10) := by
  unfold Go.Lib.occAt
  rw [show l[k]? = (l.drop k)[0]? by simp, show l[k + 1]? = (l.drop k)[1]? by simp]
  generalize l.drop k = r
  match r with
  | [] => rfl
  | [a] => simp [List.isPrefixOf]
  | a :: b :: r => simp [List.isPrefixOf, eq_comm (a := (13 : UInt8)), Bool.beq_eq_decide_eq, eq_comm (a := (10 : UInt8))]

theorem line_hit {s : ByteArray} {l : Bs} (hs : s.data.toList = l) {k : Nat} (h : k + 1 < s.size) (h0 : ∀ j, j < k → Go.Lib.occAt l [13, 10] j = false)
    (h1 : ((s[k]).toNat : Int) = 13) (h2 : ((s[k + 1]).toNat : Int) = 10) : Go.Lib.index l [13, 10] = k := by
  have hz : k + 1 < l.length := by rw [← hs, size_list]; exact h
  have h1 : ((l[k]).toNat : Int) = 13 := by subst hs; exact h1
  have h2 : ((l[k + 1]).toNat : Int) = 10 := by subst hs; exact h2
  refine Go.Lib.index_first (by omega) ?_ h0
  have e1 : l[k] = 13 := (byte_eq (n := 13) (by decide)).1 h1
  have e2 : l[k + 1] = 10 := (byte_eq (n := 10) (by decide)).1 h2
  rw [occ_crlf, List.getElem?_eq_getElem (by omega), List.getElem?_eq_getElem hz, e1, e2]; rfl

theorem line_go {s : ByteArray} {l : Bs} (hs : s.data.toList = l) {k : Nat} (h : k + 1 < s.size) (h0 : ∀ j, j < k → Go.Lib.occAt l [13, 10] j = false)
    (h1 : ¬ ((s[k]).toNat : Int) = 13 ∨ ¬ ((s[k + 1]).toNat : Int) = 10) : ∀ j, j < k + 1 → Go.Lib.occAt l [13, 10] j = false := by
  have hz : k + 1 < l.length := by rw [← hs, size_list]; exact h
  have h1 : ¬ ((l[k]).toNat : Int) = 13 ∨ ¬ ((l[k + 1]).toNat : Int) = 10 := by subst hs; exact h1
  intro j hj
  rcases Nat.lt_succ_iff_lt_or_eq.1 hj with hj | rfl
  · exact h0 j hj
  · rw [occ_crlf, List.getElem?_eq_getElem (by omega), List.getElem?_eq_getElem hz]
    rcases h1 with h1 | h1
    · have : l[j] ≠ 13 := fun e => h1 (by rw [e]; rfl)
      simp [this]
    · have : l[j + 1] ≠ 10 := fun e => h1 (by rw [e]; rfl)
      simp [this]

theorem line_end {s : ByteArray} {l : Bs} (hs : s.data.toList = l) {k : Nat} (h : s.size ≤ k + 1) (h0 : ∀ j, j < k → Go.Lib.occAt l [13, 10] j = false) : Go.Lib.index l [13, 10] = -1 := by
  have hz : l.length ≤ k + 1 := by rw [← hs, size_list]; exact h
  refine Go.Lib.index_none fun j _ => ?_
  rcases Nat.lt_or_ge j k with hj | hj
  · exact h0 j hj
  · rw [occ_crlf, List.getElem?_eq_none (i := j + 1) (by omega)]
    simp
end Mailsack

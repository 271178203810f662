/- Plain laws for a head of one field (layer 19; no program). No conditions but those stated. -/
import Derived.Test.YtgdhddkhnpcdmaaDoorPartFields
import Derived.Test.YtgdhddkhnpcdmaaDoorPartWhole
namespace Go.Proofs.YtgdhddkhnpcdmaaDoor.PT
open Go.RowKit Mailsack MM

/-- a head of one field -/
def oneHead (n v : Bs) : Bs := n ++ [58] ++ v ++ [13, 10, 13, 10]
theorem index_free {a : Bs} (ha : ∀ x ∈ a, x ≠ 13) (t : Bs) : Lib.index (a ++ 13 :: 10 :: t) [13, 10] = a.length := by
  refine Lib.index_first (by simp) ?_ (fun j hj => ?_)
  · unfold Lib.occAt
    rw [List.drop_left]
    rfl
  · cases ho : Lib.occAt (a ++ 13 :: 10 :: t) [13, 10] j with
    | false => rfl
    | true =>
      have := Lib.occAt_head (c := 13) (t := [10]) rfl ho
      rw [List.getElem?_append_left hj, List.getElem?_eq_getElem hj] at this
      exact absurd (Option.some.inj this) (ha _ (List.getElem_mem hj))
theorem splitK_hit {l : Bs} {k i : Nat} (h : Lib.index l [13, 10] = i) : Lib.splitK [13, 10] 0 (k + 1) l = l.take i :: Lib.splitK [13, 10] 0 k (l.drop (i + 2)) := by
  have hm : ¬ (Lib.index l [13, 10] == -1) = true := fun e => by have := beq_iff_eq.1 e; omega
  have e : (Lib.index l [13, 10]).toNat = i := by omega
  rw [Lib.splitK, if_neg hm, e]
  rfl
theorem lines_one {a : Bs} (ha : ∀ x ∈ a, x ≠ 13) : linesP (a ++ [13, 10, 13, 10]) = [a, [], []] := by
  have h1 : Lib.index (a ++ [13, 10, 13, 10]) [13, 10] = a.length := index_free ha [13, 10]
  have hd : (a ++ [13, 10, 13, 10]).drop (a.length + 2) = [13, 10] := by
    rw [← List.drop_drop, List.drop_left]; rfl
  have hc : Lib.count (a ++ [13, 10, 13, 10]) [13, 10] = 2 := by
    rw [Lib.count_hit (by simp) h1]
    rw [show a.length + ([13, 10] : Bs).length = a.length + 2 from rfl, hd]
    rfl
  unfold linesP Lib.split
  rw [hc, splitK_hit h1, hd, List.take_left]
  rfl
theorem index_byte {n : Bs} {c : UInt8} (hn : ∀ x ∈ n, x ≠ c) (t : Bs) : Lib.index (n ++ c :: t) [c] = n.length := by
  refine Lib.index_first (by simp) ?_ (fun j hj => ?_)
  · unfold Lib.occAt
    rw [List.drop_left]
    simp [List.isPrefixOf]
  · cases ho : Lib.occAt (n ++ c :: t) [c] j with
    | false => rfl
    | true =>
      have := Lib.occAt_head (c := c) (t := []) rfl ho
      rw [List.getElem?_append_left hj, List.getElem?_eq_getElem hj] at this
      exact absurd (Option.some.inj this) (hn _ (List.getElem_mem hj))
theorem cut_one {n v : Bs} (hn : ∀ x ∈ n, x ≠ 58) : Lib.cut (n ++ [58] ++ v) [58] = (n, v, true) := by
  have h : Lib.index (n ++ [58] ++ v) [58] = n.length := by rw [List.append_assoc]; exact index_byte hn v
  rw [cut_hit h, List.append_assoc, List.take_left, show n.length + ([58] : Bs).length = n.length + 1 from rfl, ← List.drop_drop, List.drop_left]
  rfl
/-- letters of a to z -/
def letters (n : Bs) : Prop := ∀ x ∈ n, 97 ≤ x.toNat ∧ x.toNat ≤ 122
theorem letter_ne {n : Bs} (hn : letters n) {c : UInt8} (hc : c.toNat < 97) : ∀ x ∈ n, x ≠ c := fun x hx e => by
  have := hn x hx; rw [e] at this; omega
theorem fields_one {n v : Bs} (hn : letters n) (h0 : n ≠ []) (hv : ∀ x ∈ v, x ≠ 13) : fieldsP (linesP (oneHead n v)) = [(n, Lib.trimS v [32, 9])] := by
  have ha : ∀ x ∈ n ++ [58] ++ v, x ≠ 13 := fun x hx => by
    rcases List.mem_append.1 hx with hx | hx
    · rcases List.mem_append.1 hx with hx | hx
      · exact letter_ne hn (by decide) x hx
      · rw [List.mem_singleton.1 hx]; decide
    · exact hv x hx
  have hl := lines_one ha
  unfold oneHead
  rw [hl]
  have hcut := cut_one (v := v) (letter_ne hn (c := 58) (by decide))
  have hct : isCont (n ++ [58] ++ v) = false := by
    cases n with
    | nil => exact absurd rfl h0
    | cons c r =>
      show (c == 32 || c == 9) = false
      have h1 := letter_ne hn (c := 32) (by decide) c (by simp)
      have h2 := letter_ne hn (c := 9) (by decide) c (by simp)
      simp [h1, h2]
  rw [fieldsP_take (by rw [hcut]) hct, hcut]
  have e1 : ([[], []] : List Bs).takeWhile isCont = [] := rfl
  have e2 : ([[], []] : List Bs).dropWhile isCont = [[], []] := rfl
  rw [e1, e2]
  have e3 : fieldsP ([[], []] : List Bs) = [] := by rw [fieldsP_skip (.inl rfl), fieldsP_skip (.inl rfl)]; rfl
  rw [e3, join_flat]
  simp
theorem low_letters {n : Bs} (hn : letters n) : lowP n = n := by
  unfold lowP
  conv => rhs; rw [← List.map_id n]
  exact List.map_congr_left fun x hx => low_other (by have := hn x hx; omega)
theorem field_same {n v : Bs} (hn : letters n) (h0 : n ≠ []) (hv : ∀ x ∈ v, x ≠ 13) : fieldP (fieldsP (linesP (oneHead n v))) n = (Lib.trimS v [32, 9], true) := by
  rw [fields_one hn h0 hv]; unfold fieldP; simp
theorem field_other {n v o : Bs} (hn : letters n) (h0 : n ≠ []) (hv : ∀ x ∈ v, x ≠ 13) : (fieldP (fieldsP (linesP (oneHead n v))) o).2 = decide (lowP o = n) := by
  rw [fields_one hn h0 hv]
  have e : upP n = upP o ↔ lowP o = n := by
    rw [upP_eq_iff, low_letters hn]; exact eq_comm
  unfold fieldP
  by_cases h : lowP o = n
  · have h' := e.2 h
    simp [h', h]
  · have h' : ¬ upP n = upP o := fun x => h (e.1 x)
    simp [h', h]
/-- trimming from both sides, by places -/
def blk (c : UInt8) : Bool := c == 32 || c == 9
theorem contains_blk (c : UInt8) : List.contains [32, 9] c = blk c := by
  simp [blk, List.contains, List.elem]
  cases h1 : c == 32 <;> cases h2 : c == 9 <;> simp_all
theorem trim_places {v : Bs} {a b : Nat} (hab : a ≤ b) (hb : b ≤ v.length) (h1 : ∀ j x, j < a → v[j]? = some x → blk x = true) (h2 : ∀ x, v[a]? = some x → blk x = true → False)
    (h3 : ∀ j x, b ≤ j → v[j]? = some x → blk x = true) (h4 : a < b → ∀ x, v[b - 1]? = some x → blk x = false) : Lib.trimS v [32, 9] = (v.drop a).take (b - a) := by
  unfold Lib.trimS
  rcases Nat.lt_or_ge a b with hlt | hge
  · rw [Lib.trimRightS_take v [32, 9] b hb (fun j x hj hx => by rw [contains_blk]; exact h3 j x hj hx) (fun x _ hx => by rw [contains_blk]; exact h4 hlt x hx)]
    rw [Lib.trimLeftS_drop (v.take b) [32, 9] a (by rw [List.length_take]; omega) (fun j x hj hx => by
        rw [List.getElem?_take] at hx
        rw [if_pos (by omega)] at hx
        rw [contains_blk]; exact h1 j x hj hx) (fun x hx => by
        rw [List.getElem?_take, if_pos hlt] at hx
        rw [contains_blk]
        cases hc : blk x with
        | false => rfl
        | true => exact (h2 x hx hc).elim)]
    rw [List.drop_take]
  · have e : a = b := by omega
    subst e
    have ha : a = v.length := by
      rcases Nat.lt_or_ge a v.length with h | h
      · exact (h2 v[a] (List.getElem?_eq_getElem h) (h3 a _ (Nat.le_refl _) (List.getElem?_eq_getElem h))).elim
      · omega
    rw [Lib.trimRightS_take v [32, 9] 0 (Nat.zero_le _) (fun j x _ hx => by
      rw [contains_blk]; exact h1 j x (by have := (List.getElem?_eq_some_iff.1 hx).1; omega) hx) (fun x h _ => absurd h (Nat.lt_irrefl _))]
    rw [Nat.sub_self, List.take_zero, List.take_zero]
    rfl
theorem blk_get (s : ByteArray) (k : Nat) (h : k < s.size) : blk (s[k]) = ((s[k].toNat : Int) == 32 || (s[k].toNat : Int) == 9) := by
  unfold blk
  congr 1
  · rw [Bool.eq_iff_iff, beq_iff_eq, beq_iff_eq]; exact (byte_eq (n := 32) (by decide)).symm
  · rw [Bool.eq_iff_iff, beq_iff_eq, beq_iff_eq]; exact (byte_eq (n := 9) (by decide)).symm
theorem get_data (s : ByteArray) (k : Nat) (h : k < s.size) : s.data.toList[k]? = some s[k] := by
  rw [List.getElem?_eq_getElem (by rw [size_list]; exact h)]; rfl
theorem all_upto {s : ByteArray} {p : UInt8 → Prop} (h : ∀ j x, j < s.size → s.data.toList[j]? = some x → p x) : ∀ x ∈ s.data.toList, p x := fun x hx => by
  obtain ⟨j, hj, e⟩ := List.getElem_of_mem hx
  exact h j x (by rw [size_list] at hj; exact hj) (by rw [List.getElem?_eq_getElem hj, e])
end Go.Proofs.YtgdhddkhnpcdmaaDoor.PT

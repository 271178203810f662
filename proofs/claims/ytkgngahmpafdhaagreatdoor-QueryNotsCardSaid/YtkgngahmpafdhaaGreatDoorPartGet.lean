/- What part.Field and part.Names return. Conditions: lengths, and that the cell of the library's MaxLen holds some int. -/
import Derived.Test.YtkgngahmpafdhaaGreatDoorPartFieldsWalk
namespace Go.Proofs.YtkgngahmpafdhaaGreatDoor.PT
open Go.RowKit Mailsack MM

/-- the slice value reads as these fields, in a block below B -/
def RdF (w : World) (B : Nat) (v : Value) (F : List (Bs × Bs)) : Prop :=
  ∃ A c, v = .slice A F.length c ∧ F.length ≤ c ∧ (0 < F.length → ∃ g, A = some ⟨g, 0, none⟩ ∧ g < B ∧ ∀ j p, F[j]? = some p → w.cell? ⟨g, j * 2, none⟩ = some (strV p.1) ∧ w.cell? ⟨g, j * 2 + 1, none⟩ = some (strV p.2))
theorem flat_get (F : List (Bs × Bs)) : ∀ (j : Nat) (p : Bs × Bs), F[j]? = some p → (F.flatMap fun p => [strV p.1, strV p.2])[j * 2]? = some (strV p.1) ∧ (F.flatMap fun p => [strV p.1, strV p.2])[j * 2 + 1]? = some (strV p.2) := by
  induction F with
  | nil => intro j p h; simp at h
  | cons q r ih =>
    intro j p h
    rw [List.flatMap_cons]
    cases j with
    | zero =>
      obtain rfl : q = p := by simpa using h
      exact ⟨rfl, rfl⟩
    | succ j =>
      have := ih j p (by simpa using h)
      rw [show (j + 1) * 2 = (j * 2) + 2 by omega]
      exact this
theorem OwnF.rd {w : World} {base : Nat} {v : Value} {F : List (Bs × Bs)} (h : OwnF w base v F) : RdF w w.heap.size v F := by
  rcases h.2 with ⟨h1, h2⟩ | ⟨g, cap, cur, h1, _, hg, hnc, _⟩
  · exact ⟨none, 0, by rw [h1, h2], by omega, fun h => by omega⟩
  · refine ⟨_, cap, h1, hnc, fun _ => ⟨g, rfl, blk_lt hg, fun j p hp => ?_⟩⟩
    have hadd : ∀ k, (⟨g, 0, none⟩ : Addr).add k = ⟨g, k, none⟩ := fun k => by unfold Addr.add; split <;> simp_all
    have h3 := World.ownsRow.cells h (g := g) (by rw [h1]; rfl) (j * 2) _ (flat_get F j p hp).1
    have h4 := World.ownsRow.cells h (g := g) (by rw [h1]; rfl) (j * 2 + 1) _ (flat_get F j p hp).2
    rw [hadd] at h3 h4
    exact ⟨h3, h4⟩
theorem RdF.below {w w' : World} {B : Nat} {v : Value} {F : List (Bs × Bs)} (h : RdF w B v F) (hb : Below B w w') : RdF w' B v F := by
  obtain ⟨A, c, h1, h2, h3⟩ := h
  refine ⟨A, c, h1, h2, fun hn => ?_⟩
  obtain ⟨g, h4, h5, h6⟩ := h3 hn
  exact ⟨g, h4, h5, fun j p hp => ⟨(hb.cell h5).trans (h6 j p hp).1, (hb.cell h5).trans (h6 j p hp).2⟩⟩
theorem fieldP_hit {F : List (Bs × Bs)} {nm : Bs} {p : Bs × Bs} (h : upP p.1 = upP nm) : fieldP (p :: F) nm = (p.2, true) := by
  unfold fieldP; simp [h]
theorem fieldP_miss {F : List (Bs × Bs)} {nm : Bs} {p : Bs × Bs} (h : ¬ upP p.1 = upP nm) : fieldP (p :: F) nm = fieldP F nm := by
  unfold fieldP; simp [h]
theorem strV_ne {a b : Bs} (h : ¬ a = b) : ((⟨a.toArray⟩ : ByteArray).toList == (⟨b.toArray⟩ : ByteArray).toList) = false := by
  rw [ByteArray.toList_eq, ByteArray.toList_eq]; simpa using h

theorem fieldsP_each {l : List Bs} {M : Nat} : ∀ (n : Nat), l.length ≤ n → (∀ x ∈ l, x.length ≤ M) → ∀ p ∈ fieldsP l, p.1.length ≤ M := by
  intro n
  induction n generalizing l with
  | zero =>
    intro h _ p hp
    have : l = [] := List.eq_nil_of_length_eq_zero (by omega)
    subst this; simp [fieldsP_nil] at hp
  | succ n ih =>
    intro h hl p hp
    cases l with
    | nil => simp [fieldsP_nil] at hp
    | cons f r =>
      have h' : r.length ≤ n := by simpa using h
      by_cases hc : (Lib.cut f [58]).2.2 = false ∨ isCont f = true
      · rw [fieldsP_skip hc] at hp
        exact ih h' (fun x hx => hl x (by simp [hx])) p hp
      · have hc' : (Lib.cut f [58]).2.2 = true ∧ isCont f = false := by
          constructor
          · cases hx : (Lib.cut f [58]).2.2 with
            | true => rfl
            | false => exact absurd (.inl hx) hc
          · cases hx : isCont f with
            | false => rfl
            | true => exact absurd (.inr hx) hc
        rw [fieldsP_take hc'.1 hc'.2] at hp
        rcases List.mem_cons.1 hp with hp | hp
        · rw [hp]
          exact Nat.le_trans (cut_len (show Lib.cut f [58] = ((Lib.cut f [58]).1, (Lib.cut f [58]).2.1, (Lib.cut f [58]).2.2) from rfl)) (hl f (by simp))
        · exact ih (Nat.le_trans (dropWhile_len _ _) h') (fun x hx => hl x (by simp [(List.dropWhile_sublist isCont).subset hx])) p hp

set_option maxHeartbeats 1000000 in
set_option maxRecDepth 100000 in
theorem field_any (s nm : ByteArray) (m : Int) (w : World) (hs : s.size ≤ 1000000) (hn : nm.size ≤ 1000000) (hm : w.cell? ⟨0, 0, none⟩ = some (.int .i64 m)) :
    Calls Tryz.prog 58 #[.string s, .string nm] w fun e w' => e = .returned (.tuple #[strV (fieldP (fieldsP (linesP s.data.toList)) nm.data.toList).1, .bool (fieldP (fieldsP (linesP s.data.toList)) nm.data.toList).2]) ∧ Below w.heap.size w w' := by
  have hw0 : 0 < w.heap.size := World.block_lt_of_cell? w _ hm
  have Hm := Lib.hid hm
  clear hm
  have hF := fieldsP_each (M := s.size) _ (Nat.le_refl _) (linesP_each s)
  have hFl := fieldsP_len _ (linesP s.data.toList) (Nat.le_refl _)
  have hN : Lib.countB s crSep ≤ s.size := Lib.countB_le crSep (by decide) _ s (Nat.le_refl _)
  rw [linesP_len] at hFl
  have HE := Lib.hid (fun w => fields_any s m w hs)
  generalize fieldsP (linesP s.data.toList) = F at hF hFl HE ⊢
  have HF := Lib.hid hF
  clear hF
  have hFl' : F.length ≤ 1000001 := by omega
  clear hFl hN
  go_enter Tryz.func58, Tryz.ntmps58
  go_wp2_with fail
  refine (upper_any nm _ (by omega)).mono ?_
  rintro e w1 ⟨rfl, hb1⟩
  go_wp2_with fail
  refine (HE.out _ ((hb1.cell hw0).trans Hm.out)).mono ?_
  rintro e w2 ⟨v, rfl, ho2, hb2⟩
  have hb := hb1.trans (hb2.mono hb1.size)
  have hrd := Lib.hid ho2.rd
  obtain ⟨A, c, e9, hc9⟩ := ho2.form
  subst e9
  have HB := Lib.hid hb
  clear hb1 hb2 ho2 hb HE
  go_wp2_with fail
  go_loopw [14] (fun iv wr => ∃ j : Nat, j ≤ F.length ∧ iv = .int .i64 j ∧ Hid (Below w2.heap.size w2 wr) ∧ Hid (fieldP (F.drop j) nm.data.toList = fieldP F nm.data.toList)) (fun iv _ => F.length - (intOf iv).toNat)
  case atStart => exact ⟨0, Nat.zero_le _, rfl, Lib.hid (Below.refl _ _), Lib.hid (by simp)⟩
  case round =>
    obtain ⟨j, hj, rfl, hbr, hf⟩ := hrel
    by_cases hlt : j < F.length
    · obtain ⟨p, hp⟩ : ∃ p, F[j]? = some p := ⟨_, List.getElem?_eq_getElem hlt⟩
      have hpl := HF.out p (List.mem_of_getElem? hp)
      have hdr : F.drop j = p :: F.drop (j + 1) := by
        rw [List.drop_eq_getElem_cons hlt]; congr 1; exact (List.getElem?_eq_some_iff.1 hp).2
      obtain ⟨A0, c0, e0, _, h0⟩ := hrd.out.below hbr.out
      injection e0 with e0 _ e0'
      subst e0 e0'
      obtain ⟨g, rfl, hg, h1⟩ := h0 (by omega)
      have q0 := (h1 j p hp).1
      have q1 := (h1 j p hp).2
      obtain ⟨a, b⟩ := p
      simp only at q0 q1 hpl
      have Hd := Lib.hid hdr
      clear h0 h1 hp hdr
      by_cases hu : upP a = upP nm.data.toList
      · have Hv := Lib.hid (show fieldP F nm.data.toList = (b, true) by rw [← hf.out, Hd.out]; exact fieldP_hit hu)
        have Hu := Lib.hid hu
        clear hu
        go_wp2_with fail
        refine (upper_any ⟨a.toArray⟩ _ (by rw [size_mk]; omega)).mono ?_
        rw [show upP (⟨a.toArray⟩ : ByteArray).data.toList = upP nm.data.toList from Hu.out]
        rintro e w5 ⟨rfl, hb5⟩
        have pk := blk_below (blk_new wr (.cells #[strV a, strV b] 99)) hb5 (by simp)
        have k1 : w5.cell? ⟨wr.heap.size, 1, none⟩ = some (strV b) := cell_blk pk 1
        have hB5 := Lib.hid ((hbr.out.alloc hbr.out.size (.cells #[strV a, strV b] 99)).trans (hb5.mono (by have := hbr.out.size; simp; omega)))
        clear pk hb5
        go_wp2
        go_ret2
        refine ⟨?_, HB.out.trans (hB5.out.mono HB.out.size)⟩
        rw [Hv.out]
        rfl
      · have Hf := Lib.hid (show fieldP (F.drop (j + 1)) nm.data.toList = fieldP F nm.data.toList by rw [← hf.out, Hd.out]; exact (fieldP_miss (p := (a, b)) hu).symm)
        have b1 : (upP a == upP nm.data.toList) = false := by simpa using hu
        clear hu
        go_wp2_with fail
        refine (upper_any ⟨a.toArray⟩ _ (by rw [size_mk]; omega)).mono ?_
        rintro e w5 ⟨rfl, hb5⟩
        have hB5 := Lib.hid ((hbr.out.alloc hbr.out.size (.cells #[strV a, strV b] 99)).trans (hb5.mono (by have := hbr.out.size; simp; omega)))
        clear hb5
        go_wp2
        go_roundw
        case rel => exact ⟨j + 1, by omega, by go_num, hB5, Hf⟩
        case measure => simp [intOf]; omega
    · have hj2 : j = F.length := by omega
      have Hv := Lib.hid (show fieldP F nm.data.toList = ([], false) by rw [← hf.out, hj2, List.drop_length]; rfl)
      clear hj2
      go_wp2
      go_ret2
      refine ⟨?_, HB.out.trans (hbr.out.mono HB.out.size)⟩
      rw [Hv.out]
      rfl

end Go.Proofs.YtkgngahmpafdhaaGreatDoor.PT

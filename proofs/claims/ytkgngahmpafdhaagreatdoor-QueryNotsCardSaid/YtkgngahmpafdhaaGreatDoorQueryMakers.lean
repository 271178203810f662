/- What makers returns: a map of the keys that start with a name. No conditions. -/
import Derived.Test.YtkgngahmpafdhaaGreatDoorQueryReader
namespace Go.Proofs.YtkgngahmpafdhaaGreatDoor.QU
open Go.RowKit Mailsack MM PT

/-- v is the maker of this kind; its boxes lie between lo and hi -/
def MakerIs (lo hi : Nat) (W : World) (v : Value) : QKind → Prop
  | .flags t m => ∃ b1 b2, v = .func (.func 38) #[] #[.pointer (some ⟨b1, 0, none⟩), .pointer (some ⟨b2, 0, none⟩)] ∧ lo < b1 ∧ b1 < hi ∧ lo < b2 ∧ b2 < hi ∧ Bx W b1 3 (.int .i64 t) ∧ Bx W b2 3 (.int .i64 m)
  | .size g => ∃ b1, v = .func (.func 40) #[] #[.pointer (some ⟨b1, 0, none⟩)] ∧ lo < b1 ∧ b1 < hi ∧ Bx W b1 60 (.func (.func (if g then 21 else 22)) #[] #[])
  | .field nm => ∃ b1, v = .func (.func 43) #[] #[.pointer (some ⟨b1, 0, none⟩)] ∧ lo < b1 ∧ b1 < hi ∧ Bx W b1 9 (strV nm)
  | .header => v = .func (.func 24) #[] #[]
  | .text b => ∃ b1, v = .func (.func 45) #[] #[.pointer (some ⟨b1, 0, none⟩)] ∧ lo < b1 ∧ b1 < hi ∧ Bx W b1 63 (.func (.func (textF b)) #[] #[])
  | .uid => v = .func (.func 28) #[] #[]
  | .not => v = .func (.func 29) #[] #[]
  | .or => v = .func (.func 30) #[] #[]
theorem MakerIs.kept {lo hi : Nat} {W W' : World} {v : Value} {k : QKind} (h : MakerIs lo hi W v k) (hk : ∀ b, lo < b → b < hi → W'.heap[b]? = W.heap[b]?) : MakerIs lo hi W' v k := by
  cases k with
  | flags t m =>
    obtain ⟨b1, b2, h1, h2, h3, h4, h5, h6, h7⟩ := h
    exact ⟨b1, b2, h1, h2, h3, h4, h5, (hk b1 h2 h3).trans h6, (hk b2 h4 h5).trans h7⟩
  | size g => obtain ⟨b1, h1, h2, h3, h4⟩ := h; exact ⟨b1, h1, h2, h3, (hk b1 h2 h3).trans h4⟩
  | field nm => obtain ⟨b1, h1, h2, h3, h4⟩ := h; exact ⟨b1, h1, h2, h3, (hk b1 h2 h3).trans h4⟩
  | header => exact h
  | text b => obtain ⟨b1, h1, h2, h3, h4⟩ := h; exact ⟨b1, h1, h2, h3, (hk b1 h2 h3).trans h4⟩
  | uid => exact h
  | not => exact h
  | or => exact h
theorem MakerIs.wide {lo hi hi' : Nat} {W : World} {v : Value} {k : QKind} (h : MakerIs lo hi W v k) (hh : hi ≤ hi') : MakerIs lo hi' W v k := by
  cases k with
  | flags t m =>
    obtain ⟨b1, b2, h1, h2, h3, h4, h5, h6, h7⟩ := h
    exact ⟨b1, b2, h1, h2, by omega, h4, by omega, h6, h7⟩
  | size g => obtain ⟨b1, h1, h2, h3, h4⟩ := h; exact ⟨b1, h1, h2, by omega, h4⟩
  | field nm => obtain ⟨b1, h1, h2, h3, h4⟩ := h; exact ⟨b1, h1, h2, by omega, h4⟩
  | header => exact h
  | text b => obtain ⟨b1, h1, h2, h3, h4⟩ := h; exact ⟨b1, h1, h2, by omega, h4⟩
  | uid => exact h
  | not => exact h
  | or => exact h
/-- the map mb has the makers of these kinds -/
structure TabAt (mb hi : Nat) (W : World) (ks : List (Bs × QKind)) (tab : List (Bs × Value)) : Prop where
  map : MapIs W mb tab
  keys : tab.map (·.1) = ks.map (·.1)
  each : ∀ (j : Nat) p k, tab[j]? = some p → ks[j]? = some k → MakerIs mb hi W p.2 k.2
/-- while it is made -/
structure MkAt (w : World) (mb : Nat) (W : World) (n : Nat) (tab : List (Bs × Value)) : Prop where
  tab : TabAt mb W.heap.size W (kinds.take n) tab
  bel : Below w.heap.size w W
theorem kinds_short : ∀ p ∈ kinds, p.1.length ≤ 1000000 := by decide
theorem kinds_apart : ∀ n, n < 25 → ∀ p ∈ kinds.take n, p.1 ≠ (kinds.getD n (wALL, .uid)).1 := by decide
theorem tab_short {mb hi : Nat} {W : World} {n : Nat} {tab : List (Bs × Value)} (h : TabAt mb hi W (kinds.take n) tab) : ∀ p ∈ tab, p.1.length ≤ 1000000 := by
  intro p hp
  have h1 : p.1 ∈ (kinds.take n).map (·.1) := by rw [← h.keys]; exact List.mem_map_of_mem (f := fun p : Bs × Value => p.1) hp
  obtain ⟨q, hq, e⟩ := List.mem_map.1 h1
  rw [← e]
  exact kinds_short q (List.mem_of_mem_take hq)
theorem tab_apart {mb hi : Nat} {W : World} {n : Nat} {tab : List (Bs × Value)} (h : TabAt mb hi W (kinds.take n) tab) (hn : n < 25) {s : Bs} (hs : (kinds.getD n (wALL, .uid)).1 = s) : ∀ p ∈ tab, p.1 ≠ s := by
  intro p hp
  have h1 : p.1 ∈ (kinds.take n).map (·.1) := by rw [← h.keys]; exact List.mem_map_of_mem (f := fun p : Bs × Value => p.1) hp
  obtain ⟨q, hq, e⟩ := List.mem_map.1 h1
  rw [← e, ← hs]
  exact kinds_apart n hn q hq
theorem MkAt.start (w : World) : MkAt w w.heap.size (w.alloc (.map #[] 0)) 0 [] :=
  ⟨⟨MapIs.new w, rfl, fun j p k h => by simp at h⟩, (Below.refl _ _).alloc (Nat.le_refl _) _⟩
theorem MkAt.kept {w W W' : World} {mb n : Nat} {tab : List (Bs × Value)} (h : MkAt w mb W n tab) (hb : Below W.heap.size W W') : MkAt w mb W' n tab :=
  ⟨⟨h.tab.map.kept (grown_of_below hb none) (by simp), h.tab.keys, fun j p k h1 h2 => ((h.tab.each j p k h1 h2).kept (fun b _ hb2 => hb.block b hb2)).wide hb.size⟩, h.bel.trans (hb.mono h.bel.size)⟩
/-- one more is put in -/
theorem MkAt.put {w W W' : World} {mb n : Nat} {tab : List (Bs × Value)} {v : Value} {s : Bs} {k : QKind} (h : MkAt w mb W n tab) (hmb : w.heap.size ≤ mb) (hk : kinds[n]? = some (s, k)) (hv : MakerIs mb W.heap.size W v k)
    (hm : MapIs W' mb (tab ++ [(s, v)])) (hg : W.grownBy W' (some mb)) : MkAt w mb W' (n + 1) (tab ++ [(s, v)]) := by
  have hl : tab.length = n := by
    have h1 := congrArg List.length h.tab.keys
    have h2 := (List.getElem?_eq_some_iff.1 hk).1
    simp at h1
    omega
  have ht : kinds.take (n + 1) = kinds.take n ++ [(s, k)] := by rw [List.take_add_one, hk]; rfl
  have hlk : (kinds.take n).length = n := by
    have h2 := (List.getElem?_eq_some_iff.1 hk).1
    rw [List.length_take]; omega
  refine ⟨⟨hm, ?_, ?_⟩, h.bel.grown hg h.bel.size (fun k e => by injection e with e; omega)⟩
  · rw [ht, List.map_append, List.map_append, h.tab.keys]; rfl
  · intro j p q h1 h2
    rw [ht] at h2
    by_cases hj : j < n
    · rw [List.getElem?_append_left (by omega)] at h1 h2
      exact ((h.tab.each j p q h1 h2).kept (fun b h3 h4 => hg.block b h4 (fun e => by injection e; omega))).wide hg.size
    · rw [List.getElem?_append_right (by omega)] at h1 h2
      rw [hl] at h1
      rw [hlk] at h2
      cases hjn : j - n with
      | zero =>
        rw [hjn] at h1 h2
        simp at h1 h2
        subst h1 h2
        exact (hv.kept (fun b h3 h4 => hg.block b h4 (fun e => by injection e; omega))).wide hg.size
      | succ i => rw [hjn] at h1; simp at h1
end Go.Proofs.YtkgngahmpafdhaaGreatDoor.QU

/- An argument that is a slice of texts, opened. No conditions but those stated. -/
import Derived.Test.YtiapdhllphcnnaaGreatDoorMem
import Derived.ProofKit
import Derived.SliceStrings
namespace Go.Proofs.YtiapdhllphcnnaaGreatDoor.MM
open Go.ChangeShapes Go.WideShapes Go.ChangeAt Go.RowKit

theorem open_rds_at {H : Type} {enc : TypeId × Value → H} {P : Program} {w : World} {t e : TypeId} {v : Value} {fuel : Nat} {x : DataW H × List MemPlace}
    (ht : P.underlying t = some (.slice e)) (he : P.underlying e = some .string) (hc : P.cellsOf e = 1) (hf : DataW.trod enc P w 0 (fun _ => true) true fuel t [v] = some x) :
    ∃ xs : List (List UInt8), RdS w w.heap.size v xs ∧ (∀ x ∈ xs, x.length ≤ 9223372036854775807) ∧ xs.length ≤ 9223372036854775807 := by
  rcases open_strings ht he hc hf with ⟨hcs, _⟩ | ⟨a, len', cap', ss, hcs, _, hl, hm, hz, _, hcell, hws⟩
  · have hcs' : v = .slice none 0 0 := by simpa using hcs
    rw [hcs']
    exact ⟨[], ⟨none, 0, rfl, Nat.le_refl _, fun h => absurd h (Nat.lt_irrefl _)⟩, by simp, by simp⟩
  · have hcs' : v = .slice (some a) len' cap' := by simpa using hcs
    rw [hcs']
    unfold maxLen at hm hws
    have hss : ss.length = cap' := by simpa using hz
    have hlen : ((ss.take len').map fun s => s.data.toList).length = len' := by simp; omega
    refine ⟨(ss.take len').map fun s => s.data.toList, ⟨some a, cap', by rw [hlen], by omega, fun hn => ?_⟩, ?_, by omega⟩
    · obtain ⟨b, off, spot⟩ := a
      have h0 := hcell 0 (by omega)
      have hspot : spot = none := by simpa [Addr.add] using World.cell?_spot h0
      subst hspot
      refine ⟨b, off, rfl, World.block_lt_of_cell? w _ (by simpa [Addr.add] using h0), fun j x hx => ?_⟩
      rw [List.getElem?_map, List.getElem?_take] at hx
      split at hx
      · rename_i hj
        have hjs : j < ss.length := by omega
        have h1 := hcell j hjs
        rw [List.getElem?_eq_getElem hjs] at hx
        simp only [Option.map_some, Option.some.injEq] at hx
        have hadd : (⟨b, off, none⟩ : Addr).add j = ⟨b, off + j, none⟩ := by unfold Addr.add; split <;> simp_all
        rw [hadd] at h1
        rw [h1, ← hx, List.getD_eq_getElem?_getD, List.getElem?_eq_getElem hjs]
        rfl
      · simp at hx
    · intro x hx
      obtain ⟨s, hs, rfl⟩ := List.mem_map.1 hx
      have := hws s (List.mem_of_mem_take hs)
      rw [Array.length_toList]
      exact this
theorem open_rds {H : Type} {enc : TypeId × Value → H} {P : Program} {w : World} {base : Nat} {t e : TypeId} {v : Value} {d : DataW H} {p : List MemPlace}
    (ht : P.underlying t = some (.slice e)) (he : P.underlying e = some .string) (hc : P.cellsOf e = 1) (hv : Value.okWide P w .any base t v) (h : DataW.Trod enc P w 0 (fun _ => true) true t v d p) :
    ∃ xs : List (List UInt8), RdS w w.heap.size v xs ∧ (∀ x ∈ xs, x.length ≤ 9223372036854775807) ∧ xs.length ≤ 9223372036854775807 := by
  obtain ⟨a0, len, cap, rfl⟩ := okWide_slice ht hv
  obtain ⟨fuel, hf⟩ := h
  exact open_rds_at ht he hc (by simpa [Value.cells] using hf)
end Go.Proofs.YtiapdhllphcnnaaGreatDoor.MM

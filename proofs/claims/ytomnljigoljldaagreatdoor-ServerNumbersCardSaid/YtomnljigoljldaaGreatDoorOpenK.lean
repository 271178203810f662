/- An argument that is a slice of numbers, opened. No conditions but those stated. -/
import Derived.Test.YtomnljigoljldaaGreatDoorOpenF
import Derived.Test.YtomnljigoljldaaGreatDoorMem
import Derived.ChangeSlices
namespace Go.Proofs.YtomnljigoljldaaGreatDoor.MM
open Go.ChangeShapes Go.WideShapes Go.ChangeAt Go.RowKit

/-- the slice value v reads as these numbers of the kind k -/
def RdK (k : IntKind) (w : World) (B : Nat) (v : Value) (L : List Int) : Prop :=
  ∃ A c, v = .slice A L.length c ∧ L.length ≤ c ∧ (0 < L.length → ∃ b off, A = some ⟨b, off, none⟩ ∧ b < B ∧ ∀ j r, L[j]? = some r → w.cell? ⟨b, off + j, none⟩ = some (.int k r))
theorem open_rdk {H : Type} {enc : TypeId × Value → H} {P : Program} {w : World} {base : Nat} {t e : TypeId} {k : IntKind} {v : Value} {d : DataW H} {p : List MemPlace}
    (ht : P.underlying t = some (.slice e)) (he : P.underlying e = some (.int k)) (hc : P.cellsOf e = 1) (hv : Value.okWide P w .any base t v) (h : DataW.Trod enc P w 0 (fun _ => true) true t v d p) :
    ∃ L : List Int, RdK k w w.heap.size v L ∧ (∀ n ∈ L, (Lit.int k n).wf = true) ∧ L.length ≤ 9223372036854775807 := by
  obtain ⟨a0, len, cap, rfl⟩ := okWide_slice ht hv
  obtain ⟨fuel, hf⟩ := h
  have hf' : DataW.trod enc P w 0 (fun _ => true) true fuel t [.slice a0 len cap] = some (d, p) := by simpa [Value.cells] using hf
  rcases open_ints ht he hc hf' with ⟨hcs, _⟩ | ⟨a, len', cap', zs, hcs, _, hl, hm, hz, _, hcell, hws⟩
  · have hcs' : Value.slice a0 len cap = .slice none 0 0 := by simpa using hcs
    rw [hcs']
    exact ⟨[], ⟨none, 0, rfl, Nat.le_refl _, fun h => absurd h (Nat.lt_irrefl _)⟩, by simp, by simp⟩
  · have hcs' : Value.slice a0 len cap = .slice (some a) len' cap' := by simpa using hcs
    rw [hcs']
    unfold maxLen at hm
    have hzz : zs.length = cap' := by simpa using hz
    have hlen : (zs.take len').length = len' := by rw [List.length_take]; omega
    refine ⟨zs.take len', ⟨some a, cap', by rw [hlen], by omega, fun hn => ?_⟩, fun n hn => hws n (List.mem_of_mem_take hn), by omega⟩
    obtain ⟨b, off, spot⟩ := a
    have h0 := hcell 0 (by omega)
    have hspot : spot = none := by simpa [Addr.add] using World.cell?_spot h0
    subst hspot
    refine ⟨b, off, rfl, World.block_lt_of_cell? w _ (by simpa [Addr.add] using h0), fun j x hx => ?_⟩
    rw [List.getElem?_take] at hx
    split at hx
    · have hjs : j < zs.length := (List.getElem?_eq_some_iff.1 hx).1
      have h1 := hcell j hjs
      have hadd : (⟨b, off, none⟩ : Addr).add j = ⟨b, off + j, none⟩ := by unfold Addr.add; split <;> simp_all
      rw [hadd] at h1
      rw [h1, List.getD_eq_getElem?_getD, hx]
      rfl
    · simp at hx
theorem RdK.below {k : IntKind} {w w' : World} {B B' : Nat} {v : Value} {L : List Int} (h : RdK k w B v L) (hb : Below B' w w') (hB : B ≤ B') : RdK k w' B v L := by
  obtain ⟨A, c, h1, h2, h3⟩ := h
  refine ⟨A, c, h1, h2, fun hn => ?_⟩
  obtain ⟨b, off, h4, h5, h6⟩ := h3 hn
  exact ⟨b, off, h4, h5, fun j x hx => (hb.cell (p := ⟨b, off + j, none⟩) (by simp; omega)).trans (h6 j x hx)⟩
end Go.Proofs.YtomnljigoljldaaGreatDoor.MM

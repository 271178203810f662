/- The fixed answer of layer 21 is true. No conditions. -/
import Derived.Test.YtiapdhllphcnnaaGreatDoorVerbTok
namespace Go.Proofs.YtiapdhllphcnnaaGreatDoor.VB
open Go.RowKit Mailsack MM BU

def awT : Bs := [97, 32, 76, 79, 71, 73, 78, 32, 34, 120, 32, 121, 34, 32, 40, 122, 41]
def awToks : List Tok := [(0, [97]), (0, [76, 79, 71, 73, 78]), (1, [120, 32, 121]), (2, []), (0, [122]), (3, [])]
theorem aw_tokens : tokensP [awT] [] = some awToks := by decide
theorem rds_one (w : World) (x : Bs) (t : TypeId) : RdS (w.alloc (.cells #[strV x] t)) (w.alloc (.cells #[strV x] t)).heap.size (.slice (some ⟨w.heap.size, 0, none⟩) 1 1) [x] := by
  refine ⟨_, _, rfl, Nat.le_refl _, fun _ => ⟨w.heap.size, 0, rfl, by simp, fun j y hy => ?_⟩⟩
  have hj : j = 0 := by
    have := (List.getElem?_eq_some_iff.1 hy).1
    simpa using this
  subst hj
  injection hy with hy
  subst hy
  exact cell_blk (blk_new w _) 0
theorem rds_none (w : World) (B : Nat) : RdS w B (.slice none 0 0) [] := ⟨none, 0, rfl, Nat.le_refl _, fun h => absurd h (Nat.lt_irrefl _)⟩
theorem own_cell {w : World} {B : Nat} {v : Value} {T : List Tok} (h : OwnT w B v T) (hT : 0 < T.length) : ∃ g cap, v = .slice (some ⟨g, 0, none⟩) T.length cap ∧ T.length ≤ cap ∧ g < w.heap.size ∧ ∀ j u, (tokCells T)[j]? = some u → w.cell? ⟨g, j, none⟩ = some u := by
  rcases h.2 with ⟨_, h2⟩ | ⟨g, cap, cur, h1, hb, h3, hc, _⟩
  · omega
  · refine ⟨g, cap, h1, hc, blk_lt h3, fun j u hu => ?_⟩
    have := World.ownsRow.cells h (g := g) (by rw [h1]; rfl) j u hu
    have hadd : (⟨g, 0, none⟩ : Addr).add j = ⟨g, j, none⟩ := by unfold Addr.add; split <;> simp_all
    rwa [hadd] at this
theorem aw_quote : quoteP [120, 32, 121] = [34, 120, 32, 121, 34] := by decide
theorem aw_upper : upP [97, 49] = [65, 49] := by decide

end Go.Proofs.YtiapdhllphcnnaaGreatDoor.VB

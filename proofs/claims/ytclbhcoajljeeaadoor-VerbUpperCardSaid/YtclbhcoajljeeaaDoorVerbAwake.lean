/- The fixed answer of layer 21 is true. No conditions. -/
import Derived.Test.YtclbhcoajljeeaaDoorVerbTok
namespace Go.Proofs.YtclbhcoajljeeaaDoor.VB
open Go.RowKit Mailsack MM BU

def awT : Bs := [97, 32, 76, 79, 71, 73, 78, 32, 34, 120, 32, 121, 34, 32, 40, 122, 41]
def awToks : List Tok := [(0, [97]), (0, [76, 79, 71, 73, 78]), (1, [120, 32, 121]), (2, []), (0, [122]), (3, [])]
theorem aw_tokens : tokensP [awT] [] = some awToks := by decide
theorem rds_one (w : World) (x : Bs) (t : TypeId) : RdS (w.alloc (.cells #[strV x] t)) (w.alloc (.cells #[strV x] t)).heap.size (.slice (some ⟨w.heap.size, 0, none⟩) 1 1) [x] := by
  refine ⟨_, _, rfl, Nat.le_refl _, fun _ => ⟨w.heap.size, 0, rfl, by simp, fun j y hy => ?_⟩⟩
  have hj : j = 0 := by
    have := (List.getElem?_eq_some_iff.1 hy).1
    simpa using this
  subst hj
  injection hy with hy
  subst hy
  exact cell_blk (blk_new w _) 0
theorem rds_none (w : World) (B : Nat) : RdS w B (.slice none 0 0) [] := ⟨none, 0, rfl, Nat.le_refl _, fun h => absurd h (Nat.lt_irrefl _)⟩
theorem own_cell {w : World} {B : Nat} {v : Value} {T : List Tok} (h : OwnT w B v T) (hT : 0 < T.length) : ∃ g cap, v = .slice (some ⟨g, 0, none⟩) T.length cap ∧ T.length ≤ cap ∧ g < w.heap.size ∧ ∀ j u, (tokCells T)[j]? = some u → w.cell? ⟨g, j, none⟩ = some u := by
  rcases h.2 with ⟨_, h2⟩ | ⟨g, cap, cur, h1, hb, h3, hc, _⟩
  · omega
  · refine ⟨g, cap, h1, hc, blk_lt h3, fun j u hu => ?_⟩
    have := World.ownsRow.cells h (g := g) (by rw [h1]; rfl) j u hu
    have hadd : (⟨g, 0, none⟩ : Addr).add j = ⟨g, j, none⟩ := by unfold Addr.add; split <;> simp_all
    rwa [hadd] at this
theorem aw_quote : quoteP [120, 32, 121] = [34, 120, 32, 121, 34] := by decide
theorem aw_upper : upP [97, 49] = [65, 49] := by decide

set_option maxHeartbeats 8000000 in
set_option maxRecDepth 100000 in
theorem awake_any (w : World) :
    Calls Tryd.prog 6 #[] w fun e w' => e = .returned (.bool true) ∧ Below w.heap.size w w' := by
  have HT := Lib.hid (tokens_any _ _ [awT] [] _ (rds_one w awT 9) (rds_none _ _) (by intro x hx; rw [List.mem_singleton.1 hx]; decide) (by decide) (by decide))
  rw [aw_tokens] at HT
  have HQ := Lib.hid (fun w => quote_any ⟨#[120, 32, 121]⟩ w (by decide) (fun h => absurd h (by decide)))
  have HU := Lib.hid (fun w => upper_any ⟨#[97, 49]⟩ w (by decide))
  rw [show (⟨#[120, 32, 121]⟩ : ByteArray).data.toList = [120, 32, 121] from rfl, aw_quote] at HQ
  rw [show (⟨#[97, 49]⟩ : ByteArray).data.toList = [97, 49] from rfl, aw_upper] at HU
  go_enter Tryd.func6, Tryd.ntmps6
  go_wp2_with fail
  refine HT.out.mono ?_
  rintro e w2 ⟨v, rfl, hown, hb2⟩
  obtain ⟨g, cap, rfl, hcap, hg, hcell⟩ := own_cell hown (by decide)
  have k4 : w2.cell? ⟨g, 4, none⟩ = some (.int .i64 1) := hcell 4 _ rfl
  have k5 : w2.cell? ⟨g, 5, none⟩ = some (.string ⟨#[120, 32, 121]⟩) := hcell 5 _ rfl
  have k6 : w2.cell? ⟨g, 6, none⟩ = some (.int .i64 2) := hcell 6 _ rfl
  have HB2 := Lib.hid (((Below.refl w.heap.size w).alloc (Nat.le_refl _) (.cells #[strV awT] 9)).trans (hb2.mono (by simp)))
  rw [show (awToks.length) = 6 from rfl] at hcap ⊢
  clear hown hcell hb2 HT
  go_wp2_with fail
  refine (HQ.out _).mono ?_
  rintro e w3 ⟨rfl, hb3⟩
  have HB3 := Lib.hid (HB2.out.trans (hb3.mono HB2.out.size))
  clear hb3
  go_wp2_with fail
  refine (HU.out _).mono ?_
  rintro e w4 ⟨rfl, hb4⟩
  have HB4 := Lib.hid (HB3.out.trans (hb4.mono HB3.out.size))
  clear hb4
  go_wp2
  go_ret
  exact ⟨rfl, HB4.out⟩
end Go.Proofs.YtclbhcoajljeeaaDoor.VB

/- The fixed answer of layer 14 is true. Conditions: that the cell of the library's MaxLen holds some int, and its table of powers lies as its text lays it. -/
import Derived.Test.YtdcdflhglcpleaaDoorSpanText
namespace Go.Proofs.YtdcdflhglcpleaaDoor.SP
open Go.RowKit Mailsack MM BU

theorem aw_parse : parseS [49, 44, 51, 58, 53, 44, 42] = some [(1, 1), (3, 5), (0, 0)] := by decide
theorem itoa_dig {n : Nat} (h : n < 10) : Lib.itoa (n : Int) = [UInt8.ofNat (48 + n)] := by rw [itoa_nat, Lib.decDigits_one h]
theorem aw_text : textS [1, 2, 3, 7] = [49, 58, 51, 44, 55] := by
  have e1 : Lib.itoa 1 = [49] := itoa_dig (n := 1) (by decide)
  have e3 : Lib.itoa 3 = [51] := itoa_dig (n := 3) (by decide)
  have e7 : Lib.itoa 7 = [55] := itoa_dig (n := 7) (by decide)
  simp [textS, textR, partT, runLen, fol, e1, e3, e7]
theorem aw_has : hasS [(1, 1), (3, 5), (0, 0)] 9 9 = true := by decide
theorem own_cellR {w : World} {B : Nat} {v : Value} {T : List (Int × Int)} (h : OwnR w B v T) (hT : 0 < T.length) : ∃ g cap, v = .slice (some ⟨g, 0, none⟩) T.length cap ∧ T.length ≤ cap ∧ g < w.heap.size ∧ ∀ j u, (rngCells T)[j]? = some u → w.cell? ⟨g, j, none⟩ = some u := by
  rcases h.2 with ⟨_, h2⟩ | ⟨g, cap, cur, h1, hb, h3, hc, _⟩
  · omega
  · refine ⟨g, cap, h1, hc, blk_lt h3, fun j u hu => ?_⟩
    have := World.ownsRow.cells h (g := g) (by rw [h1]; rfl) j u hu
    have hadd : (⟨g, 0, none⟩ : Addr).add j = ⟨g, j, none⟩ := by unfold Addr.add; split <;> simp_all
    rwa [hadd] at this
theorem rdi_blk {w : World} {g : Nat} {t : TypeId} {l : List Int} (h : w.heap[g]? = some (.cells (l.map intV).toArray t (0, 0))) : RdI w w.heap.size (.slice (some ⟨g, 0, none⟩) l.length l.length) l :=
  ⟨_, _, rfl, Nat.le_refl _, fun _ => ⟨g, 0, rfl, blk_lt h, fun j r hr => by rw [Nat.zero_add, cell_blk h j]; simp [hr]⟩⟩

set_option maxHeartbeats 4000000 in
set_option maxRecDepth 100000 in
theorem awake_any (m : Int) (w : World) (hm : w.cell? ⟨0, 0, none⟩ = some (.int .i64 m)) (htab : Tab w) :
    Calls Tryd.prog 8 #[] w fun e w' => e = .returned (.bool true) ∧ Below w.heap.size w w' := by
  have HP := Lib.hid (parse_any ⟨#[49, 44, 51, 58, 53, 44, 42]⟩ m w (by decide) hm)
  rw [show (⟨#[49, 44, 51, 58, 53, 44, 42]⟩ : ByteArray).data.toList = [49, 44, 51, 58, 53, 44, 42] from rfl, aw_parse] at HP
  have Htab := Lib.hid htab
  clear htab hm
  go_enter Tryd.func8, Tryd.ntmps8
  go_wp2_with fail
  refine HP.out.mono ?_
  rintro e w2 ⟨v, rfl, hown, hb2⟩
  have hrd := Lib.hid hown.rd
  obtain ⟨g, cap, rfl, hcap, hg, hcell⟩ := own_cellR hown (by decide)
  have k2 : w2.cell? ⟨g, 2, none⟩ = some (.int .i64 3) := hcell 2 _ rfl
  have k3 : w2.cell? ⟨g, 3, none⟩ = some (.int .i64 5) := hcell 3 _ rfl
  have k4 : w2.cell? ⟨g, 4, none⟩ = some (.int .i64 0) := hcell 4 _ rfl
  rw [show ([(1, 1), (3, 5), (0, 0)] : List (Int × Int)).length = 3 from rfl] at hcap hrd ⊢
  have HB2 := Lib.hid hb2
  have HT := Lib.hid (text_any _ [1, 2, 3, 7] _ (rdi_blk (l := [1, 2, 3, 7]) (blk_new w2 (.cells #[intV 1, intV 2, intV 3, intV 7] 3))) (by decide) (by decide) (Lib.tabBelow_of_tabIs Htab.out _ (hb2.alloc hb2.size _)))
  rw [aw_text] at HT
  have HB3 := Lib.hid (hb2.alloc hb2.size (.cells #[intV 1, intV 2, intV 3, intV 7] 3))
  have hg2 := Lib.hid hg
  clear hown hcell hb2 HP hg
  go_wp2_with fail
  refine HT.out.mono ?_
  rintro e w3 ⟨rfl, hb3⟩
  have HB4 := Lib.hid (HB3.out.trans (hb3.mono HB3.out.size))
  have hrd3 := Lib.hid (((hrd.out.below ((Below.refl _ _).alloc (Nat.le_refl _) (.cells #[intV 1, intV 2, intV 3, intV 7] 3)) (Nat.le_refl _)).below hb3 (by simp)).more (show w2.heap.size ≤ w3.heap.size from Nat.le_trans (by simp) hb3.size))
  clear hb3 HT
  go_wp2_with fail
  refine (has_any _ _ 9 9 _ hrd3.out (by decide)).mono ?_
  rw [aw_has]
  rintro e w4 ⟨rfl, hb4⟩
  have HB5 := Lib.hid (HB4.out.trans (hb4.mono HB4.out.size))
  clear hb4
  go_wp2
  go_ret
  exact ⟨rfl, HB5.out⟩
end Go.Proofs.YtdcdflhglcpleaaDoor.SP

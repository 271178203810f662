/- What (*scanner).add of layer 21 does to a scanner that the call has made. Conditions: as stated. -/
import Derived.Test.YtiapdhllphcnnaaGreatDoorVerbRq
import Derived.Test.YtiapdhllphcnnaaGreatDoorVerbTokPlain
namespace Go.Proofs.YtiapdhllphcnnaaGreatDoor.VB
open Go.RowKit Mailsack MM BU

def tokCells (T : List Tok) : List Value := T.flatMap fun t => [.int .i64 t.1, strV t.2]
theorem tokCells_snoc (T : List Tok) (t : Tok) : tokCells (T ++ [t]) = tokCells T ++ [.int .i64 t.1, strV t.2] := by simp [tokCells]
abbrev OwnT (w : World) (B : Nat) (v : Value) (T : List Tok) : Prop := w.ownsRow B 78 2 v T.length (tokCells T)
/-- a scanner, at the block b, with these tokens and that depth -/
def Scn (B b : Nat) (T : List Tok) (d : Nat) (w : World) : Prop :=
  B ≤ b ∧ T.length ≤ 41 ∧ ∃ v, w.heap[b]? = some (.cells #[v, .int .i64 d] 98 (0, 0)) ∧ OwnT w B v T ∧ v.ownBlock ≠ some b
theorem infoTok : (Tryz.prog.info? 78).map (fun i => (i.zero.map (·.cells.size), i.size, i.bytes)) = some (some 2, 2, 24) := by kernel_rfl
theorem own_ne {w : World} {B b : Nat} {v : Value} {T : List Tok} {cs : Array Value} (h : OwnT w B v T) (hb : w.heap[b]? = some (.cells cs 98 (0, 0))) : v.ownBlock ≠ some b := by
  rcases h.2 with ⟨h1, _⟩ | ⟨g, cap, cur, h1, _, h3, _⟩
  · rw [h1]; simp [Value.ownBlock]
  · rw [h1]
    intro e
    have e : g = b := by simpa [Value.ownBlock] using e
    rw [e, hb] at h3
    injection h3 with h3
    injection h3 with _ h3
    exact absurd h3 (by decide)
theorem Scn.keep {B b : Nat} {T : List Tok} {d : Nat} {w w' : World} (h : Scn B b T d w) (hb : Below w.heap.size w w') : Scn B b T d w' := by
  obtain ⟨h1, h2, v, h3, h4, h5⟩ := h
  exact ⟨h1, h2, v, blk_below h3 hb (blk_lt h3), h4.kept (grown_of_below hb none) (by cases v.ownBlock <;> simp), h5⟩
theorem Scn.deep {B b : Nat} {T : List Tok} {d : Nat} {w : World} (h : Scn B b T d w) (d' : Nat) : Scn B b T d' (w.setCell ⟨b, 1, none⟩ (.int .i64 d')) := by
  obtain ⟨h1, h2, v, h3, h4, h5⟩ := h
  refine ⟨h1, h2, v, blk_set h3 1 _, ?_, h5⟩
  exact h4.kept (row := some b) ⟨rfl, rfl, rfl, by simp [World.setCell], fun k _ hk => Below.heap_setCell _ _ _ _ (fun e => hk (by simp [e]))⟩ (Or.inr h5)

set_option maxHeartbeats 1000000 in
set_option maxRecDepth 100000 in
theorem add_any (B b : Nat) (T : List Tok) (d : Nat) (k : Nat) (s : ByteArray) (w : World) (h : Scn B b T d w) (hB : B ≤ w.heap.size) :
    Calls Tryz.prog 37 #[.pointer (some ⟨b, 0, none⟩), .int .i64 k, .string s] w fun e w' => e = .returned (.tuple #[]) ∧ Scn B b (addP T (k, s.data.toList)) d w' ∧ Below B w w' := by
  have Hh := Lib.hid h
  obtain ⟨hBb, hT, v, hbk, hown, hne⟩ := h
  obtain ⟨i0, hi, hi'⟩ := Option.map_eq_some_iff.1 infoTok
  injection hi' with hz0 hi'
  injection hi' with hz1 hz2
  obtain ⟨z, hz0, hzs⟩ := Option.map_eq_some_iff.1 hz0
  obtain ⟨A, cp, e9⟩ : ∃ A cp, v = .slice A T.length cp := by
    rcases hown.2 with ⟨h1, h2⟩ | ⟨g, cap, cur, h1, _⟩
    · exact ⟨none, 0, by rw [h1, h2]⟩
    · exact ⟨_, _, h1⟩
  subst e9
  have hown' := Lib.hid hown
  have Hne := Lib.hid hne
  have Hbk := Lib.hid hbk
  have k1 : w.cell? ⟨b, 0, none⟩ = some (.slice A T.length cp) := cell_blk hbk 0
  have hlt := blk_lt hbk
  clear hown hne hbk
  by_cases h40 : T.length ≤ 40
  · have hadd : addP T (k, s.data.toList) = T ++ [(k, s.data.toList)] := by unfold addP; rw [if_pos h40]
    rw [hadd]
    clear hadd
    go_enter Tryz.func37, Tryz.ntmps37
    go_wp2_with (at_builtin; refine wpList_append_lies _ rfl _ _ 74 rfl B 78 i0 z 2 24 Tryz.underlying74 hi hz0 hz1 hz2 hzs (by decide) _ _ _ rfl (World.ownsRow.alloc hown'.out _) ⟨w.heap.size, 0, none⟩ 1 1 [.int .i64 k, .string s] rfl rfl (World.news_of_block (blk_new _ _)) (by intro u hu; simp at hu; rcases hu with rfl | rfl <;> rfl) (by decide) (by unfold maxLen; omega) (by omega) (by simp; omega) (w.heap.size + 1) (by simp) ?_; intro g cap w2 hown2 hgrow hat hlt2; have pk := Lib.hid (blk_grown (blk_alloc Hbk.out _) hgrow (fun e => Hne.out e.symm)); have k2 : w2.cell? ⟨b, 0, none⟩ = some (.slice A T.length cp) := cell_blk pk.out 0; have y2 : w2.frozen? ⟨b, 0, none⟩ = false := free_blk pk.out 0; have Hown2 := Lib.hid hown2; have Hgrow := Lib.hid hgrow; clear hown2 hgrow)
    go_end0
    have hown3 : OwnT w2 B (.slice (some ⟨g, 0, none⟩) (T.length + 1) cap) (T ++ [(k, s.data.toList)]) := by
      unfold OwnT; rw [tokCells_snoc, List.length_append]; exact Hown2.out
    have hne3 := own_ne hown3 pk.out
    refine ⟨rfl, ⟨hBb, by simp; omega, _, blk_set pk.out 0 _, ?_, hne3⟩, ?_⟩
    · exact hown3.kept (row := some b) ⟨rfl, rfl, rfl, by simp [World.setCell], fun k _ hk => Below.heap_setCell _ _ _ _ (fun e => hk (by simp [e]))⟩ (Or.inr hne3)
    · refine Below.setCell ?_ (p := ⟨b, 0, none⟩) hBb _
      exact ((Below.refl B w).alloc hB _).grown Hgrow.out (by simp; omega) (fun k hk => (World.ownsRow.lt hown'.out k hk).1)
  · have hadd : addP T (k, s.data.toList) = T := by unfold addP; rw [if_neg h40]
    rw [hadd]
    clear hadd
    go_enter Tryz.func37, Tryz.ntmps37
    go_wp2
    go_end0
    exact ⟨rfl, Hh.out, Below.refl B w⟩
end Go.Proofs.YtiapdhllphcnnaaGreatDoor.VB

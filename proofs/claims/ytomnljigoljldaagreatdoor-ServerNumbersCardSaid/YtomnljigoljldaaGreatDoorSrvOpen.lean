/- What server.Open returns, and what it turns. Conditions: the server's block and its map. -/
import Derived.Test.YtomnljigoljldaaGreatDoorSrvMap
import Derived.Test.YtomnljigoljldaaGreatDoorRegL
import Derived.WalkSpells
namespace Go.Proofs.YtomnljigoljldaaGreatDoor.SV
open Go.RowKit MM Mailsack BB Go.Maps

/-- a new client that runs f -/
abbrev cliN (f : Value) : Obj := cliO ⟨#[]⟩ 0 (.bool false) (.bool false) (.bool false) (.bool false) es es (.slice none 0 0) es es es (.int .i64 0) (.slice none 0 0) (.slice none 0 0) (.int .i64 0) es (.bool false) (.bool false) false f
/-- what a client of this kind runs -/
abbrev runV (kind : Int) (cb : Nat) : Value := .func (.func (if kind = 1 then 18 else 19)) #[pt cb] #[]

set_option maxHeartbeats 1000000 in
set_option maxRecDepth 100000 in
theorem open_none (kind : Int) (w : World) : Calls Tryz.prog 8 #[.pointer none, .int .i64 kind] w fun e w' => e = .returned (.tuple #[.int .i64 0, .int .i64 1]) ∧ w' = w := by
  go_enter Tryz.func8, Tryz.ntmps8
  go_wp2
  go_ret2
  exact ⟨rfl, rfl⟩
set_option maxHeartbeats 1000000 in
set_option maxRecDepth 100000 in
theorem open_what (sb : Nat) (kind : Int) (w : World) (h1 : ¬ kind = 1) (h2 : ¬ kind = 2) : Calls Tryz.prog 8 #[pt sb, .int .i64 kind] w fun e w' => e = .returned (.tuple #[.int .i64 0, .int .i64 1]) ∧ Below w.heap.size w w' := by
  have e1 : (kind == 1) = false := by simpa using h1
  have e2 : (kind == 2) = false := by simpa using h2
  go_enter Tryz.func8, Tryz.ntmps8
  go_wp2
  go_ret2
  exact ⟨rfl, (Below.refl _ _).alloc (Nat.le_refl _) _⟩

/-- the memory of Open's walk -/
structure OpI (w : World) (sb mb n : Nat) (s c : Obj) (L : List (Int × Nat)) (W : World) : Prop where
  srv : W.heap[sb]? = some s
  cli : W.heap[w.heap.size]? = some c
  map : OwnM W mb n L
  tn : Tn (fun i => i = sb ∨ i = mb) w W

set_option maxHeartbeats 1000000 in
set_option maxRecDepth 100000 in
theorem open_read (sb mb n : Nat) (d0 d1 : Value) (seed : ByteArray) (k : Int) (last : Nat) (L : List (Int × Nat)) (w : World) (hs : w.heap[sb]? = some (srvO d0 d1 seed k last (.map (some mb)))) (hm : OwnM w mb n L) (hne : sb ≠ mb) (hn : n < 1000000) (hl : last ≤ 1000000) (hL : L.length < 4) (hlt : ∀ p ∈ L, p.1 < (last : Int) + 1) :
    Calls Tryz.prog 8 #[pt sb, .int .i64 2] w fun e w' => e = .returned (.tuple #[.int .i64 ((last : Int) + 1), .int .i64 0]) ∧ w'.heap[sb]? = some (srvO d0 d1 seed k ((last : Int) + 1) (.map (some mb))) ∧
      w'.heap[w.heap.size]? = some (cliN (.func (.func 19) #[pt w.heap.size] #[])) ∧ OwnM w' mb (n + 1) (L ++ [((last : Int) + 1, w.heap.size)]) ∧ Tn (fun i => i = sb ∨ i = mb) w w' := by
  have hslt := blk_lt hs
  have hmlt := hm.lt
  have TF := fun (W : World) (a : Addr) => run_store Tryz.prog W a (.func (.func 19) #[pt w.heap.size] #[]) .plain rfl
  have HLEN : Hid (∀ W, OwnM W mb n L → (Builtin.len_ #[47] 3 #[.map (some mb)]).run Tryz.prog W = .ok (.int .i64 L.length) W) := Lib.hid (fun W h => by have := h.len Tryz.underlying47 3; rwa [mapD_size] at this)
  have hLi : ¬ (4 ≤ (L.length : Int)) := by omega
  have b0 := blk_new w (cliN .nilFunc)
  have c20 := cell_blk b0 20
  have y20 := free_blk b0 20
  have HO : Hid (OpI w sb mb n (srvO d0 d1 seed k last (.map (some mb))) (cliN (.func (.func 19) #[pt w.heap.size] #[])) L (w.alloc (cliN (.func (.func 19) #[pt w.heap.size] #[])))) :=
    Lib.hid ⟨blk_alloc hs _, blk_new _ _, hm.alloc _, (Tn.refl _ _).alloc _⟩
  clear b0 hs hm
  go_enter Tryz.func8, Tryz.ntmps8
  go_upto_region 10 with fail
  generalize w.alloc (cliN (.func (.func 19) #[pt w.heap.size] #[])) = w1 at HO ⊢
  clear TF c20 y20
  have c5 := cell_blk HO.out.srv 5
  have hlen := HLEN.out w1 HO.out.map
  have c4 := cell_blk HO.out.srv 4
  have y4 := free_blk HO.out.srv 4
  have hnl := fun W => run_eql_map_nil (P := Tryz.prog) W 47 _ _ (some mb) Tryz.underlying47
  go_upto_region 15 with fail
  have HO2 : Hid (OpI w sb mb n (srvO d0 d1 seed k ((last : Int) + 1) (.map (some mb))) (cliN (.func (.func 19) #[pt w.heap.size] #[])) L (w1.setCell ⟨sb, 4, none⟩ (.int .i64 ((last : Int) + 1)))) :=
    Lib.hid ⟨blk_set HO.out.srv 4 _, blk_far HO.out.cli (p := ⟨sb, 4, none⟩) (by simp; omega) _, HO.out.map.setCell (a := ⟨sb, 4, none⟩) (Ne.symm hne) _, HO.out.tn.set (p := ⟨sb, 4, none⟩) (.inl (.inl rfl)) _⟩
  generalize w1.setCell ⟨sb, 4, none⟩ (.int .i64 ((last : Int) + 1)) = w2 at HO2 ⊢
  clear c4 c5 y4 hlen hnl HLEN HO
  have hwf : (Lit.int .i64 ((last : Int) + 1)).wf = true := wf_i64 _ (by omega) (by omega)
  refine RG.wp_region_detL [9] (fun Z W => Hid (OpI w sb mb (if Z 9 = true then n + 1 else n) (srvO d0 d1 seed k ((last : Int) + 1) (.map (some mb))) (cliN (.func (.func 19) #[pt w.heap.size] #[])) (if Z 9 = true then L ++ [((last : Int) + 1, w.heap.size)] else L) W)) (fun Z Z' W hl h => by rw [← hl 9 (by simp)]; exact h) (by kernel_rfl) (by kernel_rfl) (by kernel_rfl) (Lib.hid ⟨HO2.out.srv, HO2.out.cli, HO2.out.map, HO2.out.tn.drew⟩) ?_
  clear HO2
  iterate 3
    apply RG.wpDetL_still
    · rfl
    · intro L w9 hw9
      repeat go_step
      with_reducible refine RG.only_mk ?_
      exact hw9
    · rfl
  apply RG.wpDetL_still
  · rfl
  · intro L w9 hw9
    have q := cell_blk hw9.out.srv 5
    repeat go_step
    with_reducible refine RG.only_mk ?_
    exact hw9
  · rfl
  iterate 3
    apply RG.wpDetL_still
    · rfl
    · intro L w9 hw9
      repeat go_step
      with_reducible refine RG.only_mk ?_
      exact hw9
    · rfl
  apply RG.wpDetL_still
  · rfl
  · intro L w9 hw9
    have q := cell_blk hw9.out.srv 4
    repeat go_step
    with_reducible refine RG.only_mk ?_
    exact hw9
  · rfl
  apply RG.wpDetL_still
  · rfl
  · intro L w9 hw9
    repeat go_step
    with_reducible refine RG.only_mk ?_
    exact hw9
  · rfl
  apply RG.wpDetL_turn
  · rfl
  · intro Z w9 h0 _ hw9
    have hmp := hw9.out.map
    rw [if_neg (by simp [h0]), if_neg (by simp [h0])] at hmp
    refine wpList_mapUpdate_own _ rfl _ _ _ _ rfl _ _ keyT Tryz.underlying47 reC mb n (mapD L) rfl hmp (by unfold maxLen; omega) (.int .i64 ((last : Int) + 1)) (pt w.heap.size) (.int .i64 ((last : Int) + 1)) rfl rfl (keyOf_int_mk Tryz.underlying3 hwf) (.lit (.int .i64 (w.heap.size : Int))) [] rfl ?_
    intro w10 hown hgrow
    rw [mapD_put L _ _ hlt] at hown
    repeat go_step
    with_reducible refine RG.only_mk ?_
    refine Lib.hid ⟨blk_grown hw9.out.srv hgrow (by simp; exact hne), blk_grown hw9.out.cli hgrow (by simp; omega), ?_, hw9.out.tn.grown hgrow (.inr rfl)⟩
    rw [if_pos (by simp), if_pos (by simp)]
    exact hown
  · rfl
  refine RG.wpDetL_nil (fun w5 hw5 => ?_)
  have hmp := hw5.out.map
  rw [if_pos rfl, if_pos rfl] at hmp
  have c4 := cell_blk hw5.out.srv 4
  have HMP := Lib.hid hmp
  clear hmp
  go_wp2
  go_ret2
  exact ⟨rfl, hw5.out.srv, hw5.out.cli, HMP.out, hw5.out.tn⟩
end Go.Proofs.YtomnljigoljldaaGreatDoor.SV

/- What server.Open of a client that hands mail in, Shut and Crash return, and what they turn. Conditions: the server's block and its map; of Crash: that its disk is one of zeros. -/
/- What server.Crash of nothing kept does to a server whose disk is one of equal sectors that begin with no mark. Conditions: the server's block, its map, its disk. -/
import Derived.Test.YtomnljigoljldaaGreatDoorSrvOpen
import Derived.Test.YtomnljigoljldaaGreatDoorWalA

namespace Go.Proofs.YtomnljigoljldaaGreatDoor.SV
open Go.RowKit MM Mailsack BB Go.Maps Go.MapKept Go.ChangeMaps

set_option maxHeartbeats 1000000 in
set_option maxRecDepth 100000 in
theorem open_mail (sb mb n : Nat) (d0 d1 : Value) (seed : ByteArray) (k : Int) (last : Nat) (L : List (Int × Nat)) (w : World) (hs : w.heap[sb]? = some (srvO d0 d1 seed k last (.map (some mb)))) (hm : OwnM w mb n L) (hne : sb ≠ mb) (hn : n < 1000000) (hl : last ≤ 1000000) (hL : L.length < 4) (hlt : ∀ p ∈ L, p.1 < (last : Int) + 1) :
    Calls Tryz.prog 8 #[pt sb, .int .i64 1] w fun e w' => e = .returned (.tuple #[.int .i64 ((last : Int) + 1), .int .i64 0]) ∧ w'.heap[sb]? = some (srvO d0 d1 seed k ((last : Int) + 1) (.map (some mb))) ∧
      w'.heap[w.heap.size]? = some (cliN (.func (.func 18) #[pt w.heap.size] #[])) ∧ OwnM w' mb (n + 1) (L ++ [((last : Int) + 1, w.heap.size)]) ∧ Tn (fun i => i = sb ∨ i = mb) w w' := by
  have hslt := blk_lt hs
  have hmlt := hm.lt
  have TF := fun (W : World) (a : Addr) => run_store Tryz.prog W a (.func (.func 18) #[pt w.heap.size] #[]) .plain rfl
  have HLEN : Hid (∀ W, OwnM W mb n L → (Builtin.len_ #[47] 3 #[.map (some mb)]).run Tryz.prog W = .ok (.int .i64 L.length) W) := Lib.hid (fun W h => by have := h.len Tryz.underlying47 3; rwa [mapD_size] at this)
  have hLi : ¬ (4 ≤ (L.length : Int)) := by omega
  have b0 := blk_new w (cliN .nilFunc)
  have c20 := cell_blk b0 20
  have y20 := free_blk b0 20
  have HO : Hid (OpI w sb mb n (srvO d0 d1 seed k last (.map (some mb))) (cliN (.func (.func 18) #[pt w.heap.size] #[])) L (w.alloc (cliN (.func (.func 18) #[pt w.heap.size] #[])))) :=
    Lib.hid ⟨blk_alloc hs _, blk_new _ _, hm.alloc _, (Tn.refl _ _).alloc _⟩
  clear b0 hs hm
  go_enter Tryz.func8, Tryz.ntmps8
  go_upto_region 10 with fail
  generalize w.alloc (cliN (.func (.func 18) #[pt w.heap.size] #[])) = w1 at HO ⊢
  clear TF c20 y20
  have c5 := cell_blk HO.out.srv 5
  have hlen := HLEN.out w1 HO.out.map
  have c4 := cell_blk HO.out.srv 4
  have y4 := free_blk HO.out.srv 4
  have hnl := fun W => run_eql_map_nil (P := Tryz.prog) W 47 _ _ (some mb) Tryz.underlying47
  go_upto_region 15 with fail
  have HO2 : Hid (OpI w sb mb n (srvO d0 d1 seed k ((last : Int) + 1) (.map (some mb))) (cliN (.func (.func 18) #[pt w.heap.size] #[])) L (w1.setCell ⟨sb, 4, none⟩ (.int .i64 ((last : Int) + 1)))) :=
    Lib.hid ⟨blk_set HO.out.srv 4 _, blk_far HO.out.cli (p := ⟨sb, 4, none⟩) (by simp; omega) _, HO.out.map.setCell (a := ⟨sb, 4, none⟩) (Ne.symm hne) _, HO.out.tn.set (p := ⟨sb, 4, none⟩) (.inl (.inl rfl)) _⟩
  generalize w1.setCell ⟨sb, 4, none⟩ (.int .i64 ((last : Int) + 1)) = w2 at HO2 ⊢
  clear c4 c5 y4 hlen hnl HLEN HO
  have hwf : (Lit.int .i64 ((last : Int) + 1)).wf = true := wf_i64 _ (by omega) (by omega)
  refine RG.wp_region_detL [9] (fun Z W => Hid (OpI w sb mb (if Z 9 = true then n + 1 else n) (srvO d0 d1 seed k ((last : Int) + 1) (.map (some mb))) (cliN (.func (.func 18) #[pt w.heap.size] #[])) (if Z 9 = true then L ++ [((last : Int) + 1, w.heap.size)] else L) W)) (fun Z Z' W hl h => by rw [← hl 9 (by simp)]; exact h) (by kernel_rfl) (by kernel_rfl) (by kernel_rfl) (Lib.hid ⟨HO2.out.srv, HO2.out.cli, HO2.out.map, HO2.out.tn.drew⟩) ?_
  clear HO2
  iterate 3
    apply RG.wpDetL_still
    · rfl
    · intro L w9 hw9
      repeat go_step
      with_reducible refine RG.only_mk ?_
      exact hw9
    · rfl
  apply RG.wpDetL_still
  · rfl
  · intro L w9 hw9
    have q := cell_blk hw9.out.srv 5
    repeat go_step
    with_reducible refine RG.only_mk ?_
    exact hw9
  · rfl
  iterate 3
    apply RG.wpDetL_still
    · rfl
    · intro L w9 hw9
      repeat go_step
      with_reducible refine RG.only_mk ?_
      exact hw9
    · rfl
  apply RG.wpDetL_still
  · rfl
  · intro L w9 hw9
    have q := cell_blk hw9.out.srv 4
    repeat go_step
    with_reducible refine RG.only_mk ?_
    exact hw9
  · rfl
  apply RG.wpDetL_still
  · rfl
  · intro L w9 hw9
    repeat go_step
    with_reducible refine RG.only_mk ?_
    exact hw9
  · rfl
  apply RG.wpDetL_turn
  · rfl
  · intro Z w9 h0 _ hw9
    have hmp := hw9.out.map
    rw [if_neg (by simp [h0]), if_neg (by simp [h0])] at hmp
    refine wpList_mapUpdate_own _ rfl _ _ _ _ rfl _ _ keyT Tryz.underlying47 reC mb n (mapD L) rfl hmp (by unfold maxLen; omega) (.int .i64 ((last : Int) + 1)) (pt w.heap.size) (.int .i64 ((last : Int) + 1)) rfl rfl (keyOf_int_mk Tryz.underlying3 hwf) (.lit (.int .i64 (w.heap.size : Int))) [] rfl ?_
    intro w10 hown hgrow
    rw [mapD_put L _ _ hlt] at hown
    repeat go_step
    with_reducible refine RG.only_mk ?_
    refine Lib.hid ⟨blk_grown hw9.out.srv hgrow (by simp; exact hne), blk_grown hw9.out.cli hgrow (by simp; omega), ?_, hw9.out.tn.grown hgrow (.inr rfl)⟩
    rw [if_pos (by simp), if_pos (by simp)]
    exact hown
  · rfl
  refine RG.wpDetL_nil (fun w5 hw5 => ?_)
  have hmp := hw5.out.map
  rw [if_pos rfl, if_pos rfl] at hmp
  have c4 := cell_blk hw5.out.srv 4
  have HMP := Lib.hid hmp
  clear hmp
  go_wp2
  go_ret2
  exact ⟨rfl, hw5.out.srv, hw5.out.cli, HMP.out, hw5.out.tn⟩

set_option maxHeartbeats 1000000 in
set_option maxRecDepth 100000 in
theorem open_full (sb mb n : Nat) (d0 d1 : Value) (seed : ByteArray) (k last : Int) (L : List (Int × Nat)) (w : World) (hs : w.heap[sb]? = some (srvO d0 d1 seed k last (.map (some mb)))) (hm : OwnM w mb n L) (hL : 4 ≤ L.length) :
    Calls Tryz.prog 8 #[pt sb, .int .i64 1] w fun e w' => e = .returned (.tuple #[.int .i64 0, .int .i64 5]) ∧ Below w.heap.size w w' := by
  have TF := fun (W : World) (a : Addr) => run_store Tryz.prog W a (.func (.func 18) #[pt w.heap.size] #[]) .plain rfl
  have hLi : 4 ≤ (L.length : Int) := by omega
  have b0 := blk_new w (cliN .nilFunc)
  have c20 := cell_blk b0 20
  have y20 := free_blk b0 20
  have HB := Lib.hid ((Below.refl w.heap.size w).alloc (Nat.le_refl _) (cliN (.func (.func 18) #[pt w.heap.size] #[])))
  have HS := Lib.hid (blk_alloc hs (cliN (.func (.func 18) #[pt w.heap.size] #[])))
  have HM : Hid (OwnM (w.alloc (cliN (.func (.func 18) #[pt w.heap.size] #[]))) mb n L) := Lib.hid (hm.alloc _)
  clear b0 hs hm
  go_enter Tryz.func8, Tryz.ntmps8
  go_upto_region 10 with fail
  generalize w.alloc (cliN (.func (.func 18) #[pt w.heap.size] #[])) = w1 at HB HS HM ⊢
  clear TF c20 y20
  have c5 := cell_blk HS.out 5
  have hlen := HM.out.len Tryz.underlying47 3
  rw [mapD_size] at hlen
  go_wp2
  go_ret2
  exact ⟨rfl, HB.out⟩

set_option maxRecDepth 100000 in
theorem zeroC' (w : World) : (zeroValue 54).run Tryz.prog w = .ok (.pointer none) w := by rfl
set_option maxHeartbeats 1000000 in
set_option maxRecDepth 100000 in
theorem shut_there (sb mb cb n : Nat) (d0 d1 : Value) (seed : ByteArray) (k last nn : Int) (L : List (Int × Nat)) (w : World) (hs : w.heap[sb]? = some (srvO d0 d1 seed k last (.map (some mb)))) (hm : OwnM w mb n L) (hf : L.find? (fun p => decide (p.1 = nn)) = some (nn, cb)) (hnn0 : 0 ≤ nn) (hnn1 : nn ≤ 1000000) (hne : sb ≠ mb) :
    Calls Tryz.prog 7 #[pt sb, .int .i64 nn] w fun e w' => e = .returned (.int .i64 0) ∧ w'.heap[sb]? = some (srvO d0 d1 seed k last (.map (some mb))) ∧ OwnM w' mb n (L.filter fun p => !decide (p.1 = nn)) ∧ Tn (fun i => i = mb) w w' := by
  obtain ⟨v, ps, hlook, hv⟩ := hm.look_ok keyT Tryz.underlying47 (zeroC' w) (zd := .lit (.int .i64 (-1))) (zp := []) rfl (keyOf_int_mk Tryz.underlying3 (wf_i64 nn (by omega) (by omega)))
  have hhas : has (mapD L) (.int .i64 nn) = true := by
    rw [mapD_has, List.any_eq_true]
    exact ⟨(nn, cb), List.mem_of_find?_eq_some hf, by simp⟩
  rw [hhas] at hlook
  obtain ⟨w1, hdel, hown, htn⟩ := hm.drop keyT Tryz.underlying47 (keyOf_int_mk Tryz.underlying3 (wf_i64 nn (by omega) (by omega))) 0
  rw [mapD_del] at hown
  have HO := Lib.hid hown
  have HT : Hid (Tn (fun i => i = mb) w w1) := Lib.hid (Tn.grown (Tn.refl _ _) htn.grown rfl)
  have HS := Lib.hid (blk_grown hs htn.grown (by simp; exact hne))
  have c5 := cell_blk hs 5
  clear hs hm hf hv hhas hown htn
  go_enter Tryz.func7, Tryz.ntmps7
  go_wp2
  go_ret
  exact ⟨rfl, HS.out, HO.out, HT.out⟩
set_option maxHeartbeats 1000000 in
set_option maxRecDepth 100000 in
theorem shut_not (sb mb n : Nat) (d0 d1 : Value) (seed : ByteArray) (k last nn : Int) (L : List (Int × Nat)) (w : World) (hs : w.heap[sb]? = some (srvO d0 d1 seed k last (.map (some mb)))) (hm : OwnM w mb n L) (hf : L.any (fun p => decide (p.1 = nn)) = false) (hnn0 : 0 ≤ nn) (hnn1 : nn ≤ 1000000) :
    Calls Tryz.prog 7 #[pt sb, .int .i64 nn] w fun e w' => e = .returned (.int .i64 6) ∧ w' = w := by
  obtain ⟨v, ps, hlook, hv⟩ := hm.look_ok keyT Tryz.underlying47 (zeroC' w) (zd := .lit (.int .i64 (-1))) (zp := []) rfl (keyOf_int_mk Tryz.underlying3 (wf_i64 nn (by omega) (by omega)))
  rw [mapD_has, hf] at hlook
  have c5 := cell_blk hs 5
  clear hs hm hf hv
  go_enter Tryz.func7, Tryz.ntmps7
  go_wp2
  go_ret
  exact ⟨rfl, rfl⟩
end Go.Proofs.YtomnljigoljldaaGreatDoor.SV


namespace Mailsack
/-- a disk of n equal sectors -/
def eqD (z : Bs) (n : Nat) : Dk := ⟨List.replicate n z, []⟩
theorem eqD_right {z : Bs} {n : Nat} (hz : z.length = 64) (h1 : 1 ≤ n) (h2 : n ≤ 1024) : rightP (eqD z n) = true := by
  unfold rightP eqD
  simp [hz, h1, h2]
theorem eqD_flush {z : Bs} {n : Nat} (hz : z.length = 64) (h1 : 1 ≤ n) (h2 : n ≤ 1024) : flushP (eqD z n) = eqD z n := by
  unfold flushP
  rw [if_pos (eqD_right hz h1 h2)]
  rfl
theorem eqD_crash {z : Bs} {n : Nat} (hz : z.length = 64) (h1 : 1 ≤ n) (h2 : n ≤ 1024) : crashP (eqD z n) = eqD z n := by
  unfold crashP
  rw [if_pos (eqD_right hz h1 h2)]
  rfl
end Mailsack
namespace Go.Proofs.YtomnljigoljldaaGreatDoor.SV
open Go.RowKit MM Mailsack BB DS Go.Maps Go.MapKept Go.ChangeMaps

set_option maxHeartbeats 1000000 in
set_option maxRecDepth 100000 in
theorem recover_none (va vb : Value) (d : Dk) (x : ByteArray) (xs : List Bs) (w : World) (h : RdD w w.heap.size va vb d) (hr : rightP d = true) (hl : 61 < d.secs.length) (hx : (flushP d).secs = x.data.toList :: xs) (hx0 : 0 < x.size) (hx1 : byteI x 0 ≠ 74) :
    Calls Tryz.prog 20 #[.agg #[va, vb]] w fun e w' => e = .returned (.agg #[va, vb]) ∧ Below w.heap.size w w' := by
  have HRP := Lib.hid (fun W (hb : Below w.heap.size w W) => repair_none va vb d x xs W ((h.below hb (Nat.le_refl _)).more hb.size) hr hl hx hx0 hx1)
  have HRN := Lib.hid (fun W (hb : Below w.heap.size w W) => run_none va vb d 0 W ((h.below hb (Nat.le_refl _)).more hb.size))
  obtain ⟨A1, c1, rfl, _, _⟩ := h.s
  obtain ⟨A2, c2, rfl, _, _⟩ := h.c
  have t0 := two_old w (dskO (.slice A1 d.secs.length c1) (.slice A2 d.cache.length c2)) (dskO (.slice none 0 0) (.slice none 0 0))
  have t1 := two_new w (dskO (.slice A1 d.secs.length c1) (.slice A2 d.cache.length c2)) (dskO (.slice none 0 0) (.slice none 0 0))
  have HB := Lib.hid (((Below.refl w.heap.size w).alloc (Nat.le_refl _) (dskO (.slice A1 d.secs.length c1) (.slice A2 d.cache.length c2))).alloc (by simp) (dskO (.slice none 0 0) (.slice none 0 0)))
  have HT0 := Lib.hid t0
  have HT1 := Lib.hid t1
  have k0 := cell_blk t0 0
  have k1 := cell_blk t0 1
  clear h hr hl hx hx0 hx1 t0 t1
  go_enter Tryz.func20, Tryz.ntmps20
  go_wp2_with fail
  refine (HRP.out _ HB.out).mono ?_
  rintro e w1 ⟨rfl, hb1⟩
  have HB1 := Lib.hid (HB.out.trans (hb1.mono HB.out.size))
  have HS0 := Lib.hid (blk_below HT0.out hb1 (blk_lt HT0.out))
  have HS1 := Lib.hid (blk_below HT1.out hb1 (blk_lt HT1.out))
  clear HB hb1 HT0 HT1 HRP k0 k1
  have k0 := cell_blk HS0.out 0
  have k1 := cell_blk HS0.out 1
  go_wp2_with fail
  refine (HRN.out _ HB1.out).mono ?_
  rintro e w2 ⟨rfl, hb2⟩
  have HB2 := Lib.hid (HB1.out.trans (hb2.mono HB1.out.size))
  have HT2 := Lib.hid (blk_below HS1.out hb2 (blk_lt HS1.out))
  clear HB1 hb2 HS0 HS1 HRN k0 k1
  have j0 := cell_blk HT2.out 0
  have j1 := cell_blk HT2.out 1
  have y0 := free_blk HT2.out 0
  have y1 := free_blk HT2.out 1
  have hB := blk_set (blk_set HT2.out 0 (.slice A1 d.secs.length c1)) 1 (.slice A2 d.cache.length c2)
  have f0 := cell_blk hB 0
  have f1 := cell_blk hB 1
  simp only [List.setIfInBounds_toArray, List.set_cons_zero, List.set_cons_succ, List.getElem?_toArray, List.getElem?_cons_zero, List.getElem?_cons_succ] at f0 f1
  clear hB
  go_wp2
  refine bodyPost_ret (v := .agg #[.slice A1 d.secs.length c1, .slice A2 d.cache.length c2]) (by simp [results, Tryz.results20, go_sem, f0, f1]) rfl ?_
  exact ⟨rfl, (HB2.out.setCell (p := ⟨w.heap.size + 1, 0, none⟩) (by simp) _).setCell (p := ⟨w.heap.size + 1, 1, none⟩) (by simp) _⟩

theorem own_clear {W : World} {mb n : Nat} {L : List (Int × Nat)} (h : OwnM W mb n L) (ty : TypeId) : ∃ W', (Builtin.clear_ #[47] ty #[.map (some mb)]).run Tryz.prog W = .ok (.tuple #[]) W' ∧ OwnM W' mb n [] ∧ W.grownBy W' (some mb) := by
  obtain ⟨es, clock, hb, F, hs, hD⟩ := h
  refine ⟨setBlock W mb (.map #[] clock), ?_, ⟨#[], clock, heap_setBlock_same hb _, ⟨by simp, stamped_empty _, by simp⟩, Nat.zero_le _, rfl⟩, World.mapTurned.grown ⟨es, clock, #[], clock, hb, rfl⟩⟩
  simp [Builtin.clear_, run_underlying Tryz.underlying47, MapKept.run_getObj_map hb, MapKept.run_setObj_map _ hb, Result.andThen]
  rfl

set_option maxHeartbeats 1000000 in
set_option maxRecDepth 100000 in
theorem crash_equal (sb mb g n N : Nat) (z : Bs) (seed : ByteArray) (k last : Int) (L : List (Int × Nat)) (w : World) (hs : w.heap[sb]? = some (srvO (.slice (some ⟨g, 0, none⟩) N N) (.slice none 0 0) seed k last (.map (some mb)))) (hm : OwnM w mb n L) (hg : HasS w g (List.replicate N z)) (hne : sb ≠ mb)
    (hN1 : 61 < N) (hN2 : N ≤ 1024) (hz : z.length = 64) (hz1 : byteI ⟨z.toArray⟩ 0 ≠ 74) :
    Calls Tryz.prog 9 #[pt sb, .slice none 0 0] w fun e w' => ∃ g', e = .returned (.tuple #[]) ∧ w'.heap[sb]? = some (srvO (.slice (some ⟨g', 0, none⟩) N N) (.slice none 0 0) seed k last (.map (some mb))) ∧
      HasS w' g' (List.replicate N z) ∧ OwnM w' mb n [] ∧ w.heap.size ≤ g' ∧ Tn (fun i => i = sb ∨ i = mb) w w' := by
  have hd : RdD w w.heap.size (.slice (some ⟨g, 0, none⟩) N N) (.slice none 0 0) (eqD z N) := by
    have h1 := hg.rd N (by simp)
    rw [List.length_replicate] at h1
    exact ⟨h1.more hg.lt, RdW.nil0 _ _, by unfold eqD; simp; omega, by unfold eqD; simp⟩
  have hR := eqD_right (n := N) hz (by omega) hN2
  have HCR := Lib.hid (crash_any _ _ (eqD z N) w hd hR)
  rw [eqD_crash hz (by omega) hN2, show (eqD z N).secs.length = N by unfold eqD; simp, show (eqD z N).secs = List.replicate N z from rfl] at HCR
  have HRC : Hid (∀ g' W, HasS W g' (List.replicate N z) → Calls Tryz.prog 20 #[.agg #[.slice (some ⟨g', 0, none⟩) N N, .slice none 0 0]] W fun e w' => e = .returned (.agg #[.slice (some ⟨g', 0, none⟩) N N, .slice none 0 0]) ∧ Below W.heap.size W w') := Lib.hid (fun g' W h => by
    refine recover_none _ _ (eqD z N) ⟨z.toArray⟩ (List.replicate (N - 1) z) W ?_ hR ?_ ?_ ?_ hz1
    · have h1 := h.rd N (by simp)
      rw [List.length_replicate] at h1
      exact ⟨h1.more h.lt, RdW.nil0 _ _, by unfold eqD; simp; omega, by unfold eqD; simp⟩
    · unfold eqD; simpa using hN1
    · rw [eqD_flush hz (by omega) hN2]
      show List.replicate N z = z :: List.replicate (N - 1) z
      rw [← List.replicate_succ, show N - 1 + 1 = N by omega]
    · show 0 < z.length
      omega)
  have HS := Lib.hid hs
  have HM := Lib.hid hm
  have c0 := cell_blk hs 0
  have c1 := cell_blk hs 1
  have hslt := blk_lt hs
  clear hs hm hg hd hR hz hz1
  go_enter Tryz.func9, Tryz.ntmps9
  go_wp2_with fail
  refine HCR.out.mono ?_
  rintro e w1 ⟨g1, rfl, hg1, hl1, hb1⟩
  have HB1 := Lib.hid hb1
  have HG1 := Lib.hid hg1
  clear hb1 hg1 HCR c0 c1
  go_wp2_with fail
  refine (HRC.out g1 _ HG1.out).mono ?_
  rintro e w2 ⟨rfl, hb2⟩
  have HB2 := Lib.hid (HB1.out.trans (hb2.mono HB1.out.size))
  have HG2 := Lib.hid (HG1.out.below hb2 HG1.out.lt)
  have HS2 := Lib.hid (blk_below HS.out HB2.out hslt)
  have HM2 := Lib.hid (ownM_below HM.out HB2.out HM.out.lt)
  clear hb2 HG1 HB1 HRC HS HM
  have c0 := cell_blk HS2.out 0
  have c1 := cell_blk HS2.out 1
  have c5 := cell_blk HS2.out 5
  have y0 := free_blk HS2.out 0
  have y1 := free_blk HS2.out 1
  have HS3 := Lib.hid (blk_set (blk_set HS2.out 0 (.slice (some ⟨g1, 0, none⟩) N N)) 1 (.slice none 0 0))
  have HM3 := Lib.hid ((HM2.out.setCell (a := ⟨sb, 0, none⟩) (Ne.symm hne) (.slice (some ⟨g1, 0, none⟩) N N)).setCell (a := ⟨sb, 1, none⟩) (Ne.symm hne) (.slice none 0 0))
  have HG3 := Lib.hid ((HG2.out.far (p := ⟨sb, 0, none⟩) (by simp; omega) (.slice (some ⟨g1, 0, none⟩) N N)).far (p := ⟨sb, 1, none⟩) (by simp; omega) (.slice none 0 0))
  have HT3 := Lib.hid (((Tn.of (P := fun i => i = sb ∨ i = mb) HB2.out).set (p := ⟨sb, 0, none⟩) (.inl (.inl rfl)) (.slice (some ⟨g1, 0, none⟩) N N)).set (p := ⟨sb, 1, none⟩) (.inl (.inl rfl)) (.slice none 0 0))
  simp only [List.setIfInBounds_toArray, List.set_cons_zero, List.set_cons_succ] at HS3
  obtain ⟨w4, hcl, hown, hgr⟩ := own_clear HM3.out 0
  have HO4 := Lib.hid hown
  have HS4 := Lib.hid (blk_grown HS3.out hgr (by simp; exact hne))
  have HG4 : Hid (HasS w4 g1 (List.replicate N z)) := Lib.hid (blk_grown HG3.out hgr (fun e => by
    injection e with e
    subst e
    obtain ⟨es, clock, hh, _⟩ := HM3.out
    rw [HG3.out.blk] at hh
    cases hh))
  have HT4 := Lib.hid (HT3.out.grown hgr (.inr rfl))
  clear hown hgr HM3 HM2 HG2 HG3 HT3 HB2
  go_wp2
  go_end0
  exact ⟨g1, rfl, HS4.out, HG4.out, HO4.out, Nat.le_of_lt hl1, HT4.out⟩
end Go.Proofs.YtomnljigoljldaaGreatDoor.SV

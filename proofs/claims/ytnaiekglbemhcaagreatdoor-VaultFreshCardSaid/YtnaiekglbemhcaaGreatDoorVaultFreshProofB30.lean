/- What fe.Invert returns. Conditions: five numbers of 64 bits. (Printed by gen_fe_inv.py.) -/
import Derived.Test.YtnaiekglbemhcaaGreatDoorVaultFreshProofB28
set_option maxHeartbeats 8000000
set_option maxRecDepth 100000
namespace Mailsack
def xZj (a : List Int) : List Int := uX a a
def xZi (a : List Int) : List Int := uX (sqI (xZj a) 2) a
def xUt (a : List Int) : List Int := uX (xZi a) (xZj a)
def xZk (a : List Int) : List Int := uX (sqI (xUt a) 1) (xZi a)
def xNd (a : List Int) : List Int := uX (sqI (xZk a) 5) (xZk a)
def xUu (a : List Int) : List Int := uX (sqI (xNd a) 10) (xNd a)
def yBb (a : List Int) : List Int := uX (sqI (xUu a) 20) (xUu a)
def xNc (a : List Int) : List Int := uX (sqI (yBb a) 10) (xNd a)
def xP5 (a : List Int) : List Int := uX (sqI (xNc a) 50) (xNc a)
def xY5 (a : List Int) : List Int := uX (sqI (xP5 a) 100) (xP5 a)
def xY4 (a : List Int) : List Int := uX (sqI (xY5 a) 50) (xNc a)
def xHi (a : List Int) : List Int := uX (sqI (xY4 a) 5) (xUt a)
theorem xVp (a : List Int) : (xHi a).length = 5 := vK _ _
theorem yBv (a : List Int) : yV (xHi a) := tY _ _
end Mailsack
namespace Go.Proofs.FE
open Go.RowKit Mailsack MM BB SH
theorem xBw (x y : List Int) (n : Nat) (hn : n ≤ 1000) (hx : x.length = 5) (ux : yV x) (hy : y.length = 5) (uy : yV y) : ∃ s v,Hid (∀ W,Calls Tryz.prog 196 #[.agg (xG x),.int .i64 n] W fun e w' => e = .returned (.agg (xG s)) ∧ Below W.heap.size W w') ∧
  Hid (∀ W,Calls Tryz.prog 147 #[.agg (xG s),.agg (xG y)] W fun e w' => e = .returned (.agg (xG v)) ∧ Below W.heap.size W w') ∧ v = uX (sqI x n) y ∧ v.length = 5 ∧ yV v :=
 ⟨sqI x n,_,hI' (fun W => xMn x n W hx ux hn),hI' (fun W => rT _ _ W (xFw hx n) (yAg ux n) hy uy),rfl,vK _ _,tY _ _⟩
theorem one_mul (x y : List Int) (hx : x.length = 5) (ux : yV x) (hy : y.length = 5) (uy : yV y) : ∃ v,
  Hid (∀ W,Calls Tryz.prog 147 #[.agg (xG x),.agg (xG y)] W fun e w' => e = .returned (.agg (xG v)) ∧ Below W.heap.size W w') ∧ v = uX x y ∧ v.length = 5 ∧ yV v :=
 ⟨_,hI' (fun W => rT _ _ W hx ux hy uy),rfl,vK _ _,tY _ _⟩
theorem zV (ws : List Int) (h : ws.length = 5) : Hid ((Tryz.prog.info? 210).map (·.size) = some (xG ws).size) := hI' (uN h)
theorem vG (ws : List Int) (h : ws.length = 5) : Hid ((xG (List.replicate 5 0)).size = (xG ws).size) := hI' (xAq (by simp) h)
theorem xRe (ax : List Int) (w : World) (l_ax : ax.length = 5) (u_ax : yV ax) :
  Calls Tryz.prog 148 #[.agg (xG ax)] w fun e w' => e = .returned (.agg (xG (xHi ax))) ∧ Below w.heap.size w w' := by
 have I_ax := zV ax l_ax
 obtain ⟨p2,M_p2,E_p2,l_p2,u_p2⟩ := one_mul ax ax l_ax u_ax l_ax u_ax
 have I_p2 := zV p2 l_p2
 have Z_p2 := vG p2 l_p2
 obtain ⟨s_p9,p9,S_p9,M_p9,E_p9,l_p9,u_p9⟩ := xBw p2 ax 2 (by decide) l_p2 u_p2 l_ax u_ax
 have I_p9 := zV p9 l_p9
 have Z_p9 := vG p9 l_p9
 obtain ⟨p11,M_p11,E_p11,xUk,yA6⟩ := one_mul p9 p2 l_p9 u_p9 l_p2 u_p2
 have yCa := zV p11 xUk
 have Z_p11 := vG p11 xUk
 obtain ⟨s_o5,o5,S_o5,M_o5,E_o5,l_o5,u_o5⟩ := xBw p11 p9 1 (by decide) xUk yA6 l_p9 u_p9
 have I_o5 := zV o5 l_o5
 have Z_o5 := vG o5 l_o5
 obtain ⟨s_o10,o10,S_o10,M_o10,E_o10,xRc,xWv⟩ := xBw o5 o5 5 (by decide) l_o5 u_o5 l_o5 u_o5
 have xZ0 := zV o10 xRc
 have Z_o10 := vG o10 xRc
 obtain ⟨s_o20,o20,S_o20,M_o20,E_o20,xUm,yA7⟩ := xBw o10 o10 10 (by decide) xRc xWv xRc xWv
 have yCb := zV o20 xUm
 have Z_o20 := vG o20 xUm
 obtain ⟨s_o40,o40,S_o40,M_o40,E_o40,xY2,u_o40⟩ := xBw o20 o20 20 (by decide) xUm yA7 xUm yA7
 have I_o40 := zV o40 xY2
 have Z_o40 := vG o40 xY2
 obtain ⟨s_o50,o50,S_o50,M_o50,E_o50,xRb,xWu⟩ := xBw o40 o10 10 (by decide) xY2 u_o40 xRc xWv
 have xYz := zV o50 xRb
 have Z_o50 := vG o50 xRb
 obtain ⟨s_o100,xR5,S_o100,M_o100,yA0,xL7,xT2⟩ := xBw o50 o50 50 (by decide) xRb xWu xRb xWu
 have xWf := zV xR5 xL7
 have Z_o100 := vG xR5 xL7
 obtain ⟨s_o200,xXm,S_o200,M_o200,xZz,xP3,xZ6⟩ := xBw xR5 xR5 100 (by decide) xL7 xT2 xL7 xT2
 have xZx := zV xXm xP3
 have Z_o200 := vG xXm xP3
 obtain ⟨s_o250,xZg,S_o250,M_o250,xZy,xP2,xZ5⟩ := xBw xXm o50 50 (by decide) xP3 xZ6 xRb xWu
 have xZw := zV xZg xP2
 have Z_o250 := vG xZg xP2
 obtain ⟨s_res,res,S_res,M_res,E_res,yB7,u_res⟩ := xBw xZg p11 5 (by decide) xP2 xZ5 xUk yA6
 have I_res := zV res yB7
 have Z_res := vG res yB7
 have HE : Hid (res = xHi ax) := hI' (by
  subst E_p2 E_p9 E_p11 E_o5 E_o10 E_o20 E_o40 E_o50 yA0 xZz xZy E_res
  rfl)
 clear E_p2 l_p2 u_p2 E_p9 l_p9 u_p9 E_p11 xUk yA6 E_o5 l_o5 u_o5 E_o10 xRc xWv E_o20 xUm yA7 E_o40 xY2 u_o40 E_o50 xRb xWu yA0 xL7 xT2 xZz xP3 xZ6 xZy xP2 xZ5 E_res yB7 u_res l_ax u_ax
 have H0 : Hid (Bag w [(w.heap.size + 1,210,List.replicate 5 0),(w.heap.size,210,ax)] ((w.alloc (.cells (xG ax) 210)).alloc (.cells (xG (List.replicate 5 0)) 210))) := hI' (by
  have h : Bag w [] w := ⟨Below.refl _ _,fun _ _ _ h => by cases h⟩
  have h2 := (h.new 210 ax).new 210 (List.replicate 5 0)
  rwa [vD] at h2)
 obtain ⟨xI7,hga⟩ : ∃ g,w.heap.size = g := ⟨_,rfl⟩
 obtain ⟨g_z,hgz⟩ : ∃ g,w.heap.size + 1 = g := ⟨_,rfl⟩
 have HGA := hI' hga
 have HGZ := hI' hgz
 clear hga hgz
 go_enter Tryz.func148,Tryz.ntmps148
 go_upto_region 1 with fail
 rw [HGZ.out,HGA.out]
 rw [HGZ.out,HGA.out] at H0
 refine (fun (h : ∀ W3,Hid (Bag w _ W3) → Code.wp _ _ _ _ W3) => h _ H0) ?_
 clear H0
 intro W0 H0
 refine wp_region_lit ?_
 refine wpList_load_row rfl _ _ rfl xI7 rfl _ (xG ax) (0,0) _ (H0.out.get (g := xI7) (t := 210) (ws := ax) (by simp)) Tryz.underlying210 rfl I_ax.out ?_
 refine wpList_load_row rfl _ _ rfl xI7 rfl _ (xG ax) (0,0) _ (H0.out.get (g := xI7) (t := 210) (ws := ax) (by simp)) Tryz.underlying210 rfl I_ax.out ?_
 repeat go_step
 refine (M_p2.out _).mono ?_
 rintro e w7 ⟨rfl,hb7⟩
 have H7 := H0.out.below hb7
 have H8 := H7.new 210 (List.replicate 5 0)
 have H9 : Bag w ((w7.heap.size,210,p2) :: [(g_z,210,List.replicate 5 0),(xI7,210,ax)]) ((w7.alloc (.cells (xG (List.replicate 5 0)) 210)).setRow w7.heap.size (xG p2)) := ((H7.alloc _).far H7.1.size (fun g t ws hm => Nat.ne_of_lt (H7.lt hm)) _).cons H7.1.size (setRow_heap _ _ _ _ _ _ (xM _ _))
 simp only []
 rename ∀ (a : Act) (w : World),wpList _ _ _ _ a w → _ => hk
 refine hk _ _ ?_
 clear hk
 iterate 3 go_step
 refine wpList_store_row rfl _ _ _ rfl w7.heap.size (xG p2) rfl rfl _ (xG (List.replicate 5 0)) (xM _ _) I_p2.out Z_p2.out (xS _) ?_
 refine (fun (h : ∀ W3,Hid (Bag w ((w7.heap.size,210,p2) :: [(g_z,210,List.replicate 5 0),(xI7,210,ax)]) W3) → wpList _ _ _ _ _ W3) => h _ (hI' H9)) ?_
 clear H7 H8 H9 H0 hb7
 generalize w7.heap.size = xM3
 intro W3 H0
 go_upto_region 2 with fail
 refine RG.zD [5] [4] (fun L α W => Hid (J1 w [(xM3,210,p2),(g_z,210,List.replicate 5 0),(xI7,210,ax)] 4 5 210 (List.replicate 5 0) p9 L α W)) (fun L L' α α' W hl ha h => hI' (J1.congr (hl 4 (by simp)) (hl 5 (by simp)) (ha 4 (by simp)) h.out)) (by kernel_rfl) (by kernel_rfl) (by kernel_rfl) (hI' (J1.start H0.out)) ?_
 clear H0
 apply RG.xL
 ·rfl
 ·rfl
 ·intro α L w9 h0 hcl xH hw9
  refine wpList_load_row rfl _ _ rfl xM3 rfl _ (xG p2) (0,0) _ (hw9.out.1.get (g := xM3) (t := 210) (ws := p2) (by simp)) Tryz.underlying210 rfl I_p2.out ?_
  repeat go_step
  with_reducible exact RG.xB hw9
 ·intro α; rfl
 apply RG.xL
 ·rfl
 ·rfl
 ·intro α L w9 h0 hcl xH hw9
  repeat go_step
  refine (S_p9.out _).mono ?_
  rintro e w10 ⟨rfl,yA⟩
  simp only []
  repeat go_step
  with_reducible refine RG.xB ?_
  exact hI' (hw9.out.below yA)
 ·intro α; rfl
 apply RG.xL
 ·rfl
 ·rfl
 ·intro α L w9 h0 hcl xH hw9
  refine wpList_load_row rfl _ _ rfl xI7 rfl _ (xG ax) (0,0) _ (hw9.out.1.get (g := xI7) (t := 210) (ws := ax) (by simp)) Tryz.underlying210 rfl I_ax.out ?_
  repeat go_step
  with_reducible exact RG.xB hw9
 ·intro α; rfl
 apply RG.xL
 ·rfl
 ·rfl
 ·intro α L w9 h0 hcl xH hw9
  repeat go_step
  refine (M_p9.out _).mono ?_
  rintro e w10 ⟨rfl,yA⟩
  simp only []
  repeat go_step
  with_reducible refine RG.xB ?_
  exact hI' (hw9.out.below yA)
 ·intro α; rfl
 apply RG.vW
 ·rfl
 ·intro α L w9 b hb h0 hcl hw9
  have e5 := hcl.not 2 (i := 5) h0 (by kernel_rfl)
  have hn := hI' (hw9.out.new e5 (by decide))
  repeat go_step
  rw [← hb]
  with_reducible refine RG.xB ?_
  rw [hb]
  exact hn
 ·intro b α; rfl
 apply RG.uZ (v := undef)
 ·rfl
 ·rfl
 ·intro α L w9 h0 hcl xH hw9
  have e4 : L 4 = true := by simpa using xH.yes 2 (i := 5) (by simp) (j := 4) (by kernel_rfl)
  obtain ⟨h1,h2,h3⟩ := hw9.out.2 e4
  rw [if_neg (by simp [h0])] at h3
  have hf := hI' (hw9.out.fill e4)
  refine wpList_store_row rfl _ _ _ rfl (α 4) (xG p9) rfl rfl _ (xG (List.replicate 5 0)) h3 I_p9.out Z_p9.out (xS _) ?_
  repeat go_step
  with_reducible refine RG.xB ?_
  exact hf
 ·intro α; rfl
 refine RG.wT (fun α w4 hw4 => ?_)
 have H0 := hI' hw4.out.done
 clear hw4
 simp only [Nat.zero_add,Nat.reduceAdd]
 generalize α 4 = xNh at H0 ⊢
 go_upto_region 3 with fail
 refine wp_region_lit ?_
 refine wpList_load_row rfl _ _ rfl xNh rfl _ (xG p9) (0,0) _ (H0.out.get (g := xNh) (t := 210) (ws := p9) (by simp)) Tryz.underlying210 rfl I_p9.out ?_
 refine wpList_load_row rfl _ _ rfl xM3 rfl _ (xG p2) (0,0) _ (H0.out.get (g := xM3) (t := 210) (ws := p2) (by simp)) Tryz.underlying210 rfl I_p2.out ?_
 repeat go_step
 refine (M_p11.out _).mono ?_
 rintro e w7 ⟨rfl,hb7⟩
 have H7 := H0.out.below hb7
 have H8 := H7.new 210 (List.replicate 5 0)
 have H9 : Bag w ((w7.heap.size,210,p11) :: [(xNh,210,p9),(xM3,210,p2),(g_z,210,List.replicate 5 0),(xI7,210,ax)]) ((w7.alloc (.cells (xG (List.replicate 5 0)) 210)).setRow w7.heap.size (xG p11)) := ((H7.alloc _).far H7.1.size (fun g t ws hm => Nat.ne_of_lt (H7.lt hm)) _).cons H7.1.size (setRow_heap _ _ _ _ _ _ (xM _ _))
 simp only []
 rename ∀ (a : Act) (w : World),wpList _ _ _ _ a w → _ => hk
 refine hk _ _ ?_
 clear hk
 iterate 3 go_step
 refine wpList_store_row rfl _ _ _ rfl w7.heap.size (xG p11) rfl rfl _ (xG (List.replicate 5 0)) (xM _ _) yCa.out Z_p11.out (xS _) ?_
 refine (fun (h : ∀ W3,Hid (Bag w ((w7.heap.size,210,p11) :: [(xNh,210,p9),(xM3,210,p2),(g_z,210,List.replicate 5 0),(xI7,210,ax)]) W3) → wpList _ _ _ _ _ W3) => h _ (hI' H9)) ?_
 clear H7 H8 H9 H0 hb7
 generalize w7.heap.size = xE9
 intro W3 H0
 go_upto_region 4 with fail
 refine RG.zD [5] [4] (fun L α W => Hid (J1 w [(xE9,210,p11),(xNh,210,p9),(xM3,210,p2),(g_z,210,List.replicate 5 0),(xI7,210,ax)] 4 5 210 (List.replicate 5 0) o5 L α W)) (fun L L' α α' W hl ha h => hI' (J1.congr (hl 4 (by simp)) (hl 5 (by simp)) (ha 4 (by simp)) h.out)) (by kernel_rfl) (by kernel_rfl) (by kernel_rfl) (hI' (J1.start H0.out)) ?_
 clear H0
 apply RG.xL
 ·rfl
 ·rfl
 ·intro α L w9 h0 hcl xH hw9
  refine wpList_load_row rfl _ _ rfl xE9 rfl _ (xG p11) (0,0) _ (hw9.out.1.get (g := xE9) (t := 210) (ws := p11) (by simp)) Tryz.underlying210 rfl yCa.out ?_
  repeat go_step
  with_reducible exact RG.xB hw9
 ·intro α; rfl
 apply RG.xL
 ·rfl
 ·rfl
 ·intro α L w9 h0 hcl xH hw9
  repeat go_step
  refine (S_o5.out _).mono ?_
  rintro e w10 ⟨rfl,yA⟩
  simp only []
  repeat go_step
  with_reducible refine RG.xB ?_
  exact hI' (hw9.out.below yA)
 ·intro α; rfl
 apply RG.xL
 ·rfl
 ·rfl
 ·intro α L w9 h0 hcl xH hw9
  refine wpList_load_row rfl _ _ rfl xNh rfl _ (xG p9) (0,0) _ (hw9.out.1.get (g := xNh) (t := 210) (ws := p9) (by simp)) Tryz.underlying210 rfl I_p9.out ?_
  repeat go_step
  with_reducible exact RG.xB hw9
 ·intro α; rfl
 apply RG.xL
 ·rfl
 ·rfl
 ·intro α L w9 h0 hcl xH hw9
  repeat go_step
  refine (M_o5.out _).mono ?_
  rintro e w10 ⟨rfl,yA⟩
  simp only []
  repeat go_step
  with_reducible refine RG.xB ?_
  exact hI' (hw9.out.below yA)
 ·intro α; rfl
 apply RG.vW
 ·rfl
 ·intro α L w9 b hb h0 hcl hw9
  have e5 := hcl.not 2 (i := 5) h0 (by kernel_rfl)
  have hn := hI' (hw9.out.new e5 (by decide))
  repeat go_step
  rw [← hb]
  with_reducible refine RG.xB ?_
  rw [hb]
  exact hn
 ·intro b α; rfl
 apply RG.uZ (v := undef)
 ·rfl
 ·rfl
 ·intro α L w9 h0 hcl xH hw9
  have e4 : L 4 = true := by simpa using xH.yes 2 (i := 5) (by simp) (j := 4) (by kernel_rfl)
  obtain ⟨h1,h2,h3⟩ := hw9.out.2 e4
  rw [if_neg (by simp [h0])] at h3
  have hf := hI' (hw9.out.fill e4)
  refine wpList_store_row rfl _ _ _ rfl (α 4) (xG o5) rfl rfl _ (xG (List.replicate 5 0)) h3 I_o5.out Z_o5.out (xS _) ?_
  repeat go_step
  with_reducible refine RG.xB ?_
  exact hf
 ·intro α; rfl
 refine RG.wT (fun α w4 hw4 => ?_)
 have H0 := hI' hw4.out.done
 clear hw4
 simp only [Nat.zero_add,Nat.reduceAdd]
 generalize α 4 = xSc at H0 ⊢
 go_upto_region 5 with fail
 refine RG.zD [5] [4] (fun L α W => Hid (J1 w [(xSc,210,o5),(xE9,210,p11),(xNh,210,p9),(xM3,210,p2),(g_z,210,List.replicate 5 0),(xI7,210,ax)] 4 5 210 (List.replicate 5 0) o10 L α W)) (fun L L' α α' W hl ha h => hI' (J1.congr (hl 4 (by simp)) (hl 5 (by simp)) (ha 4 (by simp)) h.out)) (by kernel_rfl) (by kernel_rfl) (by kernel_rfl) (hI' (J1.start H0.out)) ?_
 clear H0
 apply RG.xL
 ·rfl
 ·rfl
 ·intro α L w9 h0 hcl xH hw9
  refine wpList_load_row rfl _ _ rfl xSc rfl _ (xG o5) (0,0) _ (hw9.out.1.get (g := xSc) (t := 210) (ws := o5) (by simp)) Tryz.underlying210 rfl I_o5.out ?_
  repeat go_step
  with_reducible exact RG.xB hw9
 ·intro α; rfl
 apply RG.xL
 ·rfl
 ·rfl
 ·intro α L w9 h0 hcl xH hw9
  repeat go_step
  refine (S_o10.out _).mono ?_
  rintro e w10 ⟨rfl,yA⟩
  simp only []
  repeat go_step
  with_reducible refine RG.xB ?_
  exact hI' (hw9.out.below yA)
 ·intro α; rfl
 apply RG.xL
 ·rfl
 ·rfl
 ·intro α L w9 h0 hcl xH hw9
  refine wpList_load_row rfl _ _ rfl xSc rfl _ (xG o5) (0,0) _ (hw9.out.1.get (g := xSc) (t := 210) (ws := o5) (by simp)) Tryz.underlying210 rfl I_o5.out ?_
  repeat go_step
  with_reducible exact RG.xB hw9
 ·intro α; rfl
 apply RG.xL
 ·rfl
 ·rfl
 ·intro α L w9 h0 hcl xH hw9
  repeat go_step
  refine (M_o10.out _).mono ?_
  rintro e w10 ⟨rfl,yA⟩
  simp only []
  repeat go_step
  with_reducible refine RG.xB ?_
  exact hI' (hw9.out.below yA)
 ·intro α; rfl
 apply RG.vW
 ·rfl
 ·intro α L w9 b hb h0 hcl hw9
  have e5 := hcl.not 2 (i := 5) h0 (by kernel_rfl)
  have hn := hI' (hw9.out.new e5 (by decide))
  repeat go_step
  rw [← hb]
  with_reducible refine RG.xB ?_
  rw [hb]
  exact hn
 ·intro b α; rfl
 apply RG.uZ (v := undef)
 ·rfl
 ·rfl
 ·intro α L w9 h0 hcl xH hw9
  have e4 : L 4 = true := by simpa using xH.yes 2 (i := 5) (by simp) (j := 4) (by kernel_rfl)
  obtain ⟨h1,h2,h3⟩ := hw9.out.2 e4
  rw [if_neg (by simp [h0])] at h3
  have hf := hI' (hw9.out.fill e4)
  refine wpList_store_row rfl _ _ _ rfl (α 4) (xG o10) rfl rfl _ (xG (List.replicate 5 0)) h3 xZ0.out Z_o10.out (xS _) ?_
  repeat go_step
  with_reducible refine RG.xB ?_
  exact hf
 ·intro α; rfl
 refine RG.wT (fun α w4 hw4 => ?_)
 have H0 := hI' hw4.out.done
 clear hw4
 simp only [Nat.zero_add,Nat.reduceAdd]
 generalize α 4 = xEa at H0 ⊢
 go_upto_region 6 with fail
 refine RG.zD [5] [4] (fun L α W => Hid (J1 w [(xEa,210,o10),(xSc,210,o5),(xE9,210,p11),(xNh,210,p9),(xM3,210,p2),(g_z,210,List.replicate 5 0),(xI7,210,ax)] 4 5 210 (List.replicate 5 0) o20 L α W)) (fun L L' α α' W hl ha h => hI' (J1.congr (hl 4 (by simp)) (hl 5 (by simp)) (ha 4 (by simp)) h.out)) (by kernel_rfl) (by kernel_rfl) (by kernel_rfl) (hI' (J1.start H0.out)) ?_
 clear H0
 apply RG.xL
 ·rfl
 ·rfl
 ·intro α L w9 h0 hcl xH hw9
  refine wpList_load_row rfl _ _ rfl xEa rfl _ (xG o10) (0,0) _ (hw9.out.1.get (g := xEa) (t := 210) (ws := o10) (by simp)) Tryz.underlying210 rfl xZ0.out ?_
  repeat go_step
  with_reducible exact RG.xB hw9
 ·intro α; rfl
 apply RG.xL
 ·rfl
 ·rfl
 ·intro α L w9 h0 hcl xH hw9
  repeat go_step
  refine (S_o20.out _).mono ?_
  rintro e w10 ⟨rfl,yA⟩
  simp only []
  repeat go_step
  with_reducible refine RG.xB ?_
  exact hI' (hw9.out.below yA)
 ·intro α; rfl
 apply RG.xL
 ·rfl
 ·rfl
 ·intro α L w9 h0 hcl xH hw9
  refine wpList_load_row rfl _ _ rfl xEa rfl _ (xG o10) (0,0) _ (hw9.out.1.get (g := xEa) (t := 210) (ws := o10) (by simp)) Tryz.underlying210 rfl xZ0.out ?_
  repeat go_step
  with_reducible exact RG.xB hw9
 ·intro α; rfl
 apply RG.xL
 ·rfl
 ·rfl
 ·intro α L w9 h0 hcl xH hw9
  repeat go_step
  refine (M_o20.out _).mono ?_
  rintro e w10 ⟨rfl,yA⟩
  simp only []
  repeat go_step
  with_reducible refine RG.xB ?_
  exact hI' (hw9.out.below yA)
 ·intro α; rfl
 apply RG.vW
 ·rfl
 ·intro α L w9 b hb h0 hcl hw9
  have e5 := hcl.not 2 (i := 5) h0 (by kernel_rfl)
  have hn := hI' (hw9.out.new e5 (by decide))
  repeat go_step
  rw [← hb]
  with_reducible refine RG.xB ?_
  rw [hb]
  exact hn
 ·intro b α; rfl
 apply RG.uZ (v := undef)
 ·rfl
 ·rfl
 ·intro α L w9 h0 hcl xH hw9
  have e4 : L 4 = true := by simpa using xH.yes 2 (i := 5) (by simp) (j := 4) (by kernel_rfl)
  obtain ⟨h1,h2,h3⟩ := hw9.out.2 e4
  rw [if_neg (by simp [h0])] at h3
  have hf := hI' (hw9.out.fill e4)
  refine wpList_store_row rfl _ _ _ rfl (α 4) (xG o20) rfl rfl _ (xG (List.replicate 5 0)) h3 yCb.out Z_o20.out (xS _) ?_
  repeat go_step
  with_reducible refine RG.xB ?_
  exact hf
 ·intro α; rfl
 refine RG.wT (fun α w4 hw4 => ?_)
 have H0 := hI' hw4.out.done
 clear hw4
 simp only [Nat.zero_add,Nat.reduceAdd]
 generalize α 4 = xHg at H0 ⊢
 go_upto_region 7 with fail
 refine RG.zD [5] [4] (fun L α W => Hid (J1 w [(xHg,210,o20),(xEa,210,o10),(xSc,210,o5),(xE9,210,p11),(xNh,210,p9),(xM3,210,p2),(g_z,210,List.replicate 5 0),(xI7,210,ax)] 4 5 210 (List.replicate 5 0) o40 L α W)) (fun L L' α α' W hl ha h => hI' (J1.congr (hl 4 (by simp)) (hl 5 (by simp)) (ha 4 (by simp)) h.out)) (by kernel_rfl) (by kernel_rfl) (by kernel_rfl) (hI' (J1.start H0.out)) ?_
 clear H0
 apply RG.xL
 ·rfl
 ·rfl
 ·intro α L w9 h0 hcl xH hw9
  refine wpList_load_row rfl _ _ rfl xHg rfl _ (xG o20) (0,0) _ (hw9.out.1.get (g := xHg) (t := 210) (ws := o20) (by simp)) Tryz.underlying210 rfl yCb.out ?_
  repeat go_step
  with_reducible exact RG.xB hw9
 ·intro α; rfl
 apply RG.xL
 ·rfl
 ·rfl
 ·intro α L w9 h0 hcl xH hw9
  repeat go_step
  refine (S_o40.out _).mono ?_
  rintro e w10 ⟨rfl,yA⟩
  simp only []
  repeat go_step
  with_reducible refine RG.xB ?_
  exact hI' (hw9.out.below yA)
 ·intro α; rfl
 apply RG.xL
 ·rfl
 ·rfl
 ·intro α L w9 h0 hcl xH hw9
  refine wpList_load_row rfl _ _ rfl xHg rfl _ (xG o20) (0,0) _ (hw9.out.1.get (g := xHg) (t := 210) (ws := o20) (by simp)) Tryz.underlying210 rfl yCb.out ?_
  repeat go_step
  with_reducible exact RG.xB hw9
 ·intro α; rfl
 apply RG.xL
 ·rfl
 ·rfl
 ·intro α L w9 h0 hcl xH hw9
  repeat go_step
  refine (M_o40.out _).mono ?_
  rintro e w10 ⟨rfl,yA⟩
  simp only []
  repeat go_step
  with_reducible refine RG.xB ?_
  exact hI' (hw9.out.below yA)
 ·intro α; rfl
 apply RG.vW
 ·rfl
 ·intro α L w9 b hb h0 hcl hw9
  have e5 := hcl.not 2 (i := 5) h0 (by kernel_rfl)
  have hn := hI' (hw9.out.new e5 (by decide))
  repeat go_step
  rw [← hb]
  with_reducible refine RG.xB ?_
  rw [hb]
  exact hn
 ·intro b α; rfl
 apply RG.uZ (v := undef)
 ·rfl
 ·rfl
 ·intro α L w9 h0 hcl xH hw9
  have e4 : L 4 = true := by simpa using xH.yes 2 (i := 5) (by simp) (j := 4) (by kernel_rfl)
  obtain ⟨h1,h2,h3⟩ := hw9.out.2 e4
  rw [if_neg (by simp [h0])] at h3
  have hf := hI' (hw9.out.fill e4)
  refine wpList_store_row rfl _ _ _ rfl (α 4) (xG o40) rfl rfl _ (xG (List.replicate 5 0)) h3 I_o40.out Z_o40.out (xS _) ?_
  repeat go_step
  with_reducible refine RG.xB ?_
  exact hf
 ·intro α; rfl
 refine RG.wT (fun α w4 hw4 => ?_)
 have H0 := hI' hw4.out.done
 clear hw4
 simp only [Nat.zero_add,Nat.reduceAdd]
 generalize α 4 = xNi at H0 ⊢
 go_upto_region 8 with fail
 refine RG.zD [5] [4] (fun L α W => Hid (J1 w [(xNi,210,o40),(xHg,210,o20),(xEa,210,o10),(xSc,210,o5),(xE9,210,p11),(xNh,210,p9),(xM3,210,p2),(g_z,210,List.replicate 5 0),(xI7,210,ax)] 4 5 210 (List.replicate 5 0) o50 L α W)) (fun L L' α α' W hl ha h => hI' (J1.congr (hl 4 (by simp)) (hl 5 (by simp)) (ha 4 (by simp)) h.out)) (by kernel_rfl) (by kernel_rfl) (by kernel_rfl) (hI' (J1.start H0.out)) ?_
 clear H0
 apply RG.xL
 ·rfl
 ·rfl
 ·intro α L w9 h0 hcl xH hw9
  refine wpList_load_row rfl _ _ rfl xNi rfl _ (xG o40) (0,0) _ (hw9.out.1.get (g := xNi) (t := 210) (ws := o40) (by simp)) Tryz.underlying210 rfl I_o40.out ?_
  repeat go_step
  with_reducible exact RG.xB hw9
 ·intro α; rfl
 apply RG.xL
 ·rfl
 ·rfl
 ·intro α L w9 h0 hcl xH hw9
  repeat go_step
  refine (S_o50.out _).mono ?_
  rintro e w10 ⟨rfl,yA⟩
  simp only []
  repeat go_step
  with_reducible refine RG.xB ?_
  exact hI' (hw9.out.below yA)
 ·intro α; rfl
 apply RG.xL
 ·rfl
 ·rfl
 ·intro α L w9 h0 hcl xH hw9
  refine wpList_load_row rfl _ _ rfl xEa rfl _ (xG o10) (0,0) _ (hw9.out.1.get (g := xEa) (t := 210) (ws := o10) (by simp)) Tryz.underlying210 rfl xZ0.out ?_
  repeat go_step
  with_reducible exact RG.xB hw9
 ·intro α; rfl
 apply RG.xL
 ·rfl
 ·rfl
 ·intro α L w9 h0 hcl xH hw9
  repeat go_step
  refine (M_o50.out _).mono ?_
  rintro e w10 ⟨rfl,yA⟩
  simp only []
  repeat go_step
  with_reducible refine RG.xB ?_
  exact hI' (hw9.out.below yA)
 ·intro α; rfl
 apply RG.vW
 ·rfl
 ·intro α L w9 b hb h0 hcl hw9
  have e5 := hcl.not 2 (i := 5) h0 (by kernel_rfl)
  have hn := hI' (hw9.out.new e5 (by decide))
  repeat go_step
  rw [← hb]
  with_reducible refine RG.xB ?_
  rw [hb]
  exact hn
 ·intro b α; rfl
 apply RG.uZ (v := undef)
 ·rfl
 ·rfl
 ·intro α L w9 h0 hcl xH hw9
  have e4 : L 4 = true := by simpa using xH.yes 2 (i := 5) (by simp) (j := 4) (by kernel_rfl)
  obtain ⟨h1,h2,h3⟩ := hw9.out.2 e4
  rw [if_neg (by simp [h0])] at h3
  have hf := hI' (hw9.out.fill e4)
  refine wpList_store_row rfl _ _ _ rfl (α 4) (xG o50) rfl rfl _ (xG (List.replicate 5 0)) h3 xYz.out Z_o50.out (xS _) ?_
  repeat go_step
  with_reducible refine RG.xB ?_
  exact hf
 ·intro α; rfl
 refine RG.wT (fun α w4 hw4 => ?_)
 have H0 := hI' hw4.out.done
 clear hw4
 simp only [Nat.zero_add,Nat.reduceAdd]
 generalize α 4 = xHf at H0 ⊢
 go_upto_region 9 with fail
 refine RG.zD [5] [4] (fun L α W => Hid (J1 w [(xHf,210,o50),(xNi,210,o40),(xHg,210,o20),(xEa,210,o10),(xSc,210,o5),(xE9,210,p11),(xNh,210,p9),(xM3,210,p2),(g_z,210,List.replicate 5 0),(xI7,210,ax)] 4 5 210 (List.replicate 5 0) xR5 L α W)) (fun L L' α α' W hl ha h => hI' (J1.congr (hl 4 (by simp)) (hl 5 (by simp)) (ha 4 (by simp)) h.out)) (by kernel_rfl) (by kernel_rfl) (by kernel_rfl) (hI' (J1.start H0.out)) ?_
 clear H0
 apply RG.xL
 ·rfl
 ·rfl
 ·intro α L w9 h0 hcl xH hw9
  refine wpList_load_row rfl _ _ rfl xHf rfl _ (xG o50) (0,0) _ (hw9.out.1.get (g := xHf) (t := 210) (ws := o50) (by simp)) Tryz.underlying210 rfl xYz.out ?_
  repeat go_step
  with_reducible exact RG.xB hw9
 ·intro α; rfl
 apply RG.xL
 ·rfl
 ·rfl
 ·intro α L w9 h0 hcl xH hw9
  repeat go_step
  refine (S_o100.out _).mono ?_
  rintro e w10 ⟨rfl,yA⟩
  simp only []
  repeat go_step
  with_reducible refine RG.xB ?_
  exact hI' (hw9.out.below yA)
 ·intro α; rfl
 apply RG.xL
 ·rfl
 ·rfl
 ·intro α L w9 h0 hcl xH hw9
  refine wpList_load_row rfl _ _ rfl xHf rfl _ (xG o50) (0,0) _ (hw9.out.1.get (g := xHf) (t := 210) (ws := o50) (by simp)) Tryz.underlying210 rfl xYz.out ?_
  repeat go_step
  with_reducible exact RG.xB hw9
 ·intro α; rfl
 apply RG.xL
 ·rfl
 ·rfl
 ·intro α L w9 h0 hcl xH hw9
  repeat go_step
  refine (M_o100.out _).mono ?_
  rintro e w10 ⟨rfl,yA⟩
  simp only []
  repeat go_step
  with_reducible refine RG.xB ?_
  exact hI' (hw9.out.below yA)
 ·intro α; rfl
 apply RG.vW
 ·rfl
 ·intro α L w9 b hb h0 hcl hw9
  have e5 := hcl.not 2 (i := 5) h0 (by kernel_rfl)
  have hn := hI' (hw9.out.new e5 (by decide))
  repeat go_step
  rw [← hb]
  with_reducible refine RG.xB ?_
  rw [hb]
  exact hn
 ·intro b α; rfl
 apply RG.uZ (v := undef)
 ·rfl
 ·rfl
 ·intro α L w9 h0 hcl xH hw9
  have e4 : L 4 = true := by simpa using xH.yes 2 (i := 5) (by simp) (j := 4) (by kernel_rfl)
  obtain ⟨h1,h2,h3⟩ := hw9.out.2 e4
  rw [if_neg (by simp [h0])] at h3
  have hf := hI' (hw9.out.fill e4)
  refine wpList_store_row rfl _ _ _ rfl (α 4) (xG xR5) rfl rfl _ (xG (List.replicate 5 0)) h3 xWf.out Z_o100.out (xS _) ?_
  repeat go_step
  with_reducible refine RG.xB ?_
  exact hf
 ·intro α; rfl
 refine RG.wT (fun α w4 hw4 => ?_)
 have H0 := hI' hw4.out.done
 clear hw4
 simp only [Nat.zero_add,Nat.reduceAdd]
 generalize α 4 = xGc at H0 ⊢
 go_upto_region 10 with fail
 refine RG.zD [5] [4] (fun L α W => Hid (J1 w [(xGc,210,xR5),(xHf,210,o50),(xNi,210,o40),(xHg,210,o20),(xEa,210,o10),(xSc,210,o5),(xE9,210,p11),(xNh,210,p9),(xM3,210,p2),(g_z,210,List.replicate 5 0),(xI7,210,ax)] 4 5 210 (List.replicate 5 0) xXm L α W)) (fun L L' α α' W hl ha h => hI' (J1.congr (hl 4 (by simp)) (hl 5 (by simp)) (ha 4 (by simp)) h.out)) (by kernel_rfl) (by kernel_rfl) (by kernel_rfl) (hI' (J1.start H0.out)) ?_
 clear H0
 apply RG.xL
 ·rfl
 ·rfl
 ·intro α L w9 h0 hcl xH hw9
  refine wpList_load_row rfl _ _ rfl xGc rfl _ (xG xR5) (0,0) _ (hw9.out.1.get (g := xGc) (t := 210) (ws := xR5) (by simp)) Tryz.underlying210 rfl xWf.out ?_
  repeat go_step
  with_reducible exact RG.xB hw9
 ·intro α; rfl
 apply RG.xL
 ·rfl
 ·rfl
 ·intro α L w9 h0 hcl xH hw9
  repeat go_step
  refine (S_o200.out _).mono ?_
  rintro e w10 ⟨rfl,yA⟩
  simp only []
  repeat go_step
  with_reducible refine RG.xB ?_
  exact hI' (hw9.out.below yA)
 ·intro α; rfl
 apply RG.xL
 ·rfl
 ·rfl
 ·intro α L w9 h0 hcl xH hw9
  refine wpList_load_row rfl _ _ rfl xGc rfl _ (xG xR5) (0,0) _ (hw9.out.1.get (g := xGc) (t := 210) (ws := xR5) (by simp)) Tryz.underlying210 rfl xWf.out ?_
  repeat go_step
  with_reducible exact RG.xB hw9
 ·intro α; rfl
 apply RG.xL
 ·rfl
 ·rfl
 ·intro α L w9 h0 hcl xH hw9
  repeat go_step
  refine (M_o200.out _).mono ?_
  rintro e w10 ⟨rfl,yA⟩
  simp only []
  repeat go_step
  with_reducible refine RG.xB ?_
  exact hI' (hw9.out.below yA)
 ·intro α; rfl
 apply RG.vW
 ·rfl
 ·intro α L w9 b hb h0 hcl hw9
  have e5 := hcl.not 2 (i := 5) h0 (by kernel_rfl)
  have hn := hI' (hw9.out.new e5 (by decide))
  repeat go_step
  rw [← hb]
  with_reducible refine RG.xB ?_
  rw [hb]
  exact hn
 ·intro b α; rfl
 apply RG.uZ (v := undef)
 ·rfl
 ·rfl
 ·intro α L w9 h0 hcl xH hw9
  have e4 : L 4 = true := by simpa using xH.yes 2 (i := 5) (by simp) (j := 4) (by kernel_rfl)
  obtain ⟨h1,h2,h3⟩ := hw9.out.2 e4
  rw [if_neg (by simp [h0])] at h3
  have hf := hI' (hw9.out.fill e4)
  refine wpList_store_row rfl _ _ _ rfl (α 4) (xG xXm) rfl rfl _ (xG (List.replicate 5 0)) h3 xZx.out Z_o200.out (xS _) ?_
  repeat go_step
  with_reducible refine RG.xB ?_
  exact hf
 ·intro α; rfl
 refine RG.wT (fun α w4 hw4 => ?_)
 have H0 := hI' hw4.out.done
 clear hw4
 simp only [Nat.zero_add,Nat.reduceAdd]
 generalize α 4 = xPd at H0 ⊢
 go_upto_region 11 with fail
 refine RG.zD [5] [4] (fun L α W => Hid (J1 w [(xPd,210,xXm),(xGc,210,xR5),(xHf,210,o50),(xNi,210,o40),(xHg,210,o20),(xEa,210,o10),(xSc,210,o5),(xE9,210,p11),(xNh,210,p9),(xM3,210,p2),(g_z,210,List.replicate 5 0),(xI7,210,ax)] 4 5 210 (List.replicate 5 0) xZg L α W)) (fun L L' α α' W hl ha h => hI' (J1.congr (hl 4 (by simp)) (hl 5 (by simp)) (ha 4 (by simp)) h.out)) (by kernel_rfl) (by kernel_rfl) (by kernel_rfl) (hI' (J1.start H0.out)) ?_
 clear H0
 apply RG.xL
 ·rfl
 ·rfl
 ·intro α L w9 h0 hcl xH hw9
  refine wpList_load_row rfl _ _ rfl xPd rfl _ (xG xXm) (0,0) _ (hw9.out.1.get (g := xPd) (t := 210) (ws := xXm) (by simp)) Tryz.underlying210 rfl xZx.out ?_
  repeat go_step
  with_reducible exact RG.xB hw9
 ·intro α; rfl
 apply RG.xL
 ·rfl
 ·rfl
 ·intro α L w9 h0 hcl xH hw9
  repeat go_step
  refine (S_o250.out _).mono ?_
  rintro e w10 ⟨rfl,yA⟩
  simp only []
  repeat go_step
  with_reducible refine RG.xB ?_
  exact hI' (hw9.out.below yA)
 ·intro α; rfl
 apply RG.xL
 ·rfl
 ·rfl
 ·intro α L w9 h0 hcl xH hw9
  refine wpList_load_row rfl _ _ rfl xHf rfl _ (xG o50) (0,0) _ (hw9.out.1.get (g := xHf) (t := 210) (ws := o50) (by simp)) Tryz.underlying210 rfl xYz.out ?_
  repeat go_step
  with_reducible exact RG.xB hw9
 ·intro α; rfl
 apply RG.xL
 ·rfl
 ·rfl
 ·intro α L w9 h0 hcl xH hw9
  repeat go_step
  refine (M_o250.out _).mono ?_
  rintro e w10 ⟨rfl,yA⟩
  simp only []
  repeat go_step
  with_reducible refine RG.xB ?_
  exact hI' (hw9.out.below yA)
 ·intro α; rfl
 apply RG.vW
 ·rfl
 ·intro α L w9 b hb h0 hcl hw9
  have e5 := hcl.not 2 (i := 5) h0 (by kernel_rfl)
  have hn := hI' (hw9.out.new e5 (by decide))
  repeat go_step
  rw [← hb]
  with_reducible refine RG.xB ?_
  rw [hb]
  exact hn
 ·intro b α; rfl
 apply RG.uZ (v := undef)
 ·rfl
 ·rfl
 ·intro α L w9 h0 hcl xH hw9
  have e4 : L 4 = true := by simpa using xH.yes 2 (i := 5) (by simp) (j := 4) (by kernel_rfl)
  obtain ⟨h1,h2,h3⟩ := hw9.out.2 e4
  rw [if_neg (by simp [h0])] at h3
  have hf := hI' (hw9.out.fill e4)
  refine wpList_store_row rfl _ _ _ rfl (α 4) (xG xZg) rfl rfl _ (xG (List.replicate 5 0)) h3 xZw.out Z_o250.out (xS _) ?_
  repeat go_step
  with_reducible refine RG.xB ?_
  exact hf
 ·intro α; rfl
 refine RG.wT (fun α w4 hw4 => ?_)
 have H0 := hI' hw4.out.done
 clear hw4
 simp only [Nat.zero_add,Nat.reduceAdd]
 generalize α 4 = xVa at H0 ⊢
 go_upto_region 12 with fail
 refine RG.yN 5 (fun L W => Hid ((L 4 = false → Bag w [(xVa,210,xZg),(xPd,210,xXm),(xGc,210,xR5),(xHf,210,o50),(xNi,210,o40),(xHg,210,o20),(xEa,210,o10),(xSc,210,o5),(xE9,210,p11),(xNh,210,p9),(xM3,210,p2),(g_z,210,List.replicate 5 0),(xI7,210,ax)] W) ∧ (L 4 = true → Below w.heap.size w W ∧ uY 210 W g_z res))) (fun L L' W h hI => by rw [← h 4 (by decide)]; exact hI) (by kernel_rfl) (by kernel_rfl) rfl (hI' ⟨fun _ => H0.out.drew,fun h => by cases h⟩) ?_
 clear H0
 apply RG.xJ
 ·rfl
 ·rfl
 ·intro L w9 h0 hcl xH hw9
  have e := hcl.not 5 (i := 4) h0 (by kernel_rfl)
  have hb := hw9.out.1 e
  refine wpList_load_row rfl _ _ rfl xVa rfl _ (xG xZg) (0,0) _ (hb.get (g := xVa) (t := 210) (ws := xZg) (by simp)) Tryz.underlying210 rfl xZw.out ?_
  repeat go_step
  with_reducible refine RG.xB ?_
  exact ⟨xH,hw9⟩
 ·rfl
 apply RG.xJ
 ·rfl
 ·rfl
 ·intro L w9 h0 hcl xH hw9
  have e := hcl.not 5 (i := 4) h0 (by kernel_rfl)
  have hb := hw9.out.1 e
  repeat go_step
  refine (S_res.out _).mono ?_
  rintro e w10 ⟨rfl,yA⟩
  simp only []
  repeat go_step
  with_reducible refine RG.xB ?_
  refine ⟨xH,hI' ⟨fun _ => hb.below yA,fun h4 => ?_⟩⟩
  have h5 : L 4 = true := h4
  rw [e] at h5
  cases h5
 ·rfl
 apply RG.xJ
 ·rfl
 ·rfl
 ·intro L w9 h0 hcl xH hw9
  have e := hcl.not 5 (i := 4) h0 (by kernel_rfl)
  have hb := hw9.out.1 e
  refine wpList_load_row rfl _ _ rfl xE9 rfl _ (xG p11) (0,0) _ (hb.get (g := xE9) (t := 210) (ws := p11) (by simp)) Tryz.underlying210 rfl yCa.out ?_
  repeat go_step
  with_reducible refine RG.xB ?_
  exact ⟨xH,hw9⟩
 ·rfl
 apply RG.xJ
 ·rfl
 ·rfl
 ·intro L w9 h0 hcl xH hw9
  have e := hcl.not 5 (i := 4) h0 (by kernel_rfl)
  have hb := hw9.out.1 e
  repeat go_step
  refine (M_res.out _).mono ?_
  rintro e w10 ⟨rfl,yA⟩
  simp only []
  repeat go_step
  with_reducible refine RG.xB ?_
  refine ⟨xH,hI' ⟨fun _ => hb.below yA,fun h4 => ?_⟩⟩
  have h5 : L 4 = true := h4
  rw [e] at h5
  cases h5
 ·rfl
 apply RG.xJ
 ·rfl
 ·rfl
 ·intro L w9 h0 hcl xH hw9
  have hb := hw9.out.1 h0
  have hz := hb.get (g := g_z) (t := 210) (ws := List.replicate 5 0) (by simp)
  have hg := (hb.2 g_z 210 (List.replicate 5 0) (by simp)).1
  refine wpList_store_row rfl _ _ _ rfl g_z (xG res) rfl rfl _ (xG (List.replicate 5 0)) hz I_res.out Z_res.out (xS _) ?_
  repeat go_step
  with_reducible refine RG.xB ?_
  exact ⟨xH,hI' ⟨fun h => (by cases h),fun _ => ⟨below_setRow hb.1 hg _,setRow_heap _ _ _ _ _ _ hz⟩⟩⟩
 ·rfl
 refine RG.yP (fun w9 hw9 => ?_)
 obtain ⟨hbl,hres⟩ := hw9.out.2 rfl
 have HBL := hI' hbl
 have HRS := hI' hres
 clear hw9 hbl hres
 go_wp2
 refine bodyPost_ret (results_cell_row rfl _ _ g_z _ _ (0,0) _ rfl HRS.out Tryz.underlying210 rfl I_res.out) rfl ?_
 rw [HE.out]
 exact ⟨rfl,HBL.out⟩
end Go.Proofs.FE

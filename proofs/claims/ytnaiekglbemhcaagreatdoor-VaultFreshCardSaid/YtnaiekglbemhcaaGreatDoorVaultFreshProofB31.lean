/- What ladder.step returns. Conditions: five and ten numbers of 64 bits. (Printed by gen_lad_step.py.) -/
import Derived.Test.YtnaiekglbemhcaaGreatDoorVaultFreshProofB29
import Derived.Test.YtnaiekglbemhcaaGreatDoorVaultFreshProofB30
import Derived.Great.BuildSlice
set_option maxHeartbeats 8000000
set_option maxRecDepth 100000
namespace Mailsack
def yAe (x z : List Int) : List Int := xHj x z
def yAf (x z : List Int) : List Int := xHh x z
def stS2 (x z : List Int) : List Int := uX (yAe x z) (yAe x z)
def stD2 (x z : List Int) : List Int := uX (yAf x z) (yAf x z)
def stE (x z : List Int) : List Int := xHh (stS2 x z) (stD2 x z)
def stDA (x1 z1 x2 z2 : List Int) : List Int := uX (xHh x2 z2) (yAe x1 z1)
def stCB (x1 z1 x2 z2 : List Int) : List Int := uX (xHj x2 z2) (yAf x1 z1)
def stP (x1 z1 x2 z2 : List Int) : List Int := xHj (stDA x1 z1 x2 z2) (stCB x1 z1 x2 z2)
def stM (x1 z1 x2 z2 : List Int) : List Int := xHh (stDA x1 z1 x2 z2) (stCB x1 z1 x2 z2)
def stX2 (x1 z1 : List Int) : List Int := uX (stS2 x1 z1) (stD2 x1 z1)
def stZ2 (x1 z1 : List Int) : List Int := uX (stE x1 z1) (xHj (stS2 x1 z1) (xEf (stE x1 z1) 121665))
def stX3 (x1 z1 x2 z2 : List Int) : List Int := uX (stP x1 z1 x2 z2) (stP x1 z1 x2 z2)
def stZ3 (u x1 z1 x2 z2 : List Int) : List Int := uX u (uX (stM x1 z1 x2 z2) (stM x1 z1 x2 z2))
end Mailsack
namespace Go.Proofs.FE
open Go.RowKit Mailsack MM BB SH
def J2 (w : World) (B : List (Nat × TypeId × List Int)) (n s n' s' : Nat) (t : TypeId) (zs v v' : List Int) (L : Nat → Bool) (α : RG.Pl) (W : World) : Prop :=
 J1 w B n s t zs v L α W ∧ J1 w B n' s' t zs v' L α W ∧ (L n = true → L n' = true → α n ≠ α n')
section
variable {w W W' : World} {B : List (Nat × TypeId × List Int)} {n s n' s' : Nat} {t : TypeId} {zs v v' : List Int} {L : Nat → Bool} {α : RG.Pl}
theorem J2.congr {L' : Nat → Bool} {α' : RG.Pl} (hn : L n = L' n) (hs : L s = L' s) (ha : L n = true → α n = α' n) (hn' : L n' = L' n') (hs' : L s' = L' s') (ha' : L n' = true → α n' = α' n') (h : J2 w B n s n' s' t zs v v' L α W) : J2 w B n s n' s' t zs v v' L' α' W :=
 ⟨h.1.congr hn hs ha,h.2.1.congr hn' hs' ha',fun h1 h2 => by rw [← hn] at h1; rw [← hn'] at h2; rw [← ha h1,← ha' h2]; exact h.2.2 h1 h2⟩
theorem J2.start (h : Bag w B W) : J2 w B n s n' s' t zs v v' (fun _ => false) α W.drew := ⟨J1.start h,J1.start h,fun h => by cases h⟩
theorem J2.below (h : J2 w B n s n' s' t zs v v' L α W) (hb : Below W.heap.size W W') : J2 w B n s n' s' t zs v v' L α W' := ⟨h.1.below hb,h.2.1.below hb,h.2.2⟩
theorem J1.xUn (h : J1 w B n s t zs v L α W) {m : Nat} (hm : n ≠ m) (hs : s ≠ m) (o : Obj) : J1 w B n s t zs v (fun j => j == m || L j) (RG.xHb α m W.heap.size) (W.alloc o) := by
 have h2 := h.below (W' := W.alloc o) ((Below.refl _ W).alloc (Nat.le_refl _) o)
 refine h2.congr ?_ ?_ (fun _ => ?_)
 ·show L n = (n == m || L n)
  rw [show (n == m) = false by simpa using hm,Bool.false_or]
 ·show L s = (s == m || L s)
  rw [show (s == m) = false by simpa using hs,Bool.false_or]
 ·rw [RG.xBg _ _ _ hm]
theorem J2.xHc (h : J2 w B n s n' s' t zs v v' L α W) (hs : L s = false) (h1 : s ≠ n) (h2 : n' ≠ n) (h3 : s' ≠ n) : J2 w B n s n' s' t zs v v' (fun j => j == n || L j) (RG.xHb α n W.heap.size) (W.alloc (.cells (xG zs) t)) :=
 ⟨h.1.new hs h1,h.2.1.xUn h2 h3 _,fun _ hb => by
  have hb' : L n' = true := by simpa [h2] using hb
  rw [RG.xAx,RG.xBg _ _ _ h2]
  have := xI (h.2.1.2 hb').2.2.blk
  omega⟩
theorem J2.newB (h : J2 w B n s n' s' t zs v v' L α W) (hs : L s' = false) (h1 : s' ≠ n') (h2 : n ≠ n') (h3 : s ≠ n') : J2 w B n s n' s' t zs v v' (fun j => j == n' || L j) (RG.xHb α n' W.heap.size) (W.alloc (.cells (xG zs) t)) :=
 ⟨h.1.xUn h2 h3 _,h.2.1.new hs h1,fun hb _ => by
  have hb' : L n = true := by simpa [h2] using hb
  rw [RG.xAx,RG.xBg _ _ _ h2]
  have := xI (h.1.2 hb').2.2.blk
  omega⟩
theorem J1.xP4 (h : J1 w B n s t zs v L α W) {m g : Nat} (hm : n ≠ m) (hs : s ≠ m) (hg : w.heap.size ≤ g) (hf : ∀ g' t ws,(g',t,ws) ∈ B → g' ≠ g) (hne : L n = true → α n ≠ g) (cs : Array Value) : J1 w B n s t zs v (fun j => j == m || L j) α (W.setRow g cs) := by
 refine ⟨h.1.far hg hf _,fun h1 => ?_⟩
 have h1' : L n = true := by simpa [hm] using h1
 obtain ⟨a1,a2,a3⟩ := h.2 h1'
 refine ⟨a1,a2,?_⟩
 rw [show (fun j => j == m || L j) s = L s by show (s == m || L s) = L s; rw [show (s == m) = false by simpa using hs,Bool.false_or]]
 exact (setRow_other _ _ _ _ (hne h1')).trans a3
theorem J2.yBt (h : J2 w B n s n' s' t zs v v' L α W) (hn : L n = true) (h1 : n' ≠ s) (h2 : s' ≠ s) : J2 w B n s n' s' t zs v v' (fun j => j == s || L j) α (W.setRow (α n) (xG v)) :=
 ⟨h.1.fill hn,h.2.1.xP4 h1 h2 (h.1.2 hn).2.1 (h.1.2 hn).1 (fun hb e => h.2.2 hn hb e.symm) _,fun _ hb => h.2.2 hn (by simpa [h1] using hb)⟩
theorem J2.yBs (h : J2 w B n s n' s' t zs v v' L α W) (hn : L n' = true) (h1 : n ≠ s') (h2 : s ≠ s') : J2 w B n s n' s' t zs v v' (fun j => j == s' || L j) α (W.setRow (α n') (xG v')) :=
 ⟨h.1.xP4 h1 h2 (h.2.1.2 hn).2.1 (h.2.1.2 hn).1 (fun hb e => h.2.2 hb hn e) _,h.2.1.fill hn,fun hb _ => h.2.2 (by simpa [h1] using hb) hn⟩
theorem J2.done (h : J2 w B n s n' s' t zs v v' (fun _ => true) α W) : Bag w ((α n',t,v') :: (α n,t,v) :: B) W := by
 obtain ⟨a1,a2,a3⟩ := h.2.1.2 rfl
 rw [if_pos rfl] at a3
 exact h.1.done.cons a2 a3
end
structure FoG (t : TypeId) (w : World) (ga gb gr gs : Nat) (ax bx rx sx : List Int) (W : World) : Prop where
 ba : uY t W ga ax
 bb : uY t W gb bx
 br : uY t W gr rx
 bs : uY t W gs sx
 bel : Below w.heap.size w W
 ne : ga ≠ gr ∧ gb ≠ gr ∧ gs ≠ gr ∧ ga ≠ gs ∧ gb ≠ gs ∧ w.heap.size ≤ gr ∧ w.heap.size ≤ gs
section
variable {t : TypeId} {w W W' : World} {ga gb gr gs : Nat} {ax bx rx sx : List Int}
theorem FoG.drew (h : FoG t w ga gb gr gs ax bx rx sx W) : FoG t w ga gb gr gs ax bx rx sx W.drew := ⟨h.ba,h.bb,h.br,h.bs,h.bel.drew,h.ne⟩
theorem FoG.rowR (h : FoG t w ga gb gr gs ax bx rx sx W) (xs : List Int) : FoG t w ga gb gr gs ax bx xs sx (W.setRow gr (xG xs)) := by
 obtain ⟨n1,n2,n3,n4,n5,n6,n7⟩ := h.ne
 exact ⟨(setRow_other _ _ _ _ n1).trans h.ba,(setRow_other _ _ _ _ n2).trans h.bb,setRow_heap _ _ _ _ _ _ h.br,(setRow_other _ _ _ _ n3).trans h.bs,below_setRow h.bel n6 _,h.ne⟩
theorem FoG.rowS (h : FoG t w ga gb gr gs ax bx rx sx W) (xs : List Int) : FoG t w ga gb gr gs ax bx rx xs (W.setRow gs (xG xs)) := by
 obtain ⟨n1,n2,n3,n4,n5,n6,n7⟩ := h.ne
 exact ⟨(setRow_other _ _ _ _ n4).trans h.ba,(setRow_other _ _ _ _ n5).trans h.bb,(setRow_other _ _ _ _ (Ne.symm n3)).trans h.br,setRow_heap _ _ _ _ _ _ h.bs,below_setRow h.bel n7 _,h.ne⟩
end
theorem xEm {x z : List Int} (hx : x.length = 5) (hz : z.length = 5) : Tryz.prog.built 214 [(0,.agg (xG x)),(1,.agg (xG z))] = some (xG (x ++ z)) := by
 obtain ⟨a,b,c,d,e,rfl⟩ := xEe hx
 obtain ⟨a',b',c',d',e',rfl⟩ := xEe hz
 kernel_rfl
theorem xOm (x y : List Int) (hx : x.length = 5) (ux : yV x) (hy : y.length = 5) (uy : yV y) : ∃ v,Hid (∀ W,Calls Tryz.prog 190 #[.agg (xG x),.agg (xG y)] W fun e w' => e = .returned (.agg (xG v)) ∧ Below W.heap.size W w') ∧ v = xHj x y ∧ v.length = 5 ∧ yV v :=
 ⟨_,hI' (fun W => yC6 _ _ W hx ux hy uy),rfl,xVq _ _,yBw _ _⟩
theorem xOk (x y : List Int) (hx : x.length = 5) (ux : yV x) (hy : y.length = 5) (uy : yV y) : ∃ v,Hid (∀ W,Calls Tryz.prog 191 #[.agg (xG x),.agg (xG y)] W fun e w' => e = .returned (.agg (xG v)) ∧ Below W.heap.size W w') ∧ v = xHh x y ∧ v.length = 5 ∧ yV v :=
 ⟨_,hI' (fun W => yAd _ _ W hx ux hy uy),rfl,xVm _ _,yBu _ _⟩
theorem xD2 (x y : List Int) (hx : x.length = 5) (ux : yV x) (hy : y.length = 5) (uy : yV y) : ∃ v,Hid (∀ W,Calls Tryz.prog 147 #[.agg (xG x),.agg (xG y)] W fun e w' => e = .returned (.agg (xG v)) ∧ Below W.heap.size W w') ∧ v = uX x y ∧ v.length = 5 ∧ yV v :=
 ⟨_,hI' (fun W => rT _ _ W hx ux hy uy),rfl,vK _ _,tY _ _⟩
theorem xXk (x : List Int) (hx : x.length = 5) (ux : yV x) : ∃ v,Hid (∀ W,Calls Tryz.prog 192 #[.agg (xG x),.int .u32 121665] W fun e w' => e = .returned (.agg (xG v)) ∧ Below W.heap.size W w') ∧ v = xEf x 121665 ∧ v.length = 5 ∧ yV v :=
 ⟨_,hI' (fun W => xTe _ _ W hx ux (by decide) (by decide)),rfl,vK _ _,tY _ _⟩
theorem xB2 (x z : List Int) (h : x.length = 5) (h2 : z.length = 5) : Hid ((Tryz.prog.info? 214).map (·.size) = some (xG (x ++ z)).size) := hI' (infoP h h2)
theorem psame (x z : List Int) (h : x.length = 5) (h2 : z.length = 5) : Hid ((xG (List.replicate 10 0)).size = (xG (x ++ z)).size) := hI' (by rw [xV,xV,List.length_append,h,h2]; rfl)
theorem xX4 (u x1 z1 x2 z2 : List Int) (w : World) (l_u : u.length = 5) (u_u : yV u) (l_x1 : x1.length = 5) (u_x1 : yV x1) (l_z1 : z1.length = 5) (u_z1 : yV z1) (l_x2 : x2.length = 5) (u_x2 : yV x2) (l_z2 : z2.length = 5) (u_z2 : yV z2) :
  Calls Tryz.prog 145 #[.agg (xG u),.agg (xG (x1 ++ z1)),.agg (xG (x2 ++ z2))] w fun e w' => e = .returned (.tuple #[.agg (xG (stX2 x1 z1 ++ stZ2 x1 z1)),.agg (xG (stX3 x1 z1 x2 z2 ++ stZ3 u x1 z1 x2 z2))]) ∧ Below w.heap.size w w' := by
 obtain ⟨su,C_su,E_su,l_su,u_su⟩ := xOm x1 z1 l_x1 u_x1 l_z1 u_z1
 obtain ⟨di,C_di,E_di,l_di,u_di⟩ := xOk x1 z1 l_x1 u_x1 l_z1 u_z1
 obtain ⟨s2,C_s2,E_s2,l_s2,u_s2⟩ := xD2 su su l_su u_su l_su u_su
 obtain ⟨d2,C_d2,E_d2,l_d2,u_d2⟩ := xD2 di di l_di u_di l_di u_di
 obtain ⟨ee,C_ee,E_ee,l_ee,u_ee⟩ := xOk s2 d2 l_s2 u_s2 l_d2 u_d2
 obtain ⟨qd,C_qd,E_qd,l_qd,u_qd⟩ := xOk x2 z2 l_x2 u_x2 l_z2 u_z2
 obtain ⟨da,C_da,E_da,l_da,u_da⟩ := xD2 qd su l_qd u_qd l_su u_su
 obtain ⟨qs,C_qs,E_qs,l_qs,u_qs⟩ := xOm x2 z2 l_x2 u_x2 l_z2 u_z2
 obtain ⟨cb,C_cb,E_cb,l_cb,u_cb⟩ := xD2 qs di l_qs u_qs l_di u_di
 obtain ⟨pl,C_pl,E_pl,l_pl,u_pl⟩ := xOm da cb l_da u_da l_cb u_cb
 obtain ⟨mi,C_mi,E_mi,l_mi,u_mi⟩ := xOk da cb l_da u_da l_cb u_cb
 obtain ⟨X2,C_X2,E_X2,l_X2,u_X2⟩ := xD2 s2 d2 l_s2 u_s2 l_d2 u_d2
 obtain ⟨sm,C_sm,E_sm,l_sm,u_sm⟩ := xXk ee l_ee u_ee
 obtain ⟨ad,C_ad,E_ad,l_ad,u_ad⟩ := xOm s2 sm l_s2 u_s2 l_sm u_sm
 obtain ⟨Z2,C_Z2,E_Z2,l_Z2,u_Z2⟩ := xD2 ee ad l_ee u_ee l_ad u_ad
 obtain ⟨X3,C_X3,E_X3,l_X3,u_X3⟩ := xD2 pl pl l_pl u_pl l_pl u_pl
 obtain ⟨mm,C_mm,E_mm,l_mm,u_mm⟩ := xD2 mi mi l_mi u_mi l_mi u_mi
 obtain ⟨Z3,C_Z3,E_Z3,l_Z3,u_Z3⟩ := xD2 u mm l_u u_u l_mm u_mm
 have I_u := zV u l_u
 have I_x1 := zV x1 l_x1
 have I_z1 := zV z1 l_z1
 have I_x2 := zV x2 l_x2
 have I_z2 := zV z2 l_z2
 have I_su := zV su l_su
 have I_di := zV di l_di
 have I_s2 := zV s2 l_s2
 have I_d2 := zV d2 l_d2
 have I_ee := zV ee l_ee
 have I_qd := zV qd l_qd
 have I_da := zV da l_da
 have I_qs := zV qs l_qs
 have I_cb := zV cb l_cb
 have I_pl := zV pl l_pl
 have I_mi := zV mi l_mi
 have I_X2 := zV X2 l_X2
 have I_sm := zV sm l_sm
 have I_ad := zV ad l_ad
 have I_Z2 := zV Z2 l_Z2
 have I_X3 := zV X3 l_X3
 have I_mm := zV mm l_mm
 have I_Z3 := zV Z3 l_Z3
 have Z_su := vG su l_su
 have Z_di := vG di l_di
 have Z_s2 := vG s2 l_s2
 have Z_d2 := vG d2 l_d2
 have Z_ee := vG ee l_ee
 have Z_qd := vG qd l_qd
 have Z_da := vG da l_da
 have Z_qs := vG qs l_qs
 have Z_cb := vG cb l_cb
 have Z_pl := vG pl l_pl
 have Z_mi := vG mi l_mi
 have Z_X2 := vG X2 l_X2
 have Z_sm := vG sm l_sm
 have Z_ad := vG ad l_ad
 have Z_Z2 := vG Z2 l_Z2
 have Z_X3 := vG X3 l_X3
 have Z_mm := vG mm l_mm
 have Z_Z3 := vG Z3 l_Z3
 have IP := xB2 X2 Z2 l_X2 l_Z2
 have IQ := xB2 X3 Z3 l_X3 l_Z3
 have ZP := psame X2 Z2 l_X2 l_Z2
 have ZQ := psame X3 Z3 l_X3 l_Z3
 have BP := hI' (xEm l_X2 l_Z2)
 have BQ := hI' (xEm l_X3 l_Z3)
 have HL1 := hI' l_x1
 have HL2 := hI' l_x2
 have HE : Hid (stX2 x1 z1 ++ stZ2 x1 z1 = X2 ++ Z2 ∧ stX3 x1 z1 x2 z2 ++ stZ3 u x1 z1 x2 z2 = X3 ++ Z3) := hI' (by
  subst E_su E_di E_s2 E_d2 E_ee E_qd E_da E_qs E_cb E_pl E_mi E_X2 E_sm E_ad E_Z2 E_X3 E_mm E_Z3
  exact ⟨rfl,rfl⟩)
 clear E_su l_su u_su E_di l_di u_di E_s2 l_s2 u_s2 E_d2 l_d2 u_d2 E_ee l_ee u_ee E_qd l_qd u_qd E_da l_da u_da E_qs l_qs u_qs E_cb l_cb u_cb E_pl l_pl u_pl E_mi l_mi u_mi E_X2 l_X2 u_X2 E_sm l_sm u_sm E_ad l_ad u_ad E_Z2 l_Z2 u_Z2 E_X3 l_X3 u_X3 E_mm l_mm u_mm E_Z3 l_Z3 u_Z3 l_u u_u l_x1 u_x1 l_z1 u_z1 l_x2 u_x2 l_z2 u_z2
 rw [HE.out.1,HE.out.2]
 clear HE
 have H0 : Hid (Bag w [(w.heap.size + 1 + 1 + 1 + 1,214,List.replicate 10 0),(w.heap.size + 1 + 1 + 1,214,List.replicate 10 0),(w.heap.size + 1 + 1,214,x2 ++ z2),(w.heap.size + 1,214,x1 ++ z1),(w.heap.size,210,u)] (((((w.alloc (.cells (xG u) 210)).alloc (.cells (xG (x1 ++ z1)) 214)).alloc (.cells (xG (x2 ++ z2)) 214)).alloc (.cells (xG (List.replicate 10 0)) 214)).alloc (.cells (xG (List.replicate 10 0)) 214))) := hI' (by
  have h : Bag w [] w := ⟨Below.refl _ _,fun _ _ _ h => by cases h⟩
  have h2 := ((((h.new 210 u).new 214 (x1 ++ z1)).new 214 (x2 ++ z2)).new 214 (List.replicate 10 0)).new 214 (List.replicate 10 0)
  simp only [vD] at h2
  exact h2)
 obtain ⟨g_s,hgs⟩ : ∃ g,w.heap.size + 1 + 1 + 1 + 1 = g := ⟨_,rfl⟩
 obtain ⟨g_r,hgr⟩ : ∃ g,w.heap.size + 1 + 1 + 1 = g := ⟨_,rfl⟩
 obtain ⟨g_q,hgq⟩ : ∃ g,w.heap.size + 1 + 1 = g := ⟨_,rfl⟩
 obtain ⟨g_p,hgp⟩ : ∃ g,w.heap.size + 1 = g := ⟨_,rfl⟩
 obtain ⟨g_u,hgu⟩ : ∃ g,w.heap.size = g := ⟨_,rfl⟩
 have HG : Hid (w.heap.size + 1 + 1 + 1 + 1 = g_s ∧ w.heap.size + 1 + 1 + 1 = g_r ∧ w.heap.size + 1 + 1 = g_q ∧ w.heap.size + 1 = g_p ∧ w.heap.size = g_u) := hI' ⟨hgs,hgr,hgq,hgp,hgu⟩
 clear hgs hgr hgq hgp hgu
 go_enter Tryz.func145,Tryz.ntmps145
 go_upto_region 1 with fail
 rw [HG.out.1,HG.out.2.1,HG.out.2.2.1,HG.out.2.2.2.1,HG.out.2.2.2.2]
 rw [HG.out.1,HG.out.2.1,HG.out.2.2.1,HG.out.2.2.2.1,HG.out.2.2.2.2] at H0
 refine (fun (h : ∀ W3,Hid (Bag w _ W3) → Code.wp _ _ _ _ W3) => h _ H0) ?_
 clear H0
 intro W0 H0
 refine RG.zD [12,13] [10,11] (fun L α W => Hid (J2 w [(g_s,214,List.replicate 10 0),(g_r,214,List.replicate 10 0),(g_q,214,x2 ++ z2),(g_p,214,x1 ++ z1),(g_u,210,u)] 10 12 11 13 210 (List.replicate 5 0) su di L α W)) (fun L L' α α' W hl ha h => hI' (J2.congr (hl 10 (by simp)) (hl 12 (by simp)) (ha 10 (by simp)) (hl 11 (by simp)) (hl 13 (by simp)) (ha 11 (by simp)) h.out)) (by kernel_rfl) (by kernel_rfl) (by kernel_rfl) (hI' (J2.start H0.out)) ?_
 clear H0
 apply RG.xL
 ·rfl
 ·rfl
 ·intro α L w9 h0 hcl xH hw9
  repeat go_step
  with_reducible exact RG.xB hw9
 ·intro α; rfl
 apply RG.xL
 ·rfl
 ·rfl
 ·intro α L w9 h0 hcl xH hw9
  refine zF rfl _ _ rfl g_p 0 rfl (xG x1) _ (xAc (hw9.out.1.1.get (g := g_p) (t := 214) (ws := x1 ++ z1) (by simp))) Tryz.underlying210 rfl I_x1.out ?_
  repeat go_step
  with_reducible exact RG.xB hw9
 ·intro α; rfl
 apply RG.xL
 ·rfl
 ·rfl
 ·intro α L w9 h0 hcl xH hw9
  repeat go_step
  with_reducible exact RG.xB hw9
 ·intro α; rfl
 apply RG.xL
 ·rfl
 ·rfl
 ·intro α L w9 h0 hcl xH hw9
  refine zF rfl _ _ rfl g_p 5 rfl (xG z1) _ (xAb (hw9.out.1.1.get (g := g_p) (t := 214) (ws := x1 ++ z1) (by simp)) HL1.out) Tryz.underlying210 rfl I_z1.out ?_
  repeat go_step
  with_reducible exact RG.xB hw9
 ·intro α; rfl
 apply RG.xL
 ·rfl
 ·rfl
 ·intro α L w9 h0 hcl xH hw9
  repeat go_step
  refine (C_su.out _).mono ?_
  rintro e w10 ⟨rfl,yA⟩
  simp only []
  repeat go_step
  with_reducible refine RG.xB ?_
  exact hI' (hw9.out.below yA)
 ·intro α; rfl
 apply RG.xL
 ·rfl
 ·rfl
 ·intro α L w9 h0 hcl xH hw9
  repeat go_step
  with_reducible exact RG.xB hw9
 ·intro α; rfl
 apply RG.xL
 ·rfl
 ·rfl
 ·intro α L w9 h0 hcl xH hw9
  refine zF rfl _ _ rfl g_p 0 rfl (xG x1) _ (xAc (hw9.out.1.1.get (g := g_p) (t := 214) (ws := x1 ++ z1) (by simp))) Tryz.underlying210 rfl I_x1.out ?_
  repeat go_step
  with_reducible exact RG.xB hw9
 ·intro α; rfl
 apply RG.xL
 ·rfl
 ·rfl
 ·intro α L w9 h0 hcl xH hw9
  repeat go_step
  with_reducible exact RG.xB hw9
 ·intro α; rfl
 apply RG.xL
 ·rfl
 ·rfl
 ·intro α L w9 h0 hcl xH hw9
  refine zF rfl _ _ rfl g_p 5 rfl (xG z1) _ (xAb (hw9.out.1.1.get (g := g_p) (t := 214) (ws := x1 ++ z1) (by simp)) HL1.out) Tryz.underlying210 rfl I_z1.out ?_
  repeat go_step
  with_reducible exact RG.xB hw9
 ·intro α; rfl
 apply RG.xL
 ·rfl
 ·rfl
 ·intro α L w9 h0 hcl xH hw9
  repeat go_step
  refine (C_di.out _).mono ?_
  rintro e w10 ⟨rfl,yA⟩
  simp only []
  repeat go_step
  with_reducible refine RG.xB ?_
  exact hI' (hw9.out.below yA)
 ·intro α; rfl
 apply RG.vW
 ·rfl
 ·intro α L w9 b hb h0 hcl hw9
  have e5 := hcl.not 4 (i := 12) h0 (by kernel_rfl)
  have hn := hI' (hw9.out.xHc e5 (by decide) (by decide) (by decide))
  repeat go_step
  rw [← hb]
  with_reducible refine RG.xB ?_
  rw [hb]
  exact hn
 ·intro b α; rfl
 apply RG.vW
 ·rfl
 ·intro α L w9 b hb h0 hcl hw9
  have e5 := hcl.not 4 (i := 13) h0 (by kernel_rfl)
  have hn := hI' (hw9.out.newB e5 (by decide) (by decide) (by decide))
  repeat go_step
  rw [← hb]
  with_reducible refine RG.xB ?_
  rw [hb]
  exact hn
 ·intro b α; rfl
 apply RG.uZ (v := undef)
 ·rfl
 ·rfl
 ·intro α L w9 h0 hcl xH hw9
  have e4 : L 10 = true := by simpa using xH.yes 4 (i := 12) (by simp) (j := 10) (by kernel_rfl)
  obtain ⟨h1,h2,h3⟩ := hw9.out.1.2 e4
  rw [if_neg (by simp [h0])] at h3
  have hf := hI' (hw9.out.yBt e4 (by decide) (by decide))
  refine wpList_store_row rfl _ _ _ rfl (α 10) (xG su) rfl rfl _ (xG (List.replicate 5 0)) h3 I_su.out Z_su.out (xS _) ?_
  repeat go_step
  with_reducible refine RG.xB ?_
  exact hf
 ·intro α; rfl
 apply RG.uZ (v := undef)
 ·rfl
 ·rfl
 ·intro α L w9 h0 hcl xH hw9
  have e4 : L 11 = true := by simpa using xH.yes 4 (i := 13) (by simp) (j := 11) (by kernel_rfl)
  obtain ⟨h1,h2,h3⟩ := hw9.out.2.1.2 e4
  rw [if_neg (by simp [h0])] at h3
  have hf := hI' (hw9.out.yBs e4 (by decide) (by decide))
  refine wpList_store_row rfl _ _ _ rfl (α 11) (xG di) rfl rfl _ (xG (List.replicate 5 0)) h3 I_di.out Z_di.out (xS _) ?_
  repeat go_step
  with_reducible refine RG.xB ?_
  exact hf
 ·intro α; rfl
 refine RG.wT (fun α w4 hw4 => ?_)
 have H0 := hI' hw4.out.done
 clear hw4
 simp only [Nat.zero_add,Nat.reduceAdd]
 generalize α 10 = xPc at H0 ⊢
 generalize α 11 = xPe at H0 ⊢
 go_upto_region 2 with fail
 refine RG.zD [8,9] [6,7] (fun L α W => Hid (J2 w [(xPe,210,di),(xPc,210,su),(g_s,214,List.replicate 10 0),(g_r,214,List.replicate 10 0),(g_q,214,x2 ++ z2),(g_p,214,x1 ++ z1),(g_u,210,u)] 6 8 7 9 210 (List.replicate 5 0) s2 d2 L α W)) (fun L L' α α' W hl ha h => hI' (J2.congr (hl 6 (by simp)) (hl 8 (by simp)) (ha 6 (by simp)) (hl 7 (by simp)) (hl 9 (by simp)) (ha 7 (by simp)) h.out)) (by kernel_rfl) (by kernel_rfl) (by kernel_rfl) (hI' (J2.start H0.out)) ?_
 clear H0
 apply RG.xL
 ·rfl
 ·rfl
 ·intro α L w9 h0 hcl xH hw9
  refine wpList_load_row rfl _ _ rfl xPc rfl _ (xG su) (0,0) _ (hw9.out.1.1.get (g := xPc) (t := 210) (ws := su) (by simp)) Tryz.underlying210 rfl I_su.out ?_
  repeat go_step
  with_reducible exact RG.xB hw9
 ·intro α; rfl
 apply RG.xL
 ·rfl
 ·rfl
 ·intro α L w9 h0 hcl xH hw9
  refine wpList_load_row rfl _ _ rfl xPc rfl _ (xG su) (0,0) _ (hw9.out.1.1.get (g := xPc) (t := 210) (ws := su) (by simp)) Tryz.underlying210 rfl I_su.out ?_
  repeat go_step
  with_reducible exact RG.xB hw9
 ·intro α; rfl
 apply RG.xL
 ·rfl
 ·rfl
 ·intro α L w9 h0 hcl xH hw9
  repeat go_step
  refine (C_s2.out _).mono ?_
  rintro e w10 ⟨rfl,yA⟩
  simp only []
  repeat go_step
  with_reducible refine RG.xB ?_
  exact hI' (hw9.out.below yA)
 ·intro α; rfl
 apply RG.xL
 ·rfl
 ·rfl
 ·intro α L w9 h0 hcl xH hw9
  refine wpList_load_row rfl _ _ rfl xPe rfl _ (xG di) (0,0) _ (hw9.out.1.1.get (g := xPe) (t := 210) (ws := di) (by simp)) Tryz.underlying210 rfl I_di.out ?_
  repeat go_step
  with_reducible exact RG.xB hw9
 ·intro α; rfl
 apply RG.xL
 ·rfl
 ·rfl
 ·intro α L w9 h0 hcl xH hw9
  refine wpList_load_row rfl _ _ rfl xPe rfl _ (xG di) (0,0) _ (hw9.out.1.1.get (g := xPe) (t := 210) (ws := di) (by simp)) Tryz.underlying210 rfl I_di.out ?_
  repeat go_step
  with_reducible exact RG.xB hw9
 ·intro α; rfl
 apply RG.xL
 ·rfl
 ·rfl
 ·intro α L w9 h0 hcl xH hw9
  repeat go_step
  refine (C_d2.out _).mono ?_
  rintro e w10 ⟨rfl,yA⟩
  simp only []
  repeat go_step
  with_reducible refine RG.xB ?_
  exact hI' (hw9.out.below yA)
 ·intro α; rfl
 apply RG.vW
 ·rfl
 ·intro α L w9 b hb h0 hcl hw9
  have e5 := hcl.not 4 (i := 8) h0 (by kernel_rfl)
  have hn := hI' (hw9.out.xHc e5 (by decide) (by decide) (by decide))
  repeat go_step
  rw [← hb]
  with_reducible refine RG.xB ?_
  rw [hb]
  exact hn
 ·intro b α; rfl
 apply RG.vW
 ·rfl
 ·intro α L w9 b hb h0 hcl hw9
  have e5 := hcl.not 4 (i := 9) h0 (by kernel_rfl)
  have hn := hI' (hw9.out.newB e5 (by decide) (by decide) (by decide))
  repeat go_step
  rw [← hb]
  with_reducible refine RG.xB ?_
  rw [hb]
  exact hn
 ·intro b α; rfl
 apply RG.uZ (v := undef)
 ·rfl
 ·rfl
 ·intro α L w9 h0 hcl xH hw9
  have e4 : L 6 = true := by simpa using xH.yes 4 (i := 8) (by simp) (j := 6) (by kernel_rfl)
  obtain ⟨h1,h2,h3⟩ := hw9.out.1.2 e4
  rw [if_neg (by simp [h0])] at h3
  have hf := hI' (hw9.out.yBt e4 (by decide) (by decide))
  refine wpList_store_row rfl _ _ _ rfl (α 6) (xG s2) rfl rfl _ (xG (List.replicate 5 0)) h3 I_s2.out Z_s2.out (xS _) ?_
  repeat go_step
  with_reducible refine RG.xB ?_
  exact hf
 ·intro α; rfl
 apply RG.uZ (v := undef)
 ·rfl
 ·rfl
 ·intro α L w9 h0 hcl xH hw9
  have e4 : L 7 = true := by simpa using xH.yes 4 (i := 9) (by simp) (j := 7) (by kernel_rfl)
  obtain ⟨h1,h2,h3⟩ := hw9.out.2.1.2 e4
  rw [if_neg (by simp [h0])] at h3
  have hf := hI' (hw9.out.yBs e4 (by decide) (by decide))
  refine wpList_store_row rfl _ _ _ rfl (α 7) (xG d2) rfl rfl _ (xG (List.replicate 5 0)) h3 I_d2.out Z_d2.out (xS _) ?_
  repeat go_step
  with_reducible refine RG.xB ?_
  exact hf
 ·intro α; rfl
 refine RG.wT (fun α w4 hw4 => ?_)
 have H0 := hI' hw4.out.done
 clear hw4
 simp only [Nat.zero_add,Nat.reduceAdd]
 generalize α 6 = xRi at H0 ⊢
 generalize α 7 = xVb at H0 ⊢
 go_upto_region 3 with fail
 refine wp_region_lit ?_
 refine wpList_load_row rfl _ _ rfl xRi rfl _ (xG s2) (0,0) _ (H0.out.get (g := xRi) (t := 210) (ws := s2) (by simp)) Tryz.underlying210 rfl I_s2.out ?_
 refine wpList_load_row rfl _ _ rfl xVb rfl _ (xG d2) (0,0) _ (H0.out.get (g := xVb) (t := 210) (ws := d2) (by simp)) Tryz.underlying210 rfl I_d2.out ?_
 repeat go_step
 refine (C_ee.out _).mono ?_
 rintro e w7 ⟨rfl,hb7⟩
 have H7 := H0.out.below hb7
 have H9 : Bag w ((w7.heap.size,210,ee) :: [(xVb,210,d2),(xRi,210,s2),(xPe,210,di),(xPc,210,su),(g_s,214,List.replicate 10 0),(g_r,214,List.replicate 10 0),(g_q,214,x2 ++ z2),(g_p,214,x1 ++ z1),(g_u,210,u)]) ((w7.alloc (.cells (xG (List.replicate 5 0)) 210)).setRow w7.heap.size (xG ee)) := ((H7.alloc _).far H7.1.size (fun g t ws hm => Nat.ne_of_lt (H7.lt hm)) _).cons H7.1.size (setRow_heap _ _ _ _ _ _ (xM _ _))
 simp only []
 rename ∀ (a : Act) (w : World),wpList _ _ _ _ a w → _ => hk
 refine hk _ _ ?_
 clear hk
 iterate 3 go_step
 refine wpList_store_row rfl _ _ _ rfl w7.heap.size (xG ee) rfl rfl _ (xG (List.replicate 5 0)) (xM _ _) I_ee.out Z_ee.out (xS _) ?_
 refine (fun (h : ∀ W3,Hid (Bag w ((w7.heap.size,210,ee) :: [(xVb,210,d2),(xRi,210,s2),(xPe,210,di),(xPc,210,su),(g_s,214,List.replicate 10 0),(g_r,214,List.replicate 10 0),(g_q,214,x2 ++ z2),(g_p,214,x1 ++ z1),(g_u,210,u)]) W3) → wpList _ _ _ _ _ W3) => h _ (hI' H9)) ?_
 clear H7 H9 H0 hb7
 generalize w7.heap.size = xYd
 intro W3 H0
 go_upto_region 4 with fail
 refine RG.zD [8] [7] (fun L α W => Hid (J1 w [(xYd,210,ee),(xVb,210,d2),(xRi,210,s2),(xPe,210,di),(xPc,210,su),(g_s,214,List.replicate 10 0),(g_r,214,List.replicate 10 0),(g_q,214,x2 ++ z2),(g_p,214,x1 ++ z1),(g_u,210,u)] 7 8 210 (List.replicate 5 0) (da) L α W)) (fun L L' α α' W hl ha h => hI' (J1.congr (hl 7 (by simp)) (hl 8 (by simp)) (ha 7 (by simp)) h.out)) (by kernel_rfl) (by kernel_rfl) (by kernel_rfl) (hI' (J1.start H0.out)) ?_
 clear H0
 apply RG.xL
 ·rfl
 ·rfl
 ·intro α L w9 h0 hcl xH hw9
  repeat go_step
  with_reducible exact RG.xB hw9
 ·intro α; rfl
 apply RG.xL
 ·rfl
 ·rfl
 ·intro α L w9 h0 hcl xH hw9
  refine zF rfl _ _ rfl g_q 0 rfl (xG x2) _ (xAc (hw9.out.1.get (g := g_q) (t := 214) (ws := x2 ++ z2) (by simp))) Tryz.underlying210 rfl I_x2.out ?_
  repeat go_step
  with_reducible exact RG.xB hw9
 ·intro α; rfl
 apply RG.xL
 ·rfl
 ·rfl
 ·intro α L w9 h0 hcl xH hw9
  repeat go_step
  with_reducible exact RG.xB hw9
 ·intro α; rfl
 apply RG.xL
 ·rfl
 ·rfl
 ·intro α L w9 h0 hcl xH hw9
  refine zF rfl _ _ rfl g_q 5 rfl (xG z2) _ (xAb (hw9.out.1.get (g := g_q) (t := 214) (ws := x2 ++ z2) (by simp)) HL2.out) Tryz.underlying210 rfl I_z2.out ?_
  repeat go_step
  with_reducible exact RG.xB hw9
 ·intro α; rfl
 apply RG.xL
 ·rfl
 ·rfl
 ·intro α L w9 h0 hcl xH hw9
  repeat go_step
  refine (C_qd.out _).mono ?_
  rintro e w10 ⟨rfl,yA⟩
  simp only []
  repeat go_step
  with_reducible refine RG.xB ?_
  exact hI' (hw9.out.below yA)
 ·intro α; rfl
 apply RG.xL
 ·rfl
 ·rfl
 ·intro α L w9 h0 hcl xH hw9
  refine wpList_load_row rfl _ _ rfl xPc rfl _ (xG su) (0,0) _ (hw9.out.1.get (g := xPc) (t := 210) (ws := su) (by simp)) Tryz.underlying210 rfl I_su.out ?_
  repeat go_step
  with_reducible exact RG.xB hw9
 ·intro α; rfl
 apply RG.xL
 ·rfl
 ·rfl
 ·intro α L w9 h0 hcl xH hw9
  repeat go_step
  refine (C_da.out _).mono ?_
  rintro e w10 ⟨rfl,yA⟩
  simp only []
  repeat go_step
  with_reducible refine RG.xB ?_
  exact hI' (hw9.out.below yA)
 ·intro α; rfl
 apply RG.vW
 ·rfl
 ·intro α L w9 b hb h0 hcl hw9
  have e5 := hcl.not 3 (i := 8) h0 (by kernel_rfl)
  have hn := hI' (hw9.out.new e5 (by decide))
  repeat go_step
  rw [← hb]
  with_reducible refine RG.xB ?_
  rw [hb]
  exact hn
 ·intro b α; rfl
 apply RG.uZ (v := undef)
 ·rfl
 ·rfl
 ·intro α L w9 h0 hcl xH hw9
  have e4 : L 7 = true := by simpa using xH.yes 3 (i := 8) (by simp) (j := 7) (by kernel_rfl)
  obtain ⟨h1,h2,h3⟩ := hw9.out.2 e4
  rw [if_neg (by simp [h0])] at h3
  have hf := hI' (hw9.out.fill e4)
  refine wpList_store_row rfl _ _ _ rfl (α 7) (xG (da)) rfl rfl _ (xG (List.replicate 5 0)) h3 I_da.out Z_da.out (xS _) ?_
  repeat go_step
  with_reducible refine RG.xB ?_
  exact hf
 ·intro α; rfl
 refine RG.wT (fun α w4 hw4 => ?_)
 have H0 := hI' hw4.out.done
 clear hw4
 simp only [Nat.zero_add,Nat.reduceAdd]
 generalize α 7 = xZp at H0 ⊢
 go_upto_region 5 with fail
 refine RG.zD [8] [7] (fun L α W => Hid (J1 w [(xZp,210,da),(xYd,210,ee),(xVb,210,d2),(xRi,210,s2),(xPe,210,di),(xPc,210,su),(g_s,214,List.replicate 10 0),(g_r,214,List.replicate 10 0),(g_q,214,x2 ++ z2),(g_p,214,x1 ++ z1),(g_u,210,u)] 7 8 210 (List.replicate 5 0) (cb) L α W)) (fun L L' α α' W hl ha h => hI' (J1.congr (hl 7 (by simp)) (hl 8 (by simp)) (ha 7 (by simp)) h.out)) (by kernel_rfl) (by kernel_rfl) (by kernel_rfl) (hI' (J1.start H0.out)) ?_
 clear H0
 apply RG.xL
 ·rfl
 ·rfl
 ·intro α L w9 h0 hcl xH hw9
  repeat go_step
  with_reducible exact RG.xB hw9
 ·intro α; rfl
 apply RG.xL
 ·rfl
 ·rfl
 ·intro α L w9 h0 hcl xH hw9
  refine zF rfl _ _ rfl g_q 0 rfl (xG x2) _ (xAc (hw9.out.1.get (g := g_q) (t := 214) (ws := x2 ++ z2) (by simp))) Tryz.underlying210 rfl I_x2.out ?_
  repeat go_step
  with_reducible exact RG.xB hw9
 ·intro α; rfl
 apply RG.xL
 ·rfl
 ·rfl
 ·intro α L w9 h0 hcl xH hw9
  repeat go_step
  with_reducible exact RG.xB hw9
 ·intro α; rfl
 apply RG.xL
 ·rfl
 ·rfl
 ·intro α L w9 h0 hcl xH hw9
  refine zF rfl _ _ rfl g_q 5 rfl (xG z2) _ (xAb (hw9.out.1.get (g := g_q) (t := 214) (ws := x2 ++ z2) (by simp)) HL2.out) Tryz.underlying210 rfl I_z2.out ?_
  repeat go_step
  with_reducible exact RG.xB hw9
 ·intro α; rfl
 apply RG.xL
 ·rfl
 ·rfl
 ·intro α L w9 h0 hcl xH hw9
  repeat go_step
  refine (C_qs.out _).mono ?_
  rintro e w10 ⟨rfl,yA⟩
  simp only []
  repeat go_step
  with_reducible refine RG.xB ?_
  exact hI' (hw9.out.below yA)
 ·intro α; rfl
 apply RG.xL
 ·rfl
 ·rfl
 ·intro α L w9 h0 hcl xH hw9
  refine wpList_load_row rfl _ _ rfl xPe rfl _ (xG di) (0,0) _ (hw9.out.1.get (g := xPe) (t := 210) (ws := di) (by simp)) Tryz.underlying210 rfl I_di.out ?_
  repeat go_step
  with_reducible exact RG.xB hw9
 ·intro α; rfl
 apply RG.xL
 ·rfl
 ·rfl
 ·intro α L w9 h0 hcl xH hw9
  repeat go_step
  refine (C_cb.out _).mono ?_
  rintro e w10 ⟨rfl,yA⟩
  simp only []
  repeat go_step
  with_reducible refine RG.xB ?_
  exact hI' (hw9.out.below yA)
 ·intro α; rfl
 apply RG.vW
 ·rfl
 ·intro α L w9 b hb h0 hcl hw9
  have e5 := hcl.not 3 (i := 8) h0 (by kernel_rfl)
  have hn := hI' (hw9.out.new e5 (by decide))
  repeat go_step
  rw [← hb]
  with_reducible refine RG.xB ?_
  rw [hb]
  exact hn
 ·intro b α; rfl
 apply RG.uZ (v := undef)
 ·rfl
 ·rfl
 ·intro α L w9 h0 hcl xH hw9
  have e4 : L 7 = true := by simpa using xH.yes 3 (i := 8) (by simp) (j := 7) (by kernel_rfl)
  obtain ⟨h1,h2,h3⟩ := hw9.out.2 e4
  rw [if_neg (by simp [h0])] at h3
  have hf := hI' (hw9.out.fill e4)
  refine wpList_store_row rfl _ _ _ rfl (α 7) (xG (cb)) rfl rfl _ (xG (List.replicate 5 0)) h3 I_cb.out Z_cb.out (xS _) ?_
  repeat go_step
  with_reducible refine RG.xB ?_
  exact hf
 ·intro α; rfl
 refine RG.wT (fun α w4 hw4 => ?_)
 have H0 := hI' hw4.out.done
 clear hw4
 simp only [Nat.zero_add,Nat.reduceAdd]
 generalize α 7 = yBi at H0 ⊢
 go_upto_region 6 with fail
 refine RG.zD [8,9] [6,7] (fun L α W => Hid (J2 w [(yBi,210,cb),(xZp,210,da),(xYd,210,ee),(xVb,210,d2),(xRi,210,s2),(xPe,210,di),(xPc,210,su),(g_s,214,List.replicate 10 0),(g_r,214,List.replicate 10 0),(g_q,214,x2 ++ z2),(g_p,214,x1 ++ z1),(g_u,210,u)] 6 8 7 9 210 (List.replicate 5 0) pl mi L α W)) (fun L L' α α' W hl ha h => hI' (J2.congr (hl 6 (by simp)) (hl 8 (by simp)) (ha 6 (by simp)) (hl 7 (by simp)) (hl 9 (by simp)) (ha 7 (by simp)) h.out)) (by kernel_rfl) (by kernel_rfl) (by kernel_rfl) (hI' (J2.start H0.out)) ?_
 clear H0
 apply RG.xL
 ·rfl
 ·rfl
 ·intro α L w9 h0 hcl xH hw9
  refine wpList_load_row rfl _ _ rfl xZp rfl _ (xG da) (0,0) _ (hw9.out.1.1.get (g := xZp) (t := 210) (ws := da) (by simp)) Tryz.underlying210 rfl I_da.out ?_
  repeat go_step
  with_reducible exact RG.xB hw9
 ·intro α; rfl
 apply RG.xL
 ·rfl
 ·rfl
 ·intro α L w9 h0 hcl xH hw9
  refine wpList_load_row rfl _ _ rfl yBi rfl _ (xG cb) (0,0) _ (hw9.out.1.1.get (g := yBi) (t := 210) (ws := cb) (by simp)) Tryz.underlying210 rfl I_cb.out ?_
  repeat go_step
  with_reducible exact RG.xB hw9
 ·intro α; rfl
 apply RG.xL
 ·rfl
 ·rfl
 ·intro α L w9 h0 hcl xH hw9
  repeat go_step
  refine (C_pl.out _).mono ?_
  rintro e w10 ⟨rfl,yA⟩
  simp only []
  repeat go_step
  with_reducible refine RG.xB ?_
  exact hI' (hw9.out.below yA)
 ·intro α; rfl
 apply RG.xL
 ·rfl
 ·rfl
 ·intro α L w9 h0 hcl xH hw9
  refine wpList_load_row rfl _ _ rfl xZp rfl _ (xG da) (0,0) _ (hw9.out.1.1.get (g := xZp) (t := 210) (ws := da) (by simp)) Tryz.underlying210 rfl I_da.out ?_
  repeat go_step
  with_reducible exact RG.xB hw9
 ·intro α; rfl
 apply RG.xL
 ·rfl
 ·rfl
 ·intro α L w9 h0 hcl xH hw9
  refine wpList_load_row rfl _ _ rfl yBi rfl _ (xG cb) (0,0) _ (hw9.out.1.1.get (g := yBi) (t := 210) (ws := cb) (by simp)) Tryz.underlying210 rfl I_cb.out ?_
  repeat go_step
  with_reducible exact RG.xB hw9
 ·intro α; rfl
 apply RG.xL
 ·rfl
 ·rfl
 ·intro α L w9 h0 hcl xH hw9
  repeat go_step
  refine (C_mi.out _).mono ?_
  rintro e w10 ⟨rfl,yA⟩
  simp only []
  repeat go_step
  with_reducible refine RG.xB ?_
  exact hI' (hw9.out.below yA)
 ·intro α; rfl
 apply RG.vW
 ·rfl
 ·intro α L w9 b hb h0 hcl hw9
  have e5 := hcl.not 4 (i := 8) h0 (by kernel_rfl)
  have hn := hI' (hw9.out.xHc e5 (by decide) (by decide) (by decide))
  repeat go_step
  rw [← hb]
  with_reducible refine RG.xB ?_
  rw [hb]
  exact hn
 ·intro b α; rfl
 apply RG.vW
 ·rfl
 ·intro α L w9 b hb h0 hcl hw9
  have e5 := hcl.not 4 (i := 9) h0 (by kernel_rfl)
  have hn := hI' (hw9.out.newB e5 (by decide) (by decide) (by decide))
  repeat go_step
  rw [← hb]
  with_reducible refine RG.xB ?_
  rw [hb]
  exact hn
 ·intro b α; rfl
 apply RG.uZ (v := undef)
 ·rfl
 ·rfl
 ·intro α L w9 h0 hcl xH hw9
  have e4 : L 6 = true := by simpa using xH.yes 4 (i := 8) (by simp) (j := 6) (by kernel_rfl)
  obtain ⟨h1,h2,h3⟩ := hw9.out.1.2 e4
  rw [if_neg (by simp [h0])] at h3
  have hf := hI' (hw9.out.yBt e4 (by decide) (by decide))
  refine wpList_store_row rfl _ _ _ rfl (α 6) (xG pl) rfl rfl _ (xG (List.replicate 5 0)) h3 I_pl.out Z_pl.out (xS _) ?_
  repeat go_step
  with_reducible refine RG.xB ?_
  exact hf
 ·intro α; rfl
 apply RG.uZ (v := undef)
 ·rfl
 ·rfl
 ·intro α L w9 h0 hcl xH hw9
  have e4 : L 7 = true := by simpa using xH.yes 4 (i := 9) (by simp) (j := 7) (by kernel_rfl)
  obtain ⟨h1,h2,h3⟩ := hw9.out.2.1.2 e4
  rw [if_neg (by simp [h0])] at h3
  have hf := hI' (hw9.out.yBs e4 (by decide) (by decide))
  refine wpList_store_row rfl _ _ _ rfl (α 7) (xG mi) rfl rfl _ (xG (List.replicate 5 0)) h3 I_mi.out Z_mi.out (xS _) ?_
  repeat go_step
  with_reducible refine RG.xB ?_
  exact hf
 ·intro α; rfl
 refine RG.wT (fun α w4 hw4 => ?_)
 have H0 := hI' hw4.out.done
 clear hw4
 simp only [Nat.zero_add,Nat.reduceAdd]
 generalize α 6 = g_pl at H0 ⊢
 generalize α 7 = g_mi at H0 ⊢
 go_upto_region 7 with fail
 refine RG.zD [11] [10] (fun L α W => Hid (J1 w [(g_mi,210,mi),(g_pl,210,pl),(yBi,210,cb),(xZp,210,da),(xYd,210,ee),(xVb,210,d2),(xRi,210,s2),(xPe,210,di),(xPc,210,su),(g_s,214,List.replicate 10 0),(g_r,214,List.replicate 10 0),(g_q,214,x2 ++ z2),(g_p,214,x1 ++ z1),(g_u,210,u)] 10 11 214 (List.replicate 10 0) (X2 ++ Z2) L α W)) (fun L L' α α' W hl ha h => hI' (J1.congr (hl 10 (by simp)) (hl 11 (by simp)) (ha 10 (by simp)) h.out)) (by kernel_rfl) (by kernel_rfl) (by kernel_rfl) (hI' (J1.start H0.out)) ?_
 clear H0
 apply RG.xL
 ·rfl
 ·rfl
 ·intro α L w9 h0 hcl xH hw9
  refine wpList_load_row rfl _ _ rfl xRi rfl _ (xG s2) (0,0) _ (hw9.out.1.get (g := xRi) (t := 210) (ws := s2) (by simp)) Tryz.underlying210 rfl I_s2.out ?_
  repeat go_step
  with_reducible exact RG.xB hw9
 ·intro α; rfl
 apply RG.xL
 ·rfl
 ·rfl
 ·intro α L w9 h0 hcl xH hw9
  refine wpList_load_row rfl _ _ rfl xVb rfl _ (xG d2) (0,0) _ (hw9.out.1.get (g := xVb) (t := 210) (ws := d2) (by simp)) Tryz.underlying210 rfl I_d2.out ?_
  repeat go_step
  with_reducible exact RG.xB hw9
 ·intro α; rfl
 apply RG.xL
 ·rfl
 ·rfl
 ·intro α L w9 h0 hcl xH hw9
  repeat go_step
  refine (C_X2.out _).mono ?_
  rintro e w10 ⟨rfl,yA⟩
  simp only []
  repeat go_step
  with_reducible refine RG.xB ?_
  exact hI' (hw9.out.below yA)
 ·intro α; rfl
 apply RG.xL
 ·rfl
 ·rfl
 ·intro α L w9 h0 hcl xH hw9
  refine wpList_load_row rfl _ _ rfl xYd rfl _ (xG ee) (0,0) _ (hw9.out.1.get (g := xYd) (t := 210) (ws := ee) (by simp)) Tryz.underlying210 rfl I_ee.out ?_
  repeat go_step
  with_reducible exact RG.xB hw9
 ·intro α; rfl
 apply RG.xL
 ·rfl
 ·rfl
 ·intro α L w9 h0 hcl xH hw9
  refine wpList_load_row rfl _ _ rfl xRi rfl _ (xG s2) (0,0) _ (hw9.out.1.get (g := xRi) (t := 210) (ws := s2) (by simp)) Tryz.underlying210 rfl I_s2.out ?_
  repeat go_step
  with_reducible exact RG.xB hw9
 ·intro α; rfl
 apply RG.xL
 ·rfl
 ·rfl
 ·intro α L w9 h0 hcl xH hw9
  refine wpList_load_row rfl _ _ rfl xYd rfl _ (xG ee) (0,0) _ (hw9.out.1.get (g := xYd) (t := 210) (ws := ee) (by simp)) Tryz.underlying210 rfl I_ee.out ?_
  repeat go_step
  with_reducible exact RG.xB hw9
 ·intro α; rfl
 apply RG.xL
 ·rfl
 ·rfl
 ·intro α L w9 h0 hcl xH hw9
  repeat go_step
  refine (C_sm.out _).mono ?_
  rintro e w10 ⟨rfl,yA⟩
  simp only []
  repeat go_step
  with_reducible refine RG.xB ?_
  exact hI' (hw9.out.below yA)
 ·intro α; rfl
 apply RG.xL
 ·rfl
 ·rfl
 ·intro α L w9 h0 hcl xH hw9
  repeat go_step
  refine (C_ad.out _).mono ?_
  rintro e w10 ⟨rfl,yA⟩
  simp only []
  repeat go_step
  with_reducible refine RG.xB ?_
  exact hI' (hw9.out.below yA)
 ·intro α; rfl
 apply RG.xL
 ·rfl
 ·rfl
 ·intro α L w9 h0 hcl xH hw9
  repeat go_step
  refine (C_Z2.out _).mono ?_
  rintro e w10 ⟨rfl,yA⟩
  simp only []
  repeat go_step
  with_reducible refine RG.xB ?_
  exact hI' (hw9.out.below yA)
 ·intro α; rfl
 apply RG.xL
 ·rfl
 ·rfl
 ·intro α L w9 h0 hcl xH hw9
  refine wpList_buildTo rfl _ _ rfl _ rfl (xG (X2 ++ Z2)) (by rw [List.map_toArray]; exact BP.out) ?_
  repeat go_step
  with_reducible exact RG.xB hw9
 ·intro α; rfl
 apply RG.vW
 ·rfl
 ·intro α L w9 b hb h0 hcl hw9
  have e5 := hcl.not 3 (i := 11) h0 (by kernel_rfl)
  have hn := hI' (hw9.out.new e5 (by decide))
  repeat go_step
  rw [← hb]
  with_reducible refine RG.xB ?_
  rw [hb]
  exact hn
 ·intro b α; rfl
 apply RG.uZ (v := undef)
 ·rfl
 ·rfl
 ·intro α L w9 h0 hcl xH hw9
  have e4 : L 10 = true := by simpa using xH.yes 3 (i := 11) (by simp) (j := 10) (by kernel_rfl)
  obtain ⟨h1,h2,h3⟩ := hw9.out.2 e4
  rw [if_neg (by simp [h0])] at h3
  have hf := hI' (hw9.out.fill e4)
  refine wpList_store_row rfl _ _ _ rfl (α 10) (xG (X2 ++ Z2)) rfl rfl _ (xG (List.replicate 10 0)) h3 IP.out ZP.out (xS _) ?_
  repeat go_step
  with_reducible refine RG.xB ?_
  exact hf
 ·intro α; rfl
 refine RG.wT (fun α w4 hw4 => ?_)
 have yC9 := hI' (And.intro ((hw4.out.2 rfl).1 g_r 214 (List.replicate 10 0) (by simp)) ((hw4.out.2 rfl).1 g_s 214 (List.replicate 10 0) (by simp)))
 have H0 := hI' hw4.out.done
 clear hw4
 simp only [Nat.zero_add,Nat.reduceAdd]
 generalize α 10 = g_a at yC9 H0 ⊢
 go_upto_region 8 with fail
 refine RG.zD [10] [9] (fun L α W => Hid (J1 w [(g_a,214,X2 ++ Z2),(g_mi,210,mi),(g_pl,210,pl),(yBi,210,cb),(xZp,210,da),(xYd,210,ee),(xVb,210,d2),(xRi,210,s2),(xPe,210,di),(xPc,210,su),(g_s,214,List.replicate 10 0),(g_r,214,List.replicate 10 0),(g_q,214,x2 ++ z2),(g_p,214,x1 ++ z1),(g_u,210,u)] 9 10 214 (List.replicate 10 0) (X3 ++ Z3) L α W)) (fun L L' α α' W hl ha h => hI' (J1.congr (hl 9 (by simp)) (hl 10 (by simp)) (ha 9 (by simp)) h.out)) (by kernel_rfl) (by kernel_rfl) (by kernel_rfl) (hI' (J1.start H0.out)) ?_
 clear H0
 apply RG.xL
 ·rfl
 ·rfl
 ·intro α L w9 h0 hcl xH hw9
  refine wpList_load_row rfl _ _ rfl g_pl rfl _ (xG pl) (0,0) _ (hw9.out.1.get (g := g_pl) (t := 210) (ws := pl) (by simp)) Tryz.underlying210 rfl I_pl.out ?_
  repeat go_step
  with_reducible exact RG.xB hw9
 ·intro α; rfl
 apply RG.xL
 ·rfl
 ·rfl
 ·intro α L w9 h0 hcl xH hw9
  refine wpList_load_row rfl _ _ rfl g_pl rfl _ (xG pl) (0,0) _ (hw9.out.1.get (g := g_pl) (t := 210) (ws := pl) (by simp)) Tryz.underlying210 rfl I_pl.out ?_
  repeat go_step
  with_reducible exact RG.xB hw9
 ·intro α; rfl
 apply RG.xL
 ·rfl
 ·rfl
 ·intro α L w9 h0 hcl xH hw9
  repeat go_step
  refine (C_X3.out _).mono ?_
  rintro e w10 ⟨rfl,yA⟩
  simp only []
  repeat go_step
  with_reducible refine RG.xB ?_
  exact hI' (hw9.out.below yA)
 ·intro α; rfl
 apply RG.xL
 ·rfl
 ·rfl
 ·intro α L w9 h0 hcl xH hw9
  refine wpList_load_row rfl _ _ rfl g_u rfl _ (xG u) (0,0) _ (hw9.out.1.get (g := g_u) (t := 210) (ws := u) (by simp)) Tryz.underlying210 rfl I_u.out ?_
  repeat go_step
  with_reducible exact RG.xB hw9
 ·intro α; rfl
 apply RG.xL
 ·rfl
 ·rfl
 ·intro α L w9 h0 hcl xH hw9
  refine wpList_load_row rfl _ _ rfl g_mi rfl _ (xG mi) (0,0) _ (hw9.out.1.get (g := g_mi) (t := 210) (ws := mi) (by simp)) Tryz.underlying210 rfl I_mi.out ?_
  repeat go_step
  with_reducible exact RG.xB hw9
 ·intro α; rfl
 apply RG.xL
 ·rfl
 ·rfl
 ·intro α L w9 h0 hcl xH hw9
  refine wpList_load_row rfl _ _ rfl g_mi rfl _ (xG mi) (0,0) _ (hw9.out.1.get (g := g_mi) (t := 210) (ws := mi) (by simp)) Tryz.underlying210 rfl I_mi.out ?_
  repeat go_step
  with_reducible exact RG.xB hw9
 ·intro α; rfl
 apply RG.xL
 ·rfl
 ·rfl
 ·intro α L w9 h0 hcl xH hw9
  repeat go_step
  refine (C_mm.out _).mono ?_
  rintro e w10 ⟨rfl,yA⟩
  simp only []
  repeat go_step
  with_reducible refine RG.xB ?_
  exact hI' (hw9.out.below yA)
 ·intro α; rfl
 apply RG.xL
 ·rfl
 ·rfl
 ·intro α L w9 h0 hcl xH hw9
  repeat go_step
  refine (C_Z3.out _).mono ?_
  rintro e w10 ⟨rfl,yA⟩
  simp only []
  repeat go_step
  with_reducible refine RG.xB ?_
  exact hI' (hw9.out.below yA)
 ·intro α; rfl
 apply RG.xL
 ·rfl
 ·rfl
 ·intro α L w9 h0 hcl xH hw9
  refine wpList_buildTo rfl _ _ rfl _ rfl (xG (X3 ++ Z3)) (by rw [List.map_toArray]; exact BQ.out) ?_
  repeat go_step
  with_reducible exact RG.xB hw9
 ·intro α; rfl
 apply RG.vW
 ·rfl
 ·intro α L w9 b hb h0 hcl hw9
  have e5 := hcl.not 3 (i := 10) h0 (by kernel_rfl)
  have hn := hI' (hw9.out.new e5 (by decide))
  repeat go_step
  rw [← hb]
  with_reducible refine RG.xB ?_
  rw [hb]
  exact hn
 ·intro b α; rfl
 apply RG.uZ (v := undef)
 ·rfl
 ·rfl
 ·intro α L w9 h0 hcl xH hw9
  have e4 : L 9 = true := by simpa using xH.yes 3 (i := 10) (by simp) (j := 9) (by kernel_rfl)
  obtain ⟨h1,h2,h3⟩ := hw9.out.2 e4
  rw [if_neg (by simp [h0])] at h3
  have hf := hI' (hw9.out.fill e4)
  refine wpList_store_row rfl _ _ _ rfl (α 9) (xG (X3 ++ Z3)) rfl rfl _ (xG (List.replicate 10 0)) h3 IQ.out ZQ.out (xS _) ?_
  repeat go_step
  with_reducible refine RG.xB ?_
  exact hf
 ·intro α; rfl
 refine RG.wT (fun α w4 hw4 => ?_)
 have yC8 := hI' (And.intro ((hw4.out.2 rfl).1 g_r 214 (List.replicate 10 0) (by simp)) ((hw4.out.2 rfl).1 g_s 214 (List.replicate 10 0) (by simp)))
 have H0 := hI' hw4.out.done
 clear hw4
 simp only [Nat.zero_add,Nat.reduceAdd]
 generalize α 9 = g_b at yC8 H0 ⊢
 have H6 : Hid (FoG 214 w g_a g_b g_r g_s (X2 ++ Z2) (X3 ++ Z3) (List.replicate 10 0) (List.replicate 10 0) w4) := hI' (by
  have h1 := HG.out.1
  have h2 := HG.out.2.1
  have hb := H0.out
  exact ⟨hb.get (g := g_a) (t := 214) (ws := X2 ++ Z2) (by simp),hb.get (g := g_b) (t := 214) (ws := X3 ++ Z3) (by simp),hb.get (g := g_r) (t := 214) (ws := List.replicate 10 0) (by simp),hb.get (g := g_s) (t := 214) (ws := List.replicate 10 0) (by simp),hb.1,Ne.symm yC9.out.1,Ne.symm yC8.out.1,by omega,Ne.symm yC9.out.2,Ne.symm yC8.out.2,by omega,by omega⟩)
 clear H0
 go_upto_region 9 with fail
 refine RG.yN 4 (fun L W => Hid (FoG 214 w g_a g_b g_r g_s (X2 ++ Z2) (X3 ++ Z3) (if L 2 then X2 ++ Z2 else List.replicate 10 0) (if L 3 then X3 ++ Z3 else List.replicate 10 0) W)) (fun L L' W h hI => by rw [← h 2 (by decide),← h 3 (by decide)]; exact hI) (by kernel_rfl) (by kernel_rfl) rfl (hI' H6.out.drew) ?_
 clear H6
 apply RG.xJ
 ·rfl
 ·rfl
 ·intro L w9 h0 hcl xH hw9
  refine wpList_load_row rfl _ _ rfl g_a rfl _ (xG (X2 ++ Z2)) (0,0) _ hw9.out.ba Tryz.underlying214 rfl IP.out ?_
  repeat go_step
  with_reducible refine RG.xB ?_
  exact ⟨xH,hw9⟩
 ·rfl
 apply RG.xJ
 ·rfl
 ·rfl
 ·intro L w9 h0 hcl xH hw9
  refine wpList_load_row rfl _ _ rfl g_b rfl _ (xG (X3 ++ Z3)) (0,0) _ hw9.out.bb Tryz.underlying214 rfl IQ.out ?_
  repeat go_step
  with_reducible refine RG.xB ?_
  exact ⟨xH,hw9⟩
 ·rfl
 apply RG.xJ
 ·rfl
 ·rfl
 ·intro L w9 h0 hcl xH hw9
  have hs9 := hw9.out
  rw [h0,if_neg (by simp)] at hs9
  refine wpList_store_row rfl _ _ _ rfl g_r (xG (X2 ++ Z2)) rfl rfl _ _ hs9.br IP.out ZP.out (xS _) ?_
  repeat go_step
  with_reducible refine RG.xB ?_
  exact ⟨xH,hI' (hs9.rowR (X2 ++ Z2))⟩
 ·rfl
 apply RG.xJ
 ·rfl
 ·rfl
 ·intro L w9 h0 hcl xH hw9
  have hs9 := hw9.out
  rw [h0,if_neg (c := false = true) (by simp)] at hs9
  refine wpList_store_row rfl _ _ _ rfl g_s (xG (X3 ++ Z3)) rfl rfl _ _ hs9.bs IQ.out ZQ.out (xS _) ?_
  repeat go_step
  with_reducible refine RG.xB ?_
  exact ⟨xH,hI' (hs9.rowS (X3 ++ Z3))⟩
 ·rfl
 refine RG.yP (fun w9 hw9 => ?_)
 rw [if_pos rfl,if_pos rfl] at hw9
 go_wp2
 refine bodyPost_ret (jV rfl _ _ g_r g_s _ _ _ _ (0,0) (0,0) _ rfl rfl hw9.out.br hw9.out.bs Tryz.underlying214 rfl IP.out IQ.out) rfl ?_
 exact ⟨rfl,hw9.out.bel⟩
end Go.Proofs.FE

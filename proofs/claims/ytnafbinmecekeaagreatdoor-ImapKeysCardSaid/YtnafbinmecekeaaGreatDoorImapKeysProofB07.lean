/- Contracts of functions. Conditions: as stated. -/
import Derived.Test.YtnafbinmecekeaaGreatDoorImapKeysProofB06
import Derived.Great.BuildSlice
open Go.Proofs.Tryz
set_option maxHeartbeats 8000000
set_option maxRecDepth 100000
namespace Go.Proofs.FE
open Go.RowKit Mailsack MM BB SH
theorem xIh (ax bx:List Int) (yes:Bool) (w:World) (hl:ax.length=5) (hu:yU ax) (hl2:bx.length=5) (hu2:yU bx):
  Calls prog 245 #[.agg (xG ax),.agg (xG bx),.bool yes] w λe w'=>e=.returned (.tuple #[.agg (xG (if yes then bx else ax)),.agg (xG (if yes then ax else bx))])/\ψ w w':=by
 cases yes
 ·exact yCj ax bx w hl hu hl2 hu2
 ·exact xYv ax bx w hl hu hl2 hu2
structure FoM (t:TypeId) (w:World) (ax bx rx sx:List Int) (W:World):Prop where
 ba:uR t W w.heap.size ax
 bb:uR t W (w.heap.size+1) bx
 br:uR t W (w.heap.size+2) rx
 bs:uR t W (w.heap.size+3) sx
 bel:ψ w W
section
variable {t:TypeId} {w W W':World} {ax bx rx sx:List Int}
theorem FoM.start (ax bx rx sx:List Int):FoM t w ax bx rx sx ((((w.alloc (.cells (xG ax) t)).alloc (.cells (xG bx) t)).alloc (.cells (xG rx) t)).alloc (.cells (xG sx) t)):=by
 have h1:=zV w (.cells (xG ax) t) (.cells (xG bx) t);have h2:=zK w (.cells (xG ax) t) (.cells (xG bx) t);have h3:=xM ((w.alloc (.cells (xG ax) t)).alloc (.cells (xG bx) t)) (.cells (xG rx) t)
 have h4:=xM (((w.alloc (.cells (xG ax) t)).alloc (.cells (xG bx) t)).alloc (.cells (xG rx) t)) (.cells (xG sx) t);simp only[vD] at h3 h4;exact⟨xO (xO h1 _) _,xO (xO h2 _) _,xO h3 _,h4,(((φ w _).alloc σ _).alloc (by simp;omega) _).alloc (by simp;omega) _⟩
theorem FoM.drew (h:FoM t w ax bx rx sx W):FoM t w ax bx rx sx W.drew:=⟨h.ba,h.bb,h.br,h.bs,h.bel.drew⟩
theorem FoM.below (h:FoM t w ax bx rx sx W) (hb:ψ W W'):FoM t w ax bx rx sx W':=⟨h.ba.below hb,h.bb.below hb,h.br.below hb,h.bs.below hb,h.bel.trans (hb.mono h.bel.size)⟩
theorem FoM.rowA (h:FoM t w ax bx rx sx W) (xs:List Int):FoM t w xs bx rx sx (W.setRow w.heap.size (xG xs)):=
 ⟨setRow_heap _ _ _ _ _ _ h.ba,(setRow_other _ _ _ _ ω).trans h.bb,(setRow_other _ _ _ _ ω).trans h.br,(setRow_other _ _ _ _ ω).trans h.bs,below_setRow h.bel ω _⟩
theorem FoM.rowB (h:FoM t w ax bx rx sx W) (xs:List Int):FoM t w ax xs rx sx (W.setRow (w.heap.size+1) (xG xs)):=
 ⟨(setRow_other _ _ _ _ ω).trans h.ba,setRow_heap _ _ _ _ _ _ h.bb,(setRow_other _ _ _ _ ω).trans h.br,(setRow_other _ _ _ _ ω).trans h.bs,below_setRow h.bel ω _⟩
theorem FoM.rowR (h:FoM t w ax bx rx sx W) (xs:List Int):FoM t w ax bx xs sx (W.setRow (w.heap.size+2) (xG xs)):=
 ⟨(setRow_other _ _ _ _ ω).trans h.ba,(setRow_other _ _ _ _ ω).trans h.bb,setRow_heap _ _ _ _ _ _ h.br,(setRow_other _ _ _ _ ω).trans h.bs,below_setRow h.bel ω _⟩
theorem FoM.rowS (h:FoM t w ax bx rx sx W) (xs:List Int):FoM t w ax bx rx xs (W.setRow (w.heap.size+3) (xG xs)):=
 ⟨(setRow_other _ _ _ _ ω).trans h.ba,(setRow_other _ _ _ _ ω).trans h.bb,(setRow_other _ _ _ _ ω).trans h.br,setRow_heap _ _ _ _ _ _ h.bs,below_setRow h.bel ω _⟩
end
theorem xLy (x1 z1 x2 z2:List Int) (yes:Bool) (w:World) (lx1:x1.length=5) (ux1:yU x1) (lz1:z1.length=5) (uz1:yU z1) (lx2:x2.length=5) (ux2:yU x2) (lz2:z2.length=5) (uz2:yU z2):
  Calls prog 158 #[.agg (xG (x1++z1)),.agg (xG (x2++z2)),.bool yes] w λe w'=>e=.returned (.tuple #[.agg (xG (if yes then x2++z2 else x1++z1)),.agg (xG (if yes then x1++z1 else x2++z2))])/\ψ w w':=by
 have HX:=ι (λW=>xIh x1 x2 yes W lx1 ux1 lx2 ux2);have HZ:=ι (λW=>xIh z1 z2 yes W lz1 uz1 lz2 uz2)
 have HA:Hid ((if yes then x2++z2 else x1++z1)=(if yes then x2 else x1)++(if yes then z2 else z1)/\(if yes then x1++z1 else x2++z2)=(if yes then x1 else x2)++(if yes then z1 else z2)):=ι (by cases yes<;>exact⟨rfl,rfl⟩);rw[HA.o.1,HA.o.2];clear HA
 have la:(if yes then x2 else x1).length=5:=by cases yes<;>assumption
 have lb:(if yes then x1 else x2).length=5:=by cases yes<;>assumption
 have lc:(if yes then z2 else z1).length=5:=by cases yes<;>assumption
 have ld:(if yes then z1 else z2).length=5:=by cases yes<;>assumption
 generalize (if yes then x2 else x1)=a at HX la⊢;generalize (if yes then x1 else x2)=b at HX lb⊢;generalize (if yes then z2 else z1)=c at HZ lc⊢;generalize (if yes then z1 else z2)=d at HZ ld⊢
 have H0:=ι (FoM.start (w:=w) (t:=218) (x1++z1) (x2++z2) (List.replicate 10 0) (List.replicate 10 0));have I1:=ι (uF lx1);have I2:=ι (uF lx2);have I3:=ι (uF lz1);have I4:=ι (uF lz2);have Ia:=ι (uF la);have Ib:=ι (uF lb);have Ic:=ι (uF lc);have Id:=ι (uF ld)
 have HL:=ι (And.intro (And.intro lx1 (And.intro lx2 (And.intro lz1 lz2))) (And.intro la (And.intro lb (And.intro lc ld))));clear ux1 uz1 ux2 uz2 lx1 lz1 lx2 lz2 la lb lc ld;go_enter func158,ntmps158;go_upto_region 1 with fail
 refine(λ(h:∀W3,Hid (FoM 218 w (x1++z1) (x2++z2) (List.replicate 10 0) (List.replicate 10 0) W3)->Code.wp _ _ _ _ W3)=>h _ H0) ?_;clear H0;intro W0 H0;obtain⟨⟨lx1,lx2,lz1,lz2⟩,la,lb,lc,ld⟩:=HL.o;refine wp_region_lit ?_;iterate 3 go_step
 refine zX rfl _ _ rfl w.heap.size 0 rfl (xG x1) _ (xCx H0.o.ba) underlying214 rfl I1.o ?_;iterate 3 go_step
 refine zX rfl _ _ rfl (w.heap.size+1) 0 rfl (xG x2) _ (xCx H0.o.bb) underlying214 rfl I2.o ?_;repeat go_step
 refine(HX.o _).mono ?_;rintro e w1 ⟨rfl,hb1⟩;have H1:=ι (H0.o.below hb1);clear H0 hb1;simp only[]
 rename ∀(a:Act) (w:World),wpList _ _ _ _ a w->_=>hk
 refine hk _ _ ?_;clear hk;iterate 12 go_step
 refine wZ rfl _ _ _ rfl w.heap.size 0 (xG a) rfl rfl _ _ H1.o.ba Ia.o (by rw[xV,xV,List.length_append,la,lx1,lz1];decide) (yB _) _ (xVe x1 z1 a lx1 la) ?_;have H2:=ι (H1.o.rowA (a++z1))
 refine(λ(h:∀W3,Hid (FoM 218 w (a++z1) (x2++z2) (List.replicate 10 0) (List.replicate 10 0) W3)->wpList _ _ _ _ _ W3)=>h _ H2) ?_;clear H1 H2;intro W2 H2;iterate 3 go_step
 refine wZ rfl _ _ _ rfl (w.heap.size+1) 0 (xG b) rfl rfl _ _ H2.o.bb Ib.o (by rw[xV,xV,List.length_append,lb,lx2,lz2];decide) (yB _) _ (xVe x2 z2 b lx2 lb) ?_;have H3:=ι (H2.o.rowB (b++z2));go_upto_region 2 with fail
 refine(λ(h:∀W3,Hid (FoM 218 w (a++z1) (b++z2) (List.replicate 10 0) (List.replicate 10 0) W3)->Code.wp _ _ _ _ W3)=>h _ H3) ?_;clear H2 H3;intro W3 H3;refine wp_region_lit ?_;iterate 3 go_step
 refine zX rfl _ _ rfl w.heap.size 5 rfl (xG z1) _ (xCw H3.o.ba la) underlying214 rfl I3.o ?_;iterate 3 go_step
 refine zX rfl _ _ rfl (w.heap.size+1) 5 rfl (xG z2) _ (xCw H3.o.bb lb) underlying214 rfl I4.o ?_;repeat go_step
 refine(HZ.o _).mono ?_;rintro e w1 ⟨rfl,hb1⟩;have H4:=ι (H3.o.below hb1);clear H3 hb1;simp only[]
 rename ∀(a:Act) (w:World),wpList _ _ _ _ a w->_=>hk
 refine hk _ _ ?_;clear hk;iterate 12 go_step
 refine wZ rfl _ _ _ rfl w.heap.size 5 (xG c) rfl rfl _ _ H4.o.ba Ic.o (by rw[xV,xV,List.length_append,la,lc,lz1];decide) (yB _) _ (xVd a z1 c la lz1 lc) ?_;have H5:=ι (H4.o.rowA (a++c))
 refine(λ(h:∀W3,Hid (FoM 218 w (a++c) (b++z2) (List.replicate 10 0) (List.replicate 10 0) W3)->wpList _ _ _ _ _ W3)=>h _ H5) ?_;clear H4 H5;intro W2 H5;iterate 3 go_step
 refine wZ rfl _ _ _ rfl (w.heap.size+1) 5 (xG d) rfl rfl _ _ H5.o.bb Id.o (by rw[xV,xV,List.length_append,lb,ld,lz2];decide) (yB _) _ (xVd b z2 d lb lz2 ld) ?_;have H6:=ι (H5.o.rowB (b++d));go_upto_region 3 with fail
 refine(λ(h:∀W3,Hid (FoM 218 w (a++c) (b++d) (List.replicate 10 0) (List.replicate 10 0) W3)->Code.wp _ _ _ _ W3)=>h _ H6) ?_;clear H5 H6;intro W6 H6;have IA:=ι (yA5 la lc);have IB:=ι (yA5 lb ld)
 have ZA:Hid ((xG (List.replicate 10 0)).size=(xG (a++c)).size):=ι (by rw[xV,xV,List.length_append,la,lc];rfl);have ZB:Hid ((xG (List.replicate 10 0)).size=(xG (b++d)).size):=ι (by rw[xV,xV,List.length_append,lb,ld];rfl)
 clear HX HZ I1 I2 I3 I4 Ia Ib Ic Id lx1 lx2 lz1 lz2 la lb lc ld HL;generalize hra:a++c=ra at H6 IA ZA⊢;generalize hrb:b++d=rb at H6 IB ZB⊢;have HE:=ι (And.intro hra hrb);clear hra hrb
 refine RG.yD 4 (λL W=>Hid (FoM 218 w ra rb (if L 2 then ra else List.replicate 10 0) (if L 3 then rb else List.replicate 10 0) W)) (λL L' W h hI=>by rw[<-h 2 δ,<-h 3 δ];exact hI) κ κ rfl (ι H6.o.drew) ?_;clear H6;apply RG.xN
 ·rfl
 ·rfl
 ·intro L w9 h0 hcl xK hw9;refine wpList_load_row rfl _ _ rfl w.heap.size rfl _ (xG ra) (0,0) _ hw9.o.ba underlying218 rfl IA.o ?_;repeat go_step
  refine RG.xC ?_;exact⟨xK,hw9⟩
 ·rfl
 apply RG.xN
 ·rfl
 ·rfl
 ·intro L w9 h0 hcl xK hw9;refine wpList_load_row rfl _ _ rfl (w.heap.size+1) rfl _ (xG rb) (0,0) _ hw9.o.bb underlying218 rfl IB.o ?_;repeat go_step
  refine RG.xC ?_;exact⟨xK,hw9⟩
 ·rfl
 apply RG.xN
 ·rfl
 ·rfl
 ·intro L w9 h0 hcl xK hw9;have hs9:=hw9.o;rw[h0,if_neg σ] at hs9;refine wpList_store_row rfl _ _ _ rfl (w.heap.size+2) (xG ra) rfl rfl _ _ hs9.br IA.o ZA.o (yB _) ?_;repeat go_step
  refine RG.xC ?_;exact⟨xK,ι (hs9.rowR ra)⟩
 ·rfl
 apply RG.xN
 ·rfl
 ·rfl
 ·intro L w9 h0 hcl xK hw9;have hs9:=hw9.o;rw[h0,if_neg (c:=false=true) σ] at hs9;refine wpList_store_row rfl _ _ _ rfl (w.heap.size+3) (xG rb) rfl rfl _ _ hs9.bs IB.o ZB.o (yB _) ?_;repeat go_step
  refine RG.xC ?_;exact⟨xK,ι (hs9.rowS rb)⟩
 ·rfl
 refine RG.xZ (λw9 hw9=>?_);rw[if_pos rfl,if_pos rfl] at hw9;go_wp2;refine bodyPost_ret (jL rfl _ _ (w.heap.size+2) (w.heap.size+3) _ _ _ _ (0,0) (0,0) _ rfl rfl hw9.o.br hw9.o.bs underlying218 rfl IA.o IB.o) rfl ?_;rw[HE.o.1,HE.o.2];exact⟨rfl,hw9.o.bel⟩
end Go.Proofs.FE
namespace Mailsack
def yBn (a:List Int):List Int:=uN a a
def yBm (a:List Int):List Int:=uN (sqI (yBn a) 2) a
def xWe (a:List Int):List Int:=uN (yBm a) (yBn a)
def yBp (a:List Int):List Int:=uN (sqI (xWe a) 1) (yBm a)
def xO7 (a:List Int):List Int:=uN (sqI (yBp a) 5) (yBp a)
def xWf (a:List Int):List Int:=uN (sqI (xO7 a) 10) (xO7 a)
def yDr (a:List Int):List Int:=uN (sqI (xWf a) 20) (xWf a)
def xO6 (a:List Int):List Int:=uN (sqI (yDr a) 10) (xO7 a)
def xPz (a:List Int):List Int:=uN (sqI (xO6 a) 50) (xO6 a)
def yA1 (a:List Int):List Int:=uN (sqI (xPz a) 100) (xPz a)
def yA0 (a:List Int):List Int:=uN (sqI (yA1 a) 50) (xO6 a)
def xHe (a:List Int):List Int:=uN (sqI (yA0 a) 5) (xWe a)
theorem xX7 (a:List Int):(xHe a).length=5:=vC _ _
theorem yE5 (a:List Int):yU (xHe a):=tC _ _
end Mailsack
namespace Go.Proofs.FE
open Go.RowKit Mailsack MM BB SH
theorem xBp (x y:List Int) (n:Nat) (k:Int) (hk:k=n) (hn:n<=1000) (hx:x.length=5) (ux:yU x) (hy:y.length=5) (uy:yU y):∃s v,Hid (∀W,Calls prog 253 #[.agg (xG x),.int .i64 k] W λe w'=>e=.returned (.agg (xG s))/\ψ W w')/\
  Hid (∀W,Calls prog 161 #[.agg (xG s),.agg (xG y)] W λe w'=>e=.returned (.agg (xG v))/\ψ W w')/\v=uN (sqI x n) y/\v.length=5/\yU v:=
 ⟨sqI x n,_,ι (λW=>by rw[hk];exact xNd x n W hx ux hn),ι (λW=>rO _ _ W (xFp hx n) (yCq ux n) hy uy),rfl,vC _ _,tC _ _⟩
theorem one_mul (x y:List Int) (hx:x.length=5) (ux:yU x) (hy:y.length=5) (uy:yU y):∃v,
  Hid (∀W,Calls prog 161 #[.agg (xG x),.agg (xG y)] W λe w'=>e=.returned (.agg (xG v))/\ψ W w')/\v=uN x y/\v.length=5/\yU v:=
 ⟨_,ι (λW=>rO _ _ W hx ux hy uy),rfl,vC _ _,tC _ _⟩
theorem zP (ws:List Int) (h:ws.length=5):Hid ((prog.info? 214).map (·.size)=some (xG ws).size):=ι (uF h)
theorem vB (ws:List Int) (h:ws.length=5):Hid ((xG (List.replicate 5 0)).size=(xG ws).size):=ι (xAe σ h)
theorem xSi (ax:List Int) (w:World) (l_ax:ax.length=5) (u_ax:yU ax):
  Calls prog 162 #[.agg (xG ax)] w λe w'=>e=.returned (.agg (xG (xHe ax)))/\ψ w w':=by
 have I_ax:=zP ax l_ax;obtain⟨p2,M_p2,E_p2,l_p2,u_p2⟩:=one_mul ax ax l_ax u_ax l_ax u_ax;have I_p2:=zP p2 l_p2;have Z_p2:=vB p2 l_p2;obtain⟨s_p9,p9,S_p9,M_p9,E_p9,l_p9,u_p9⟩:=xBp p2 ax 2 2 rfl δ l_p2 u_p2 l_ax u_ax;have I_p9:=zP p9 l_p9;have Z_p9:=vB p9 l_p9
 obtain⟨p11,M_p11,E_p11,xW9,yCd⟩:=one_mul p9 p2 l_p9 u_p9 l_p2 u_p2;have I_p11:=zP p11 xW9;have Z_p11:=vB p11 xW9;obtain⟨s_o5,o5,S_o5,M_o5,E_o5,l_o5,u_o5⟩:=xBp p11 p9 1 1 rfl δ xW9 yCd l_p9 u_p9;have I_o5:=zP o5 l_o5;have Z_o5:=vB o5 l_o5
 obtain⟨s_o10,o10,S_o10,M_o10,E_o10,xSg,xYq⟩:=xBp o5 o5 5 5 rfl δ l_o5 u_o5 l_o5 u_o5;have I_o10:=zP o10 xSg;have Z_o10:=vB o10 xSg;obtain⟨s_o20,o20,S_o20,M_o20,E_o20,xWa,yCe⟩:=xBp o10 o10 10 10 rfl δ xSg xYq xSg xYq;have I_o20:=zP o20 xWa;have Z_o20:=vB o20 xWa
 obtain⟨s_o40,o40,S_o40,M_o40,E_o40,xZy,u_o40⟩:=xBp o20 o20 20 20 rfl δ xWa yCe xWa yCe;have I_o40:=zP o40 xZy;have Z_o40:=vB o40 xZy;obtain⟨s_o50,o50,S_o50,M_o50,E_o50,xSf,xYp⟩:=xBp o40 o10 10 10 rfl δ xZy u_o40 xSg xYq;have I_o50:=zP o50 xSf;have Z_o50:=vB o50 xSf
 obtain⟨s_o100,o100,S_o100,M_o100,yC1,xLz,xUm⟩:=xBp o50 o50 50 50 rfl δ xSf xYp xSf xYp;have I_o100:=zP o100 xLz;have Z_o100:=vB o100 xLz;obtain⟨s_o200,o200,S_o200,M_o200,yC0,xPx,yB5⟩:=xBp o100 o100 100 100 rfl δ xLz xUm xLz xUm;have I_o200:=zP o200 xPx;have Z_o200:=vB o200 xPx
 obtain⟨s_o250,yDc,S_o250,M_o250,yBz,xPw,yB4⟩:=xBp o200 o50 50 50 rfl δ xPx yB5 xSf xYp;have I_o250:=zP yDc xPw;have Z_o250:=vB yDc xPw;obtain⟨s_res,res,S_res,M_res,E_res,yDn,u_res⟩:=xBp yDc p11 5 5 rfl δ xPw yB4 xW9 yCd;have I_res:=zP res yDn;have Z_res:=vB res yDn
 have HE:Hid (res=xHe ax):=ι (by
  subst E_p2 E_p9 E_p11 E_o5 E_o10 E_o20 E_o40 E_o50 yC1 yC0 yBz E_res
  rfl)
 clear E_p2 l_p2 u_p2 E_p9 l_p9 u_p9 E_p11 xW9 yCd E_o5 l_o5 u_o5 E_o10 xSg xYq E_o20 xWa yCe E_o40 xZy u_o40 E_o50 xSf xYp yC1 xLz xUm yC0 xPx yB5 yBz xPw yB4 E_res yDn u_res l_ax u_ax
 have H0:Hid (Bag w [(w.heap.size+1,214,List.replicate 5 0),(w.heap.size,214,ax)] ((w.alloc (.cells (xG ax) 214)).alloc (.cells (xG (List.replicate 5 0)) 214))):=ι (by
  have h:Bag w [] w:=⟨Below.refl _ _,λ_ _ _ h=>by cases h⟩;have h2:=(h.new 214 ax).new 214 (List.replicate 5 0)
  rwa [vD] at h2)
 obtain⟨yAb,hga⟩:∃g,w.heap.size=g:=⟨_,rfl⟩;obtain⟨g_z,hgz⟩:∃g,w.heap.size+1=g:=⟨_,rfl⟩;have HGA:=ι hga;have HGZ:=ι hgz;clear hga hgz;go_enter func162,ntmps162;go_upto_region 1 with fail
 rw[HGZ.o,HGA.o];rw[HGZ.o,HGA.o] at H0;refine(λ(h:∀W3,Hid (Bag w _ W3)->Code.wp _ _ _ _ W3)=>h _ H0) ?_;clear H0;intro W0 H0;refine wp_region_lit ?_
 refine wpList_load_row rfl _ _ rfl yAb rfl _ (xG ax) (0,0) _ (H0.o.get (g:=yAb) (t:=214) (ws:=ax) σ) underlying214 rfl I_ax.o ?_;refine wpList_load_row rfl _ _ rfl yAb rfl _ (xG ax) (0,0) _ (H0.o.get (g:=yAb) (t:=214) (ws:=ax) σ) underlying214 rfl I_ax.o ?_
 repeat go_step
 refine(M_p2.o _).mono ?_;rintro e w7 ⟨rfl,hb7⟩;have H7:=H0.o.below hb7;have H8:=H7.new 214 (List.replicate 5 0)
 have H9:Bag w ((w7.heap.size,214,p2)::[(g_z,214,List.replicate 5 0),(yAb,214,ax)]) ((w7.alloc (.cells (xG (List.replicate 5 0)) 214)).setRow w7.heap.size (xG p2)):=((H7.alloc _).far H7.1.size (λg t ws hm=>Nat.ne_of_lt (H7.lt hm)) _).cons H7.1.size (setRow_heap _ _ _ _ _ _ (xM _ _))
 simp only[]
 rename ∀(a:Act) (w:World),wpList _ _ _ _ a w->_=>hk
 refine hk _ _ ?_;clear hk;iterate 3 go_step
 refine wpList_store_row rfl _ _ _ rfl w7.heap.size (xG p2) rfl rfl _ (xG (List.replicate 5 0)) (xM _ _) I_p2.o Z_p2.o (yB _) ?_;refine(λ(h:∀W3,Hid (Bag w ((w7.heap.size,214,p2)::[(g_z,214,List.replicate 5 0),(yAb,214,ax)]) W3)->wpList _ _ _ _ _ W3)=>h _ (ι H9)) ?_
 clear H7 H8 H9 H0 hb7;generalize w7.heap.size=g_p2;intro W3 H0;go_upto_region 2 with fail
 refine xSw 4 5 214 (List.replicate 5 0) p9 H0 ?_;refine aL ?_;refine aC ?_;refine aL ?_;refine aC ?_;refine aN 2 5 ?_;refine aT 2 4 ?_;clear H0;refine RG.jF (λα w4 hw4=>?_);have H0:=ι hw4.o.done;clear hw4;simp only[Nat.zero_add,Nat.reduceAdd];generalize α 4=g_p9 at H0⊢
 go_upto_region 3 with fail
 refine wp_region_lit ?_;refine wpList_load_row rfl _ _ rfl g_p9 rfl _ (xG p9) (0,0) _ (H0.o.get (g:=g_p9) (t:=214) (ws:=p9) σ) underlying214 rfl I_p9.o ?_
 refine wpList_load_row rfl _ _ rfl g_p2 rfl _ (xG p2) (0,0) _ (H0.o.get (g:=g_p2) (t:=214) (ws:=p2) σ) underlying214 rfl I_p2.o ?_;repeat go_step
 refine(M_p11.o _).mono ?_;rintro e w7 ⟨rfl,hb7⟩;have H7:=H0.o.below hb7;have H8:=H7.new 214 (List.replicate 5 0)
 have H9:Bag w ((w7.heap.size,214,p11)::[(g_p9,214,p9),(g_p2,214,p2),(g_z,214,List.replicate 5 0),(yAb,214,ax)]) ((w7.alloc (.cells (xG (List.replicate 5 0)) 214)).setRow w7.heap.size (xG p11)):=((H7.alloc _).far H7.1.size (λg t ws hm=>Nat.ne_of_lt (H7.lt hm)) _).cons H7.1.size (setRow_heap _ _ _ _ _ _ (xM _ _))
 simp only[]
 rename ∀(a:Act) (w:World),wpList _ _ _ _ a w->_=>hk
 refine hk _ _ ?_;clear hk;iterate 3 go_step
 refine wpList_store_row rfl _ _ _ rfl w7.heap.size (xG p11) rfl rfl _ (xG (List.replicate 5 0)) (xM _ _) I_p11.o Z_p11.o (yB _) ?_
 refine(λ(h:∀W3,Hid (Bag w ((w7.heap.size,214,p11)::[(g_p9,214,p9),(g_p2,214,p2),(g_z,214,List.replicate 5 0),(yAb,214,ax)]) W3)->wpList _ _ _ _ _ W3)=>h _ (ι H9)) ?_;clear H7 H8 H9 H0 hb7;generalize w7.heap.size=yE0;intro W3 H0;go_upto_region 4 with fail
 refine xSw 4 5 214 (List.replicate 5 0) o5 H0 ?_;refine aL ?_;refine aC ?_;refine aL ?_;refine aC ?_;refine aN 2 5 ?_;refine aT 2 4 ?_;clear H0;refine RG.jF (λα w4 hw4=>?_);have H0:=ι hw4.o.done;clear hw4;simp only[Nat.zero_add,Nat.reduceAdd];generalize α 4=g_o5 at H0⊢
 go_upto_region 5 with fail
 refine xSw 4 5 214 (List.replicate 5 0) o10 H0 ?_;refine aL ?_;refine aC ?_;refine aL ?_;refine aC ?_;refine aN 2 5 ?_;refine aT 2 4 ?_;clear H0;refine RG.jF (λα w4 hw4=>?_);have H0:=ι hw4.o.done;clear hw4;simp only[Nat.zero_add,Nat.reduceAdd];generalize α 4=g_o10 at H0⊢
 go_upto_region 6 with fail
 refine xSw 4 5 214 (List.replicate 5 0) o20 H0 ?_;refine aL ?_;refine aC ?_;refine aL ?_;refine aC ?_;refine aN 2 5 ?_;refine aT 2 4 ?_;clear H0;refine RG.jF (λα w4 hw4=>?_);have H0:=ι hw4.o.done;clear hw4;simp only[Nat.zero_add,Nat.reduceAdd];generalize α 4=g_o20 at H0⊢
 go_upto_region 7 with fail
 refine xSw 4 5 214 (List.replicate 5 0) o40 H0 ?_;refine aL ?_;refine aC ?_;refine aL ?_;refine aC ?_;refine aN 2 5 ?_;refine aT 2 4 ?_;clear H0;refine RG.jF (λα w4 hw4=>?_);have H0:=ι hw4.o.done;clear hw4;simp only[Nat.zero_add,Nat.reduceAdd];generalize α 4=g_o40 at H0⊢
 go_upto_region 8 with fail
 refine xSw 4 5 214 (List.replicate 5 0) o50 H0 ?_;refine aL ?_;refine aC ?_;refine aL ?_;refine aC ?_;refine aN 2 5 ?_;refine aT 2 4 ?_;clear H0;refine RG.jF (λα w4 hw4=>?_);have H0:=ι hw4.o.done;clear hw4;simp only[Nat.zero_add,Nat.reduceAdd];generalize α 4=g_o50 at H0⊢
 go_upto_region 9 with fail
 refine xSw 4 5 214 (List.replicate 5 0) o100 H0 ?_;refine aL ?_;refine aC ?_;refine aL ?_;refine aC ?_;refine aN 2 5 ?_;refine aT 2 4 ?_;clear H0;refine RG.jF (λα w4 hw4=>?_);have H0:=ι hw4.o.done;clear hw4;simp only[Nat.zero_add,Nat.reduceAdd];generalize α 4=g_o100 at H0⊢
 go_upto_region 10 with fail
 refine xSw 4 5 214 (List.replicate 5 0) o200 H0 ?_;refine aL ?_;refine aC ?_;refine aL ?_;refine aC ?_;refine aN 2 5 ?_;refine aT 2 4 ?_;clear H0;refine RG.jF (λα w4 hw4=>?_);have H0:=ι hw4.o.done;clear hw4;simp only[Nat.zero_add,Nat.reduceAdd];generalize α 4=g_o200 at H0⊢
 go_upto_region 11 with fail
 refine xSw 4 5 214 (List.replicate 5 0) yDc H0 ?_;refine aL ?_;refine aC ?_;refine aL ?_;refine aC ?_;refine aN 2 5 ?_;refine aT 2 4 ?_;clear H0;refine RG.jF (λα w4 hw4=>?_);have H0:=ι hw4.o.done;clear hw4;simp only[Nat.zero_add,Nat.reduceAdd];generalize α 4=xWy at H0⊢
 go_upto_region 12 with fail
 refine RG.yD 5 (λL W=>Hid ((L 4=false->Bag w [(xWy,214,yDc),(g_o200,214,o200),(g_o100,214,o100),(g_o50,214,o50),(g_o40,214,o40),(g_o20,214,o20),(g_o10,214,o10),(g_o5,214,o5),(yE0,214,p11),(g_p9,214,p9),(g_p2,214,p2),(g_z,214,List.replicate 5 0),(yAb,214,ax)] W)/\(L 4=true->ψ w W/\uR 214 W g_z res))) (λL L' W h hI=>by rw[<-h 4 δ];exact hI) κ κ rfl (ι ⟨λ_=>H0.o.drew,λh=>by cases h⟩) ?_
 clear H0;apply RG.xN
 ·rfl
 ·rfl
 ·intro L w9 h0 hcl xK hw9;have e:=hcl.not 5 (i:=4) h0 κ;have hb:=hw9.o.1 e;refine wpList_load_row rfl _ _ rfl xWy rfl _ (xG yDc) (0,0) _ (hb.get (g:=xWy) (t:=214) (ws:=yDc) σ) underlying214 rfl I_o250.o ?_;repeat go_step
  refine RG.xC ?_;exact⟨xK,hw9⟩
 ·rfl
 apply RG.xN
 ·rfl
 ·rfl
 ·intro L w9 h0 hcl xK hw9;have e:=hcl.not 5 (i:=4) h0 κ;have hb:=hw9.o.1 e;repeat go_step
  refine(S_res.o _).mono ?_;rintro e w10 ⟨rfl,zF⟩;simp only[];repeat go_step
  refine RG.xC ?_;refine⟨xK,ι ⟨λ_=>hb.below zF,λh4=>?_⟩⟩;have h5:L 4=true:=h4;rw[e] at h5;cases h5
 ·rfl
 apply RG.xN
 ·rfl
 ·rfl
 ·intro L w9 h0 hcl xK hw9;have e:=hcl.not 5 (i:=4) h0 κ;have hb:=hw9.o.1 e;refine wpList_load_row rfl _ _ rfl yE0 rfl _ (xG p11) (0,0) _ (hb.get (g:=yE0) (t:=214) (ws:=p11) σ) underlying214 rfl I_p11.o ?_;repeat go_step
  refine RG.xC ?_;exact⟨xK,hw9⟩
 ·rfl
 apply RG.xN
 ·rfl
 ·rfl
 ·intro L w9 h0 hcl xK hw9;have e:=hcl.not 5 (i:=4) h0 κ;have hb:=hw9.o.1 e;repeat go_step
  refine(M_res.o _).mono ?_;rintro e w10 ⟨rfl,zF⟩;simp only[];repeat go_step
  refine RG.xC ?_;refine⟨xK,ι ⟨λ_=>hb.below zF,λh4=>?_⟩⟩;have h5:L 4=true:=h4;rw[e] at h5;cases h5
 ·rfl
 apply RG.xN
 ·rfl
 ·rfl
 ·intro L w9 h0 hcl xK hw9;have hb:=hw9.o.1 h0;have hz:=hb.get (g:=g_z) (t:=214) (ws:=List.replicate 5 0) σ;have hg:=(hb.2 g_z 214 (List.replicate 5 0) σ).1;refine wpList_store_row rfl _ _ _ rfl g_z (xG res) rfl rfl _ (xG (List.replicate 5 0)) hz I_res.o Z_res.o (yB _) ?_
  repeat go_step
  refine RG.xC ?_;exact⟨xK,ι ⟨λh=>(by cases h),λ_=>⟨below_setRow hb.1 hg _,setRow_heap _ _ _ _ _ _ hz⟩⟩⟩
 ·rfl
 refine RG.xZ (λw9 hw9=>?_);obtain⟨hbl,hres⟩:=hw9.o.2 rfl;have HBL:=ι hbl;have HRS:=ι hres;clear hw9 hbl hres;go_wp2;refine bodyPost_ret (results_cell_row rfl _ _ g_z _ _ (0,0) _ rfl HRS.o underlying214 rfl I_res.o) rfl ?_;rw[HE.o];exact⟨rfl,HBL.o⟩
end Go.Proofs.FE
namespace Mailsack
def yCn (x z:List Int):List Int:=xHf x z
def yCp (x z:List Int):List Int:=xHd x z
def stS2 (x z:List Int):List Int:=uN (yCn x z) (yCn x z)
def stD2 (x z:List Int):List Int:=uN (yCp x z) (yCp x z)
def stE (x z:List Int):List Int:=xHd (stS2 x z) (stD2 x z)
def stDA (x1 z1 x2 z2:List Int):List Int:=uN (xHd x2 z2) (yCn x1 z1)
def stCB (x1 z1 x2 z2:List Int):List Int:=uN (xHf x2 z2) (yCp x1 z1)
def stP (x1 z1 x2 z2:List Int):List Int:=xHf (stDA x1 z1 x2 z2) (stCB x1 z1 x2 z2)
def stM (x1 z1 x2 z2:List Int):List Int:=xHd (stDA x1 z1 x2 z2) (stCB x1 z1 x2 z2)
def stX2 (x1 z1:List Int):List Int:=uN (stS2 x1 z1) (stD2 x1 z1)
def stZ2 (x1 z1:List Int):List Int:=uN (stE x1 z1) (xHf (stS2 x1 z1) (xDy (stE x1 z1) 121665))
def stX3 (x1 z1 x2 z2:List Int):List Int:=uN (stP x1 z1 x2 z2) (stP x1 z1 x2 z2)
def stZ3 (u x1 z1 x2 z2:List Int):List Int:=uN u (uN (stM x1 z1 x2 z2) (stM x1 z1 x2 z2))
end Mailsack
namespace Go.Proofs.FE
open Go.RowKit Mailsack MM BB SH
def J2 (w:World) (B:List (Nat×TypeId×List Int)) (n s n' s':Nat) (t:TypeId) (zs v v':List Int) (L:Nat->Bool) (α:RG.Pl) (W:World):Prop:=
 J1 w B n s t zs v L α W/\J1 w B n' s' t zs v' L α W/\(L n=true->L n'=true->α n≠α n')
section
variable {w W W':World} {B:List (Nat×TypeId×List Int)} {n s n' s':Nat} {t:TypeId} {zs v v':List Int} {L:Nat->Bool} {α:RG.Pl}
theorem J2.congr {L':Nat->Bool} {α':RG.Pl} (hn:L n=L' n) (hs:L s=L' s) (ha:L n=true->α n=α' n) (hn':L n'=L' n') (hs':L s'=L' s') (ha':L n'=true->α n'=α' n') (h:J2 w B n s n' s' t zs v v' L α W):J2 w B n s n' s' t zs v v' L' α' W:=
 ⟨h.1.congr hn hs ha,h.2.1.congr hn' hs' ha',λh1 h2=>by rw[<-hn] at h1;rw[<-hn'] at h2;rw[<-ha h1,<-ha' h2];exact h.2.2 h1 h2⟩
theorem J2.start (h:Bag w B W):J2 w B n s n' s' t zs v v' (λ_=>false) α W.drew:=⟨J1.start h,J1.start h,λh=>by cases h⟩
theorem J2.below (h:J2 w B n s n' s' t zs v v' L α W) (hb:ψ W W'):J2 w B n s n' s' t zs v v' L α W':=⟨h.1.below hb,h.2.1.below hb,h.2.2⟩
theorem J1.xWb (h:J1 w B n s t zs v L α W) {m:Nat} (hm:n≠m) (hs:s≠m) (o:Obj):J1 w B n s t zs v (λj=>j==m||L j) (RG.xKk α m W.heap.size) (W.alloc o):=by
 have h2:=h.below (W':=W.alloc o) ((Below.refl _ W).alloc ν o);refine h2.congr ?_ ?_ (λ_=>?_)
 ·show L n=(n==m||L n);rw[show(n==m)=false by simpa using hm,Bool.false_or]
 ·show L s=(s==m||L s);rw[show(s==m)=false by simpa using hs,Bool.false_or]
 ·rw[RG.xB4 _ _ _ hm]
theorem J2.newA (h:J2 w B n s n' s' t zs v v' L α W) (hs:L s=false) (h1:s≠n) (h2:n'≠n) (h3:s'≠n):J2 w B n s n' s' t zs v v' (λj=>j==n||L j) (RG.xKk α n W.heap.size) (W.alloc (.cells (xG zs) t)):=
 ⟨h.1.new hs h1,h.2.1.xWb h2 h3 _,λ_ hb=>by
  have hb':L n'=true:=by simpa[h2] using hb
  rw[RG.xCn,RG.xB4 _ _ _ h2];have:=xH (h.2.1.2 hb').2.2.blk;omega⟩
theorem J2.newB (h:J2 w B n s n' s' t zs v v' L α W) (hs:L s'=false) (h1:s'≠n') (h2:n≠n') (h3:s≠n'):J2 w B n s n' s' t zs v v' (λj=>j==n'||L j) (RG.xKk α n' W.heap.size) (W.alloc (.cells (xG zs) t)):=
 ⟨h.1.xWb h2 h3 _,h.2.1.new hs h1,λhb _=>by
  have hb':L n=true:=by simpa[h2] using hb
  rw[RG.xCn,RG.xB4 _ _ _ h2];have:=xH (h.1.2 hb').2.2.blk;omega⟩
theorem J1.xPy (h:J1 w B n s t zs v L α W) {m g:Nat} (hm:n≠m) (hs:s≠m) (hg:w.heap.size<=g) (hf:∀g' t ws,(g',t,ws)∈B->g'≠g) (hne:L n=true->α n≠g) (cs:Array Value):J1 w B n s t zs v (λj=>j==m||L j) α (W.setRow g cs):=by
 refine⟨h.1.far hg hf _,λh1=>?_⟩;have h1':L n=true:=by simpa[hm] using h1
 obtain⟨a1,a2,a3⟩:=h.2 h1';refine⟨a1,a2,?_⟩;rw[show(λj=>j==m||L j) s=L s by show(s==m||L s)=L s;rw[show(s==m)=false by simpa using hs,Bool.false_or]];exact(setRow_other _ _ _ _ (hne h1')).trans a3
theorem J2.fillA (h:J2 w B n s n' s' t zs v v' L α W) (hn:L n=true) (h1:n'≠s) (h2:s'≠s):J2 w B n s n' s' t zs v v' (λj=>j==s||L j) α (W.setRow (α n) (xG v)):=
 ⟨h.1.fill hn,h.2.1.xPy h1 h2 (h.1.2 hn).2.1 (h.1.2 hn).1 (λhb e=>h.2.2 hn hb e.symm) _,λ_ hb=>h.2.2 hn (by simpa[h1] using hb)⟩
theorem J2.fillB (h:J2 w B n s n' s' t zs v v' L α W) (hn:L n'=true) (h1:n≠s') (h2:s≠s'):J2 w B n s n' s' t zs v v' (λj=>j==s'||L j) α (W.setRow (α n') (xG v')):=
 ⟨h.1.xPy h1 h2 (h.2.1.2 hn).2.1 (h.2.1.2 hn).1 (λhb e=>h.2.2 hb hn e) _,h.2.1.fill hn,λhb _=>h.2.2 (by simpa[h1] using hb) hn⟩
theorem J2.done (h:J2 w B n s n' s' t zs v v' (λ_=>true) α W):Bag w ((α n',t,v')::(α n,t,v)::B) W:=by
 obtain⟨a1,a2,a3⟩:=h.2.1.2 rfl;rw[if_pos rfl] at a3;exact h.1.done.cons a2 a3
end
section
variable {md:Region.Mode} {ops:Array Oper} {E N:List Nat} {J:(Nat->Bool)->RG.Pl->World->Prop} {K:RG.Pl->Act->Prop} {a A:RG.Pl->Act} {v:Value} {i:Nat} {o:Oper} {os:List Oper}
theorem aP (h2:RG.uB prog ops md E N J K os (i+1) A) (hi:N.contains i=false:=by rfl) (he:E.contains i=false:=by rfl) (h:∀α L w,L i=false->RG.closed ops md L->RG.closed ops md (λj=>j==i||L j)->J L α w->wpList prog ops (RG.Only (J L α) (A α)) [o] (a α) w:=by
 intro α L w9 h0 hcl xK hw9
 first
 |refine zX rfl _ _ rfl _ 0 rfl (xG _) _ (xCx (Bag.get (J1.bag hw9.o) (by repeat (first|exact List.Mem.head _|apply List.Mem.tail)))) underlying214 rfl (Hid.o (by with_reducible assumption)) ?_
 |refine zX rfl _ _ rfl _ 0 rfl (xG _) _ (xCx (Bag.get (J1.bag hw9.o.1) (by repeat (first|exact List.Mem.head _|apply List.Mem.tail)))) underlying214 rfl (Hid.o (by with_reducible assumption)) ?_
 |refine zX rfl _ _ rfl _ 5 rfl (xG _) _ (xCw (Bag.get (J1.bag hw9.o) (by repeat (first|exact List.Mem.head _|apply List.Mem.tail))) (Hid.o (by with_reducible assumption))) underlying214 rfl (Hid.o (by with_reducible assumption)) ?_
 |refine zX rfl _ _ rfl _ 5 rfl (xG _) _ (xCw (Bag.get (J1.bag hw9.o.1) (by repeat (first|exact List.Mem.head _|apply List.Mem.tail))) (Hid.o (by with_reducible assumption))) underlying214 rfl (Hid.o (by with_reducible assumption)) ?_
 repeat go_step
 exact RG.xC hw9) (hd:∀α,A α=(a α).put o.dst v:=by intro α;rfl):RG.uB prog ops md E N J K (o::os) i a:=RG.qW hi he h hd h2
theorem det2 {id:Nat} {l:List Oper} {a:Act} {W0 w:World} {Q:Exit->Act->World->Prop} {B:List (Nat×TypeId×List Int)} (n s n' s':Nat) (t:TypeId) (zs v v':List Int) (H0:Hid (Bag w B W0))
  (h:RG.uB prog l.toArray .any [s,s'] [n,n'] (λL α W=>Hid (J2 w B n s n' s' t zs v v' L α W)) (λα a=>∀w9,Hid (J2 w B n s n' s' t zs v v' (λ_=>true) α w9)->Q .normal a w9) l 0 (λ_=>a)) (hm:prog.follows .mixedOrders=true:=by kernel_rfl) (hf:RG.fits .any l.toArray=true:=by kernel_rfl) (hE:(([s,s']++[n,n']).all λe=>decide (e<l.length))=true:=by kernel_rfl):
  (Code.region id l.toArray true).wp prog Q a W0:=
 RG.xBj [s,s'] [n,n'] (λL α W=>Hid (J2 w B n s n' s' t zs v v' L α W)) (λL L' α α' W hl ha h=>ι (J2.congr (hl n σ) (hl s σ) (ha n σ) (hl n' σ) (hl s' σ) (ha n' σ) h.o)) hm hf hE (ι (J2.start H0.o)) h
end
structure FoG (t:TypeId) (w:World) (ga gb gr gs:Nat) (ax bx rx sx:List Int) (W:World):Prop where
 ba:uR t W ga ax
 bb:uR t W gb bx
 br:uR t W gr rx
 bs:uR t W gs sx
 bel:ψ w W
 ne:ga≠gr/\gb≠gr/\gs≠gr/\ga≠gs/\gb≠gs/\w.heap.size<=gr/\w.heap.size<=gs
section
variable {t:TypeId} {w W W':World} {ga gb gr gs:Nat} {ax bx rx sx:List Int}
theorem FoG.drew (h:FoG t w ga gb gr gs ax bx rx sx W):FoG t w ga gb gr gs ax bx rx sx W.drew:=⟨h.ba,h.bb,h.br,h.bs,h.bel.drew,h.ne⟩
theorem FoG.rowR (h:FoG t w ga gb gr gs ax bx rx sx W) (xs:List Int):FoG t w ga gb gr gs ax bx xs sx (W.setRow gr (xG xs)):=by
 obtain⟨n1,n2,n3,n4,n5,n6,n7⟩:=h.ne;exact⟨(setRow_other _ _ _ _ n1).trans h.ba,(setRow_other _ _ _ _ n2).trans h.bb,setRow_heap _ _ _ _ _ _ h.br,(setRow_other _ _ _ _ n3).trans h.bs,below_setRow h.bel n6 _,h.ne⟩
theorem FoG.rowS (h:FoG t w ga gb gr gs ax bx rx sx W) (xs:List Int):FoG t w ga gb gr gs ax bx rx xs (W.setRow gs (xG xs)):=by
 obtain⟨n1,n2,n3,n4,n5,n6,n7⟩:=h.ne;exact⟨(setRow_other _ _ _ _ n4).trans h.ba,(setRow_other _ _ _ _ n5).trans h.bb,(setRow_other _ _ _ _ (Ne.symm n3)).trans h.br,setRow_heap _ _ _ _ _ _ h.bs,below_setRow h.bel n7 _,h.ne⟩
end
theorem xE9 {x z:List Int} (hx:x.length=5) (hz:z.length=5):prog.built 218 [(0,.agg (xG x)),(1,.agg (xG z))]=some (xG (x++z)):=by
 obtain⟨a,b,c,d,e,rfl⟩:=xDw hx;obtain⟨a',b',c',d',e',rfl⟩:=xDw hz
 kernel_rfl
theorem xPi (x y:List Int) (hx:x.length=5) (ux:yU x) (hy:y.length=5) (uy:yU y):∃v,Hid (∀W,Calls prog 246 #[.agg (xG x),.agg (xG y)] W λe w'=>e=.returned (.agg (xG v))/\ψ W w')/\v=xHf x y/\v.length=5/\yU v:=
 ⟨_,ι (λW=>xC4 _ _ W hx ux hy uy),rfl,xX8 _ _,yE6 _ _⟩
theorem xPh (x y:List Int) (hx:x.length=5) (ux:yU x) (hy:y.length=5) (uy:yU y):∃v,Hid (∀W,Calls prog 247 #[.agg (xG x),.agg (xG y)] W λe w'=>e=.returned (.agg (xG v))/\ψ W w')/\v=xHd x y/\v.length=5/\yU v:=
 ⟨_,ι (λW=>yCk _ _ W hx ux hy uy),rfl,xX5 _ _,yE4 _ _⟩
theorem xCr (x y:List Int) (hx:x.length=5) (ux:yU x) (hy:y.length=5) (uy:yU y):∃v,Hid (∀W,Calls prog 161 #[.agg (xG x),.agg (xG y)] W λe w'=>e=.returned (.agg (xG v))/\ψ W w')/\v=uN x y/\v.length=5/\yU v:=
 ⟨_,ι (λW=>rO _ _ W hx ux hy uy),rfl,vC _ _,tC _ _⟩
theorem xZj (x:List Int) (hx:x.length=5) (ux:yU x):∃v,Hid (∀W,Calls prog 248 #[.agg (xG x),.int .u32 121665] W λe w'=>e=.returned (.agg (xG v))/\ψ W w')/\v=xDy x 121665/\v.length=5/\yU v:=
 ⟨_,ι (λW=>xV3 _ _ W hx ux δ δ),rfl,vC _ _,tC _ _⟩
theorem xAp (x z:List Int) (h:x.length=5) (h2:z.length=5):Hid ((prog.info? 218).map (·.size)=some (xG (x++z)).size):=ι (yA5 h h2)
theorem psame (x z:List Int) (h:x.length=5) (h2:z.length=5):Hid ((xG (List.replicate 10 0)).size=(xG (x++z)).size):=ι (by rw[xV,xV,List.length_append,h,h2];rfl)
theorem xYy (u x1 z1 x2 z2:List Int) (w:World) (l_u:u.length=5) (u_u:yU u) (l_x1:x1.length=5) (u_x1:yU x1) (l_z1:z1.length=5) (u_z1:yU z1) (l_x2:x2.length=5) (u_x2:yU x2) (l_z2:z2.length=5) (u_z2:yU z2):
  Calls prog 159 #[.agg (xG u),.agg (xG (x1++z1)),.agg (xG (x2++z2))] w λe w'=>e=.returned (.tuple #[.agg (xG (stX2 x1 z1++stZ2 x1 z1)),.agg (xG (stX3 x1 z1 x2 z2++stZ3 u x1 z1 x2 z2))])/\ψ w w':=by
 obtain⟨su,C_su,E_su,l_su,u_su⟩:=xPi x1 z1 l_x1 u_x1 l_z1 u_z1;obtain⟨di,C_di,E_di,l_di,u_di⟩:=xPh x1 z1 l_x1 u_x1 l_z1 u_z1;obtain⟨s2,C_s2,E_s2,l_s2,u_s2⟩:=xCr su su l_su u_su l_su u_su;obtain⟨d2,C_d2,E_d2,l_d2,u_d2⟩:=xCr di di l_di u_di l_di u_di
 obtain⟨ee,C_ee,E_ee,l_ee,u_ee⟩:=xPh s2 d2 l_s2 u_s2 l_d2 u_d2;obtain⟨qd,C_qd,E_qd,l_qd,u_qd⟩:=xPh x2 z2 l_x2 u_x2 l_z2 u_z2;obtain⟨da,C_da,E_da,l_da,u_da⟩:=xCr qd su l_qd u_qd l_su u_su;obtain⟨qs,C_qs,E_qs,l_qs,u_qs⟩:=xPi x2 z2 l_x2 u_x2 l_z2 u_z2
 obtain⟨cb,C_cb,E_cb,l_cb,u_cb⟩:=xCr qs di l_qs u_qs l_di u_di;obtain⟨pl,C_pl,E_pl,l_pl,u_pl⟩:=xPi da cb l_da u_da l_cb u_cb;obtain⟨mi,C_mi,E_mi,l_mi,u_mi⟩:=xPh da cb l_da u_da l_cb u_cb;obtain⟨X2,C_X2,E_X2,l_X2,u_X2⟩:=xCr s2 d2 l_s2 u_s2 l_d2 u_d2
 obtain⟨sm,C_sm,E_sm,l_sm,u_sm⟩:=xZj ee l_ee u_ee;obtain⟨ad,C_ad,E_ad,l_ad,u_ad⟩:=xPi s2 sm l_s2 u_s2 l_sm u_sm;obtain⟨Z2,C_Z2,E_Z2,l_Z2,u_Z2⟩:=xCr ee ad l_ee u_ee l_ad u_ad;obtain⟨X3,C_X3,E_X3,l_X3,u_X3⟩:=xCr pl pl l_pl u_pl l_pl u_pl
 obtain⟨mm,C_mm,E_mm,l_mm,u_mm⟩:=xCr mi mi l_mi u_mi l_mi u_mi;obtain⟨Z3,C_Z3,E_Z3,l_Z3,u_Z3⟩:=xCr u mm l_u u_u l_mm u_mm;have I_u:=zP u l_u;have I_x1:=zP x1 l_x1;have I_z1:=zP z1 l_z1;have I_x2:=zP x2 l_x2;have I_z2:=zP z2 l_z2;have I_su:=zP su l_su;have I_di:=zP di l_di
 have I_s2:=zP s2 l_s2;have I_d2:=zP d2 l_d2;have I_ee:=zP ee l_ee;have I_qd:=zP qd l_qd;have I_da:=zP da l_da;have I_qs:=zP qs l_qs;have I_cb:=zP cb l_cb;have I_pl:=zP pl l_pl;have I_mi:=zP mi l_mi;have I_X2:=zP X2 l_X2;have I_sm:=zP sm l_sm;have I_ad:=zP ad l_ad
 have I_Z2:=zP Z2 l_Z2;have I_X3:=zP X3 l_X3;have I_mm:=zP mm l_mm;have I_Z3:=zP Z3 l_Z3;have Z_su:=vB su l_su;have Z_di:=vB di l_di;have Z_s2:=vB s2 l_s2;have Z_d2:=vB d2 l_d2;have Z_ee:=vB ee l_ee;have Z_qd:=vB qd l_qd;have Z_da:=vB da l_da;have Z_qs:=vB qs l_qs
 have Z_cb:=vB cb l_cb;have Z_pl:=vB pl l_pl;have Z_mi:=vB mi l_mi;have Z_X2:=vB X2 l_X2;have Z_sm:=vB sm l_sm;have Z_ad:=vB ad l_ad;have Z_Z2:=vB Z2 l_Z2;have Z_X3:=vB X3 l_X3;have Z_mm:=vB mm l_mm;have Z_Z3:=vB Z3 l_Z3;have IP:=xAp X2 Z2 l_X2 l_Z2;have IQ:=xAp X3 Z3 l_X3 l_Z3
 have ZP:=psame X2 Z2 l_X2 l_Z2;have ZQ:=psame X3 Z3 l_X3 l_Z3;have BP:=ι (xE9 l_X2 l_Z2);have BQ:=ι (xE9 l_X3 l_Z3);have HL1:=ι l_x1;have HL2:=ι l_x2
 have HE:Hid (stX2 x1 z1++stZ2 x1 z1=X2++Z2/\stX3 x1 z1 x2 z2++stZ3 u x1 z1 x2 z2=X3++Z3):=ι (by
  subst E_su E_di E_s2 E_d2 E_ee E_qd E_da E_qs E_cb E_pl E_mi E_X2 E_sm E_ad E_Z2 E_X3 E_mm E_Z3;exact⟨rfl,rfl⟩)
 clear E_su l_su u_su E_di l_di u_di E_s2 l_s2 u_s2 E_d2 l_d2 u_d2 E_ee l_ee u_ee E_qd l_qd u_qd E_da l_da u_da E_qs l_qs u_qs E_cb l_cb u_cb E_pl l_pl u_pl E_mi l_mi u_mi E_X2 l_X2 u_X2 E_sm l_sm u_sm E_ad l_ad u_ad E_Z2 l_Z2 u_Z2 E_X3 l_X3 u_X3 E_mm l_mm u_mm E_Z3 l_Z3 u_Z3 l_u u_u l_x1 u_x1 l_z1 u_z1 l_x2 u_x2 l_z2 u_z2
 rw[HE.o.1,HE.o.2];clear HE
 have H0:Hid (Bag w [(w.heap.size+1+1+1+1,218,List.replicate 10 0),(w.heap.size+1+1+1,218,List.replicate 10 0),(w.heap.size+1+1,218,x2++z2),(w.heap.size+1,218,x1++z1),(w.heap.size,214,u)] (((((w.alloc (.cells (xG u) 214)).alloc (.cells (xG (x1++z1)) 218)).alloc (.cells (xG (x2++z2)) 218)).alloc (.cells (xG (List.replicate 10 0)) 218)).alloc (.cells (xG (List.replicate 10 0)) 218))):=ι (by
  have h:Bag w [] w:=⟨Below.refl _ _,λ_ _ _ h=>by cases h⟩;have h2:=((((h.new 214 u).new 218 (x1++z1)).new 218 (x2++z2)).new 218 (List.replicate 10 0)).new 218 (List.replicate 10 0);simp only[vD] at h2;exact h2)
 obtain⟨g_s,hgs⟩:∃g,w.heap.size+1+1+1+1=g:=⟨_,rfl⟩;obtain⟨g_r,hgr⟩:∃g,w.heap.size+1+1+1=g:=⟨_,rfl⟩;obtain⟨g_q,hgq⟩:∃g,w.heap.size+1+1=g:=⟨_,rfl⟩;obtain⟨g_p,hgp⟩:∃g,w.heap.size+1=g:=⟨_,rfl⟩;obtain⟨g_u,hgu⟩:∃g,w.heap.size=g:=⟨_,rfl⟩
 have HG:Hid (w.heap.size+1+1+1+1=g_s/\w.heap.size+1+1+1=g_r/\w.heap.size+1+1=g_q/\w.heap.size+1=g_p/\w.heap.size=g_u):=ι ⟨hgs,hgr,hgq,hgp,hgu⟩;clear hgs hgr hgq hgp hgu;go_enter func159,ntmps159;go_upto_region 1 with fail
 rw[HG.o.1,HG.o.2.1,HG.o.2.2.1,HG.o.2.2.2.1,HG.o.2.2.2.2];rw[HG.o.1,HG.o.2.1,HG.o.2.2.1,HG.o.2.2.2.1,HG.o.2.2.2.2] at H0;refine(λ(h:∀W3,Hid (Bag w _ W3)->Code.wp _ _ _ _ W3)=>h _ H0) ?_;clear H0;intro W0 H0;refine det2 10 12 11 13 214 (List.replicate 5 0) su di H0 ?_;clear H0
 refine RG.aS ?_;refine aP ?_;refine RG.aS ?_;refine aP ?_;refine aC ?_;refine RG.aS ?_;refine aP ?_;refine RG.aS ?_;refine aP ?_;refine aC ?_;refine aN 4 12 ?_;refine aN 4 13 ?_;refine aT 4 10 ?_;refine aT 4 11 ?_;refine RG.jF (λα w4 hw4=>?_);have H0:=ι hw4.o.done;clear hw4
 simp only[Nat.zero_add,Nat.reduceAdd];generalize α 10=g_su at H0⊢;generalize α 11=g_di at H0⊢;go_upto_region 2 with fail
 refine det2 6 8 7 9 214 (List.replicate 5 0) s2 d2 H0 ?_;clear H0;refine aL ?_;refine aL ?_;refine aC ?_;refine aL ?_;refine aL ?_;refine aC ?_;refine aN 4 8 ?_;refine aN 4 9 ?_;refine aT 4 6 ?_;refine aT 4 7 ?_;refine RG.jF (λα w4 hw4=>?_);have H0:=ι hw4.o.done;clear hw4
 simp only[Nat.zero_add,Nat.reduceAdd];generalize α 6=g_s2 at H0⊢;generalize α 7=g_d2 at H0⊢;go_upto_region 3 with fail
 refine wp_region_lit ?_;refine wpList_load_row rfl _ _ rfl g_s2 rfl _ (xG s2) (0,0) _ (H0.o.get (g:=g_s2) (t:=214) (ws:=s2) σ) underlying214 rfl I_s2.o ?_
 refine wpList_load_row rfl _ _ rfl g_d2 rfl _ (xG d2) (0,0) _ (H0.o.get (g:=g_d2) (t:=214) (ws:=d2) σ) underlying214 rfl I_d2.o ?_;repeat go_step
 refine(C_ee.o _).mono ?_;rintro e w7 ⟨rfl,hb7⟩;have H7:=H0.o.below hb7
 have H9:Bag w ((w7.heap.size,214,ee)::[(g_d2,214,d2),(g_s2,214,s2),(g_di,214,di),(g_su,214,su),(g_s,218,List.replicate 10 0),(g_r,218,List.replicate 10 0),(g_q,218,x2++z2),(g_p,218,x1++z1),(g_u,214,u)]) ((w7.alloc (.cells (xG (List.replicate 5 0)) 214)).setRow w7.heap.size (xG ee)):=((H7.alloc _).far H7.1.size (λg t ws hm=>Nat.ne_of_lt (H7.lt hm)) _).cons H7.1.size (setRow_heap _ _ _ _ _ _ (xM _ _))
 simp only[]
 rename ∀(a:Act) (w:World),wpList _ _ _ _ a w->_=>hk
 refine hk _ _ ?_;clear hk;iterate 3 go_step
 refine wpList_store_row rfl _ _ _ rfl w7.heap.size (xG ee) rfl rfl _ (xG (List.replicate 5 0)) (xM _ _) I_ee.o Z_ee.o (yB _) ?_
 refine(λ(h:∀W3,Hid (Bag w ((w7.heap.size,214,ee)::[(g_d2,214,d2),(g_s2,214,s2),(g_di,214,di),(g_su,214,su),(g_s,218,List.replicate 10 0),(g_r,218,List.replicate 10 0),(g_q,218,x2++z2),(g_p,218,x1++z1),(g_u,214,u)]) W3)->wpList _ _ _ _ _ W3)=>h _ (ι H9)) ?_;clear H7 H9 H0 hb7
 generalize w7.heap.size=g_ee;intro W3 H0;go_upto_region 4 with fail
 refine xSw 7 8 214 (List.replicate 5 0) (da) H0 ?_;clear H0;refine RG.aS ?_;refine aP ?_;refine RG.aS ?_;refine aP ?_;refine aC ?_;refine aL ?_;refine aC ?_;refine aN 3 8 ?_;refine aT 3 7 ?_;refine RG.jF (λα w4 hw4=>?_);have H0:=ι hw4.o.done;clear hw4
 simp only[Nat.zero_add,Nat.reduceAdd];generalize α 7=g_da at H0⊢;go_upto_region 5 with fail
 refine xSw 7 8 214 (List.replicate 5 0) (cb) H0 ?_;clear H0;refine RG.aS ?_;refine aP ?_;refine RG.aS ?_;refine aP ?_;refine aC ?_;refine aL ?_;refine aC ?_;refine aN 3 8 ?_;refine aT 3 7 ?_;refine RG.jF (λα w4 hw4=>?_);have H0:=ι hw4.o.done;clear hw4
 simp only[Nat.zero_add,Nat.reduceAdd];generalize α 7=g_cb at H0⊢;go_upto_region 6 with fail
 refine det2 6 8 7 9 214 (List.replicate 5 0) pl mi H0 ?_;clear H0;refine aL ?_;refine aL ?_;refine aC ?_;refine aL ?_;refine aL ?_;refine aC ?_;refine aN 4 8 ?_;refine aN 4 9 ?_;refine aT 4 6 ?_;refine aT 4 7 ?_;refine RG.jF (λα w4 hw4=>?_);have H0:=ι hw4.o.done;clear hw4
 simp only[Nat.zero_add,Nat.reduceAdd];generalize α 6=g_pl at H0⊢;generalize α 7=g_mi at H0⊢;go_upto_region 7 with fail
 refine xSw 10 11 218 (List.replicate 10 0) (X2++Z2) H0 ?_;clear H0;refine aL ?_;refine aL ?_;refine aC ?_;refine aL ?_;refine aL ?_;refine aL ?_;refine aC ?_;refine aC ?_;refine aC ?_;apply RG.qW
 ·rfl
 ·rfl
 ·intro α L w9 h0 hcl xK hw9;refine wpList_buildTo rfl _ _ rfl _ rfl (xG (X2++Z2)) (by rw[List.map_toArray];exact BP.o) ?_;repeat go_step
  exact RG.xC hw9
 ·intro α;rfl
 refine aN 3 11 ?_;refine aT 3 10 ?_;refine RG.jF (λα w4 hw4=>?_);have yEj:=ι (And.intro ((hw4.o.2 rfl).1 g_r 218 (List.replicate 10 0) σ) ((hw4.o.2 rfl).1 g_s 218 (List.replicate 10 0) σ));have H0:=ι hw4.o.done;clear hw4;simp only[Nat.zero_add,Nat.reduceAdd]
 generalize α 10=g_a at yEj H0⊢;go_upto_region 8 with fail
 refine xSw 9 10 218 (List.replicate 10 0) (X3++Z3) H0 ?_;clear H0;refine aL ?_;refine aL ?_;refine aC ?_;refine aL ?_;refine aL ?_;refine aL ?_;refine aC ?_;refine aC ?_;apply RG.qW
 ·rfl
 ·rfl
 ·intro α L w9 h0 hcl xK hw9;refine wpList_buildTo rfl _ _ rfl _ rfl (xG (X3++Z3)) (by rw[List.map_toArray];exact BQ.o) ?_;repeat go_step
  exact RG.xC hw9
 ·intro α;rfl
 refine aN 3 10 ?_;refine aT 3 9 ?_;refine RG.jF (λα w4 hw4=>?_);have yEi:=ι (And.intro ((hw4.o.2 rfl).1 g_r 218 (List.replicate 10 0) σ) ((hw4.o.2 rfl).1 g_s 218 (List.replicate 10 0) σ));have H0:=ι hw4.o.done;clear hw4;simp only[Nat.zero_add,Nat.reduceAdd]
 generalize α 9=g_b at yEi H0⊢
 have H6:Hid (FoG 218 w g_a g_b g_r g_s (X2++Z2) (X3++Z3) (List.replicate 10 0) (List.replicate 10 0) w4):=ι (by
  have h1:=HG.o.1;have h2:=HG.o.2.1;have hb:=H0.o
  exact⟨hb.get (g:=g_a) (t:=218) (ws:=X2++Z2) σ,hb.get (g:=g_b) (t:=218) (ws:=X3++Z3) σ,hb.get (g:=g_r) (t:=218) (ws:=List.replicate 10 0) σ,hb.get (g:=g_s) (t:=218) (ws:=List.replicate 10 0) σ,hb.1,Ne.symm yEj.o.1,Ne.symm yEi.o.1,ω,Ne.symm yEj.o.2,Ne.symm yEi.o.2,ω,ω⟩)
 clear H0;go_upto_region 9 with fail
 refine RG.yD 4 (λL W=>Hid (FoG 218 w g_a g_b g_r g_s (X2++Z2) (X3++Z3) (if L 2 then X2++Z2 else List.replicate 10 0) (if L 3 then X3++Z3 else List.replicate 10 0) W)) (λL L' W h hI=>by rw[<-h 2 δ,<-h 3 δ];exact hI) κ κ rfl (ι H6.o.drew) ?_;clear H6;apply RG.xN
 ·rfl
 ·rfl
 ·intro L w9 h0 hcl xK hw9;refine wpList_load_row rfl _ _ rfl g_a rfl _ (xG (X2++Z2)) (0,0) _ hw9.o.ba underlying218 rfl IP.o ?_;repeat go_step
  refine RG.xC ?_;exact⟨xK,hw9⟩
 ·rfl
 apply RG.xN
 ·rfl
 ·rfl
 ·intro L w9 h0 hcl xK hw9;refine wpList_load_row rfl _ _ rfl g_b rfl _ (xG (X3++Z3)) (0,0) _ hw9.o.bb underlying218 rfl IQ.o ?_;repeat go_step
  refine RG.xC ?_;exact⟨xK,hw9⟩
 ·rfl
 apply RG.xN
 ·rfl
 ·rfl
 ·intro L w9 h0 hcl xK hw9;have hs9:=hw9.o;rw[h0,if_neg σ] at hs9;refine wpList_store_row rfl _ _ _ rfl g_r (xG (X2++Z2)) rfl rfl _ _ hs9.br IP.o ZP.o (yB _) ?_;repeat go_step
  refine RG.xC ?_;exact⟨xK,ι (hs9.rowR (X2++Z2))⟩
 ·rfl
 apply RG.xN
 ·rfl
 ·rfl
 ·intro L w9 h0 hcl xK hw9;have hs9:=hw9.o;rw[h0,if_neg (c:=false=true) σ] at hs9;refine wpList_store_row rfl _ _ _ rfl g_s (xG (X3++Z3)) rfl rfl _ _ hs9.bs IQ.o ZQ.o (yB _) ?_;repeat go_step
  refine RG.xC ?_;exact⟨xK,ι (hs9.rowS (X3++Z3))⟩
 ·rfl
 refine RG.xZ (λw9 hw9=>?_);rw[if_pos rfl,if_pos rfl] at hw9;go_wp2;refine bodyPost_ret (jL rfl _ _ g_r g_s _ _ _ _ (0,0) (0,0) _ rfl rfl hw9.o.br hw9.o.bs underlying218 rfl IP.o IQ.o) rfl ?_;exact⟨rfl,hw9.o.bel⟩
end Go.Proofs.FE
namespace Mailsack
structure LdS where
 x2:List Int
 z2:List Int
 x3:List Int
 z3:List Int
 sw:Bool
structure LdOk (s:LdS):Prop where
 l1:s.x2.length=5
 u1:yU s.x2
 l2:s.z2.length=5
 u2:yU s.z2
 l3:s.x3.length=5
 u3:yU s.x3
 l4:s.z3.length=5
 u4:yU s.z3
def bitL (k:ByteArray) (t:Nat):Bool:=Go.bits .and .u8 (yQ k (t / 8) / 2^(t % 8)) 1==1
def kF (s:LdS) (bit:Bool):LdS:=⟨if s.sw !=bit then s.x3 else s.x2,if s.sw !=bit then s.z3 else s.z2,if s.sw !=bit then s.x2 else s.x3,if s.sw !=bit then s.z2 else s.z3,bit⟩
def xW7 (u:List Int) (s:LdS):LdS:=⟨stX2 s.x2 s.z2,stZ2 s.x2 s.z2,stX3 s.x2 s.z2 s.x3 s.z3,stZ3 u s.x2 s.z2 s.x3 s.z3,s.sw⟩
def ldI (k:ByteArray) (u:List Int):Nat->LdS
 |0=>⟨[1,0,0,0,0],List.replicate 5 0,u,[1,0,0,0,0],false⟩
 |n+1=>xW7 u (kF (ldI k u n) (bitL k (254-n)))
theorem xW5 {s:LdS} (h:LdOk s) (b:Bool):LdOk (kF s b):=by
 obtain⟨h1,h2,h3,h4,h5,h6,h7,h8⟩:=h;unfold kF;cases hq:(s.sw !=b)
 ·exact⟨h1,h2,h3,h4,h5,h6,h7,h8⟩
 ·exact⟨h5,h6,h7,h8,h1,h2,h3,h4⟩
theorem xW6 (u:List Int) (s:LdS):LdOk (xW7 u s):=⟨vC _ _,tC _ _,vC _ _,tC _ _,vC _ _,tC _ _,vC _ _,tC _ _⟩
theorem one_u:yU [1,0,0,0,0]:=xDa ⟨δ,δ⟩ ⟨δ,δ⟩ ⟨δ,δ⟩ ⟨δ,δ⟩ ⟨δ,δ⟩
theorem ldI_ok (k:ByteArray) {u:List Int} (h:u.length=5) (hu:yU u):∀n,LdOk (ldI k u n)
 |0=>⟨rfl,one_u,by simp[ldI],xBu 5,h,hu,rfl,one_u⟩
 |_+1=>xW6 _ _
def yDh (s:LdS):ByteArray:=xC1 (uN (if s.sw then s.x3 else s.x2) (xHe (if s.sw then s.z3 else s.z2)))
def zY (k u:ByteArray):ByteArray:=yDh (ldI (xD4 k) (yBr u) 255)
theorem wE (k u:ByteArray):(zY k u).size=32:=xM9 _
def yL (k:ByteArray):ByteArray:=zY k xKc
end Mailsack
namespace Go.Proofs.FE
open Go.RowKit Mailsack MM BB SH
structure PtM (w:World) (g:Nat) (u p q:List Int) (W:World):Prop where
 bu:uR 214 W g u
 bp:uR 218 W (g+1) p
 bq:uR 218 W (g+1+1) q
 bel:ψ w W
 ge:w.heap.size<=g
section
variable {w W W':World} {g:Nat} {u p q:List Int}
theorem PtM.below (h:PtM w g u p q W) (hb:ψ W W'):PtM w g u p q W':=⟨h.bu.below hb,h.bp.below hb,h.bq.below hb,h.bel.trans (hb.mono h.bel.size),h.ge⟩
theorem PtM.drew (h:PtM w g u p q W):PtM w g u p q W.drew:=⟨h.bu,h.bp,h.bq,h.bel.drew,h.ge⟩
theorem PtM.rowP (h:PtM w g u p q W) (xs:List Int):PtM w g u xs q (W.setRow (g+1) (xG xs)):=by
 have hg:=h.ge;exact⟨(setRow_other _ _ _ _ ω).trans h.bu,setRow_heap _ _ _ _ _ _ h.bp,(setRow_other _ _ _ _ ω).trans h.bq,below_setRow h.bel ω _,hg⟩
theorem PtM.rowQ (h:PtM w g u p q W) (xs:List Int):PtM w g u p xs (W.setRow (g+1+1) (xG xs)):=by
 have hg:=h.ge;exact⟨(setRow_other _ _ _ _ ω).trans h.bu,(setRow_other _ _ _ _ ω).trans h.bp,setRow_heap _ _ _ _ _ _ h.bq,below_setRow h.bel ω _,hg⟩
end
theorem xI1 (k u:ByteArray) (w:World) (hk:k.size≠32):
  Calls prog 80 #[.string k,.string u] w λe w'=>e=.returned (.tuple #[.string ⟨#[]⟩,.bool false])/\ψ w w':=by
 have HC:=ι (xXn k w hk);clear hk;go_enter func80,ntmps80;go_wp2_with fail
 refine HC.o.mono ?_;rintro e w1 ⟨rfl,rfl⟩;go_wp2;go_ret2;exact⟨rfl,Below.refl _ _⟩
theorem xRy (k u:ByteArray) (w:World) (hk:k.size=32) (hu:u.size≠32):
  Calls prog 80 #[.string k,.string u] w λe w'=>e=.returned (.tuple #[.string ⟨#[]⟩,.bool false])/\ψ w w':=by
 have HC:=ι (xD3 k w hk);have HO:Hid (∀W,Calls prog 157 #[.string u] W λe w'=>e=.returned (.tuple #[.agg #[.int .u64 0,.int .u64 0,.int .u64 0,.int .u64 0,.int .u64 0],.bool false])/\ψ W w'):=ι (λW=>of_bad u W hu);clear hk hu;go_enter func80,ntmps80
 go_wp2_with fail
 refine HC.o.mono ?_;rintro e w1 ⟨rfl,hb1⟩;go_wp2_with fail
 refine(HO.o _).mono ?_;rintro e w2 ⟨rfl,hb2⟩;have HB:=ι ((hb1.trans (hb2.mono hb1.size)).alloc (hb1.trans (hb2.mono hb1.size)).size (.cells #[.int .u64 0,.int .u64 0,.int .u64 0,.int .u64 0,.int .u64 0] 214));clear hb1 hb2;go_wp2;go_ret2;exact⟨rfl,HB.o⟩
theorem xG0 (k u:ByteArray) (w:World) (hk:k.size=32) (hu:u.size=32):
  Calls prog 80 #[.string k,.string u] w λe w'=>e=.returned (.tuple #[.string (zY k u),.bool true])/\ψ w w':=by
 have HC:=ι (xD3 k w hk);have HO:=ι (λW=>of_any u W hu);have HKZ:Hid ((xD4 k).size=32):=ι ((xOk k).trans hk);have hsl:=yAg u;have hsu:=feOf_u u;have HP:Hid (∀n,n=255->zY k u=yDh (ldI (xD4 k) (yBr u) n)):=ι (λn hn=>by rw[hn];rfl);generalize zY k u=res at HP⊢
 generalize yBr u=su at HO hsl hsu HP;generalize xD4 k=ck at HC HKZ HP;have HOK:=ι (λn=>ldI_ok ck hsl hsu n);have Iu:=zP su hsl;have Zu:=vB su hsl;have HLU:=ι hsl;have HUU:=ι hsu
 have BQ:Hid (prog.built 218 [(0,.agg (xG su)),(1,.agg #[.int .u64 1,.int .u64 0,.int .u64 0,.int .u64 0,.int .u64 0])]=some (xG (su++[1,0,0,0,0]))):=ι (xE9 hsl (z:=[1,0,0,0,0]) rfl);clear hk hu hsl hsu;go_enter func80,ntmps80;go_wp2_with fail
 refine HC.o.mono ?_;rintro e w1 ⟨rfl,hb1⟩;go_wp2_with fail
 refine(HO.o _).mono ?_;rintro e w2 ⟨rfl,hb2⟩;have HB:=ι (hb1.trans (hb2.mono hb1.size));clear hb1 hb2 HC HO;have h1:=setRow_heap _ w2.heap.size _ (xG su) _ _ (xM w2 (.cells (xG (List.replicate 5 0)) 214))
 have hz1:((w2.alloc (.cells (xG (List.replicate 5 0)) 214)).setRow w2.heap.size (xG su)).heap.size=w2.heap.size+1:=by rw[setRow_size,vD]
 have hb1:ψ w ((w2.alloc (.cells (xG (List.replicate 5 0)) 214)).setRow w2.heap.size (xG su)):=below_setRow (HB.o.alloc HB.o.size _) HB.o.size _
 have h2:=xM ((w2.alloc (.cells (xG (List.replicate 5 0)) 214)).setRow w2.heap.size (xG su)) (.cells (xG ([1,0,0,0,0]++List.replicate 5 0)) 218);rw[hz1] at h2
 have H3:Hid (uR 214 (((w2.alloc (.cells (xG (List.replicate 5 0)) 214)).setRow w2.heap.size (xG su)).alloc (.cells (xG ([1,0,0,0,0]++List.replicate 5 0)) 218)) w2.heap.size su/\uR 218 (((w2.alloc (.cells (xG (List.replicate 5 0)) 214)).setRow w2.heap.size (xG su)).alloc (.cells (xG ([1,0,0,0,0]++List.replicate 5 0)) 218)) (w2.heap.size+1) ([1,0,0,0,0]++List.replicate 5 0)/\ψ w (((w2.alloc (.cells (xG (List.replicate 5 0)) 214)).setRow w2.heap.size (xG su)).alloc (.cells (xG ([1,0,0,0,0]++List.replicate 5 0)) 218))/\(((w2.alloc (.cells (xG (List.replicate 5 0)) 214)).setRow w2.heap.size (xG su)).alloc (.cells (xG ([1,0,0,0,0]++List.replicate 5 0)) 218)).heap.size=w2.heap.size+1+1/\w.heap.size<=w2.heap.size):=ι ⟨xO h1 _,h2,hb1.alloc (by rw[hz1];have:=HB.o.size;omega) _,by rw[vD,hz1],HB.o.size⟩
 clear h1 hz1 hb1 h2 HB;go_upto_region 8 with (refine wpList_store_row rfl _ _ _ rfl w2.heap.size (xG su) rfl rfl _ (xG (List.replicate 5 0)) (xM _ _) Iu.o Zu.o (yB _) ?_)
 refine(λ(h:∀W3,Hid (uR 214 W3 w2.heap.size su/\uR 218 W3 (w2.heap.size+1) ([1,0,0,0,0]++List.replicate 5 0)/\ψ w W3/\W3.heap.size=w2.heap.size+1+1/\w.heap.size<=w2.heap.size)->Code.wp _ _ _ _ W3)=>h _ H3) ?_;clear H3;generalize w2.heap.size=g;intro W3 H3;have HZ3:=ι H3.o.2.2.2.1
 have h4:=xM W3 (.cells (xG (List.replicate 10 0)) 218);rw[HZ3.o] at h4
 have H4:Hid (PtM w g su ([1,0,0,0,0]++List.replicate 5 0) (List.replicate 10 0) (W3.alloc (.cells (xG (List.replicate 10 0)) 218))):=ι ⟨xO H3.o.1 _,xO H3.o.2.1 _,h4,H3.o.2.2.1.alloc H3.o.2.2.1.size _,H3.o.2.2.2.2⟩;clear h4;refine wp_region_lit ?_
 refine wpList_load_row rfl _ _ rfl g rfl _ (xG su) (0,0) _ H3.o.1 underlying214 rfl Iu.o ?_;iterate 3 go_step
 refine wpList_buildTo rfl _ _ rfl _ rfl (xG (su++[1,0,0,0,0])) (by rw[List.map_toArray];exact BQ.o) ?_;iterate 3 go_step
 rw[HZ3.o];refine wpList_store_row rfl _ _ _ rfl (g+1+1) (xG (su++[1,0,0,0,0])) rfl rfl _ (xG (List.replicate 10 0)) H4.o.bq (yA5 HLU.o rfl) (by rw[xV,xV,List.length_append,HLU.o];rfl) (yB _) ?_;have H5:=H4.o.rowQ (su++[1,0,0,0,0])
 refine(λ(h:∀W3,Hid (PtM w g su ((ldI ck su 0).x2++(ldI ck su 0).z2) ((ldI ck su 0).x3++(ldI ck su 0).z3) W3)->wpList _ _ _ _ _ W3)=>h _ (ι H5)) ?_;clear H3 H4 H5 HZ3 BQ;intro W5 H5;have HS0:Hid ((ldI ck su 0).sw=false):=ι rfl;go_wp2_with fail
 go_loopw [11,12] (λsv tv W=>∃n m:Nat,n+m=255/\tv=.int .i64 ((m:Int)-1)/\sv=.bool (ldI ck su n).sw/\Hid (PtM w g su ((ldI ck su n).x2++(ldI ck su n).z2) ((ldI ck su n).x3++(ldI ck su n).z3) W)) (λ_ tv _=>(intOf tv+1).toNat)
 case atStart=>exact⟨0,255,rfl,rfl,by rw[HS0.o],H5⟩
 case round=>
  clear H5;obtain⟨n,m,hnm,rfl,rfl,hr⟩:=hrel;have hok:=HOK.o n
  by_cases hlt:0<m
  ·obtain⟨t,rfl⟩:∃t,m=t+1:=⟨m-1,ω⟩;have ht:(((t+1:Nat):Int))-1=(t:Int):=ω;rw[ht];have HN:Hid (ldI ck su (n+1)=xW7 su (kF (ldI ck su n) (bitL ck t))):=ι (by rw[show t=254-n by omega];rfl)
   have HBT:Hid (∀q r,q=t / 8->r=t % 8->bitL ck t=(bits .and .u8 (yQ ck q / 2^r) 1==1)):=ι (λq r hq hr=>by rw[hq,hr];rfl);obtain⟨q,hq⟩:∃q,q=t / 8:=⟨_,rfl⟩;obtain⟨r,hrr⟩:∃r,r=t % 8:=⟨_,rfl⟩
   replace HBT:=ι (HBT.o q r hq hrr)
   have hq4:q<32:=ω;have hr8:r<8:=ω;have hiq:(t:Int) / 8=(q:Int):=ω;have hir:(t:Int) % 8=(r:Int):=ω;have ht0:(0:Int)<=(t:Int):=ω;have ht255:(t:Int)<=255:=ω;have ix:=λw=>zL (P:=prog) underlying9 ck (q:Int) q rfl (by rw[HKZ.o];exact hq4) w;obtain⟨b0,b1⟩:=yR ck q
   generalize yQ ck q=c at ix b0 b1 HBT;obtain⟨bit,hbit⟩:∃bit,bitL ck t=bit:=⟨_,rfl⟩;rw[hbit] at HN HBT;clear hbit;obtain⟨sn,hsn⟩:∃s,ldI ck su (n+1)=s:=⟨_,rfl⟩;rw[hsn] at HN;have HSN:=ι hsn;clear hsn;generalize ldI ck su n=s at hr hok HN⊢;have HNM:=ι hnm;clear hq hrr ht hnm
   have hok2:=xW5 hok bit
   have HSW:Hid (∀W,Calls prog 158 #[.agg (xG (s.x2++s.z2)),.agg (xG (s.x3++s.z3)),.bool (s.sw !=bit)] W λe w'=>e=.returned (.tuple #[.agg (xG ((kF s bit).x2++(kF s bit).z2)),.agg (xG ((kF s bit).x3++(kF s bit).z3))])/\ψ W w'):=ι (λW=>by
    have h:=xLy s.x2 s.z2 s.x3 s.z3 (s.sw !=bit) W hok.l1 hok.u1 hok.l2 hok.u2 hok.l3 hok.u3 hok.l4 hok.u4;have e1:(if (s.sw !=bit)=true then s.x3++s.z3 else s.x2++s.z2)=(kF s bit).x2++(kF s bit).z2:=by unfold kF;cases (s.sw !=bit)<;>rfl
    have e2:(if (s.sw !=bit)=true then s.x2++s.z2 else s.x3++s.z3)=(kF s bit).x3++(kF s bit).z3:=by unfold kF;cases (s.sw !=bit)<;>rfl
    rw[e1,e2] at h;exact h)
   have HSB:Hid (sn.sw=bit):=ι (by rw[HN.o];rfl);have I1:=xAp s.x2 s.z2 hok.l1 hok.l2;have I2:=xAp s.x3 s.z3 hok.l3 hok.l4;have hsn4:sn.x2.length=5/\sn.z2.length=5/\sn.x3.length=5/\sn.z3.length=5:=by rw[HN.o];exact⟨vC _ _,vC _ _,vC _ _,vC _ _⟩
   have HST:Hid (∀W,Calls prog 159 #[.agg (xG su),.agg (xG ((kF s bit).x2++(kF s bit).z2)),.agg (xG ((kF s bit).x3++(kF s bit).z3))] W λe w'=>e=.returned (.tuple #[.agg (xG (sn.x2++sn.z2)),.agg (xG (sn.x3++sn.z3))])/\ψ W w'):=ι (λW=>by
    rw[HN.o];exact xYy su _ _ _ _ W HLU.o HUU.o hok2.l1 hok2.u1 hok2.l2 hok2.u2 hok2.l3 hok2.u3 hok2.l4 hok2.u4)
   obtain⟨k1,k2,k3,k4⟩:=hsn4;have I5:=xAp sn.x2 sn.z2 k1 k2;have I6:=xAp sn.x3 sn.z3 k3 k4;clear HN;generalize kF s bit=s' at HSW HST hok2;have I3:=xAp s'.x2 s'.z2 hok2.l1 hok2.l2;have I4:=xAp s'.x3 s'.z3 hok2.l3 hok2.l4
   have Z1:Hid ((xG (s.x2++s.z2)).size=(xG (s'.x2++s'.z2)).size):=ι (by rw[xV,xV,List.length_append,List.length_append,hok.l1,hok.l2,hok2.l1,hok2.l2])
   have Z2:Hid ((xG (s.x3++s.z3)).size=(xG (s'.x3++s'.z3)).size):=ι (by rw[xV,xV,List.length_append,List.length_append,hok.l3,hok.l4,hok2.l3,hok2.l4])
   have Z3:Hid ((xG (s'.x2++s'.z2)).size=(xG (sn.x2++sn.z2)).size):=ι (by rw[xV,xV,List.length_append,List.length_append,k1,k2,hok2.l1,hok2.l2])
   have Z4:Hid ((xG (s'.x3++s'.z3)).size=(xG (sn.x3++sn.z3)).size):=ι (by rw[xV,xV,List.length_append,List.length_append,k3,k4,hok2.l3,hok2.l4]);clear hok hok2 k1 k2 k3 k4;generalize hp0:s.x2++s.z2=p0 at hr HSW I1 Z1;generalize hq0:s.x3++s.z3=q0 at hr HSW I2 Z2
   generalize hp1:s'.x2++s'.z2=p1 at HSW HST I3 Z1 Z3;generalize hq1:s'.x3++s'.z3=q1 at HSW HST I4 Z2 Z4;generalize hp2:sn.x2++sn.z2=p2 at HST I5 Z3;generalize hq2:sn.x3++sn.z3=q2 at HST I6 Z4;have HPQ:=ι (And.intro hp2 hq2);clear hp0 hq0 hp1 hq1 hp2 hq2
   generalize s.sw=sw at HSW⊢;go_upto_region 14 with fail
   rw[<-HBT.o];clear HBT ix b0 b1 hiq hir;refine wp_region_lit ?_;refine wpList_load_row rfl _ _ rfl (g+1) rfl _ (xG p0) (0,0) _ hr.o.bp underlying218 rfl I1.o ?_;refine wpList_load_row rfl _ _ rfl (g+1+1) rfl _ (xG q0) (0,0) _ hr.o.bq underlying218 rfl I2.o ?_
   repeat go_step
   refine(HSW.o _).mono ?_;rintro e w6 ⟨rfl,hb6⟩;have H6:=ι (hr.o.below hb6);clear hr hb6;simp only[]
   rename ∀(a:Act) (w:World),wpList _ _ _ _ a w->_=>hk
   refine hk _ _ ?_;clear hk;iterate 9 go_step
   refine wpList_store_row rfl _ _ _ rfl (g+1) (xG p1) rfl rfl _ _ H6.o.bp I3.o Z1.o (yB _) ?_;have H7:=ι (H6.o.rowP p1);refine wpList_store_row rfl _ _ _ rfl (g+1+1) (xG q1) rfl rfl _ _ H7.o.bq I4.o Z2.o (yB _) ?_;have H8:=ι (H7.o.rowQ q1);go_upto_region 16 with fail
   refine(λ(h:∀W3,Hid (PtM w g su p1 q1 W3)->Code.wp _ _ _ _ W3)=>h _ H8) ?_;clear H6 H7 H8;intro W8 H8;refine wp_region_lit ?_;refine wpList_load_row rfl _ _ rfl g rfl _ (xG su) (0,0) _ H8.o.bu underlying214 rfl Iu.o ?_
   refine wpList_load_row rfl _ _ rfl (g+1) rfl _ (xG p1) (0,0) _ H8.o.bp underlying218 rfl I3.o ?_;refine wpList_load_row rfl _ _ rfl (g+1+1) rfl _ (xG q1) (0,0) _ H8.o.bq underlying218 rfl I4.o ?_;repeat go_step
   refine(HST.o _).mono ?_;rintro e w6 ⟨rfl,hb6⟩;have H9:=ι (H8.o.below hb6);clear H8 hb6;simp only[]
   rename ∀(a:Act) (w:World),wpList _ _ _ _ a w->_=>hk
   refine hk _ _ ?_;clear hk;iterate 9 go_step
   refine wpList_store_row rfl _ _ _ rfl (g+1) (xG p2) rfl rfl _ _ H9.o.bp I5.o Z3.o (yB _) ?_;have H10:=ι (H9.o.rowP p2);refine wpList_store_row rfl _ _ _ rfl (g+1+1) (xG q2) rfl rfl _ _ H10.o.bq I6.o Z4.o (yB _) ?_;have H11:=ι (H10.o.rowQ q2)
   refine(λ(h:∀W3,Hid (PtM w g su p2 q2 W3)->wpList _ _ _ _ _ W3)=>h _ H11) ?_;clear H9 H10 H11 HSW HST;intro W11 H11;go_wp2;refine⟨⟨n+1,t,by have:=HNM.o;omega,rfl,by rw[HSN.o,HSB.o],?_⟩,by simp[intOf]⟩;rw[HSN.o,HPQ.o.1,HPQ.o.2];exact H11
  ·obtain rfl:m=0:=ω;have hn:n=255:=ω;have HE:=ι (HP.o n hn);have hm1:((0:Nat):Int)-1=-1:=ω;rw[hm1];generalize ldI ck su n=s at hr hok HE⊢;have HSW:=ι (λW=>xLy s.x2 s.z2 s.x3 s.z3 s.sw W hok.l1 hok.u1 hok.l2 hok.u2 hok.l3 hok.u3 hok.l4 hok.u4)
   have HDE:Hid (yDh s=xC1 (uN (if s.sw then s.x3 else s.x2) (xHe (if s.sw then s.z3 else s.z2)))):=ι rfl;have e1:(if s.sw=true then s.x3++s.z3 else s.x2++s.z2)=(if s.sw then s.x3 else s.x2)++(if s.sw then s.z3 else s.z2):=by cases s.sw<;>rfl
   rw[e1] at HSW
   have lx:(if s.sw then s.x3 else s.x2).length=5/\yU (if s.sw then s.x3 else s.x2):=by
    cases s.sw
    ·exact⟨hok.l1,hok.u1⟩
    ·exact⟨hok.l3,hok.u3⟩
   have lz:(if s.sw then s.z3 else s.z2).length=5/\yU (if s.sw then s.z3 else s.z2):=by
    cases s.sw
    ·exact⟨hok.l2,hok.u2⟩
    ·exact⟨hok.l4,hok.u4⟩
   have I1:=xAp s.x2 s.z2 hok.l1 hok.l2;have I2:=xAp s.x3 s.z3 hok.l3 hok.l4;have HZ0:Hid ((xG (s.x2++s.z2)).size=10):=ι (by rw[xV,List.length_append,hok.l1,hok.l2]);generalize (if s.sw then s.x3 else s.x2)=x at HSW HDE lx
   generalize (if s.sw then s.z3 else s.z2)=z at HSW HDE lz;have I3:=xAp x z lx.1 lz.1;have Z1:Hid ((xG (s.x2++s.z2)).size=(xG (x++z)).size):=ι (by rw[HZ0.o,xV,List.length_append,lx.1,lz.1]);have Ix:=zP x lx.1;have Iz:=zP z lz.1;have HLX:=ι lx.1
   have HIV:=ι (λW=>xSi z W lz.1 lz.2);have HMU:=ι (λW=>rO x (xHe z) W lx.1 lx.2 (xX7 z) (yE5 z));have HBY:=ι (λW=>xXu (uN x (xHe z)) W (vC _ _) (tC _ _));rw[<-HDE.o,<-HE.o] at HBY;generalize uN x (xHe z)=mv at HMU HBY;generalize xHe z=iv at HIV HMU
   generalize (if s.sw=true then s.x2++s.z2 else s.x3++s.z3)=y0 at HSW;generalize s.x2++s.z2=p0 at hr HSW I1 Z1;generalize s.x3++s.z3=q0 at hr HSW I2;clear HE HDE hok lx lz hn hnm hlt HP HOK e1 HZ0 hm1;generalize s.sw=sw at HSW⊢;go_upto_region 17 with fail
   refine wp_region_lit ?_;refine wpList_load_row rfl _ _ rfl (g+1) rfl _ (xG p0) (0,0) _ hr.o.bp underlying218 rfl I1.o ?_;refine wpList_load_row rfl _ _ rfl (g+1+1) rfl _ (xG q0) (0,0) _ hr.o.bq underlying218 rfl I2.o ?_;repeat go_step
   refine(HSW.o _).mono ?_;rintro e w6 ⟨rfl,hb6⟩;have H6:=ι (hr.o.below hb6);clear hr hb6;simp only[]
   rename ∀(a:Act) (w:World),wpList _ _ _ _ a w->_=>hk
   refine hk _ _ ?_;clear hk;iterate 9 go_step
   refine wpList_store_row rfl _ _ _ rfl (g+1) (xG (x++z)) rfl rfl _ _ H6.o.bp I3.o Z1.o (yB _) ?_;have H7:=ι (H6.o.rowP (x++z));go_upto_region 18 with fail
   refine(λ(h:∀W3,Hid (PtM w g su (x++z) q0 W3)->Code.wp _ _ _ _ W3)=>h _ H7) ?_;clear H6 H7 HSW;intro W7 H7;refine RG.xQ (λW=>Hid (PtM w g su (x++z) q0 W)) κ κ (ι H7.o.drew) ?_;clear H7;refine RG.dS ?_;apply RG.xJ
   ·intro w9 hw9;refine zX rfl _ _ rfl (g+1) 0 rfl (xG x) _ (xCx hw9.o.bp) underlying214 rfl Ix.o ?_;repeat go_step
    exact RG.xC hw9
   ·rfl
   refine RG.dS ?_;apply RG.xJ
   ·intro w9 hw9;refine zX rfl _ _ rfl (g+1) 5 rfl (xG z) _ (xCw hw9.o.bp HLX.o) underlying214 rfl Iz.o ?_;repeat go_step
    exact RG.xC hw9
   ·rfl
   apply RG.xJ
   ·intro w9 hw9;repeat go_step
    refine(HIV.o _).mono ?_;rintro e w10 ⟨rfl,zF⟩;simp only[];repeat go_step
    refine RG.xC ?_;exact ι (hw9.o.below zF)
   ·rfl
   apply RG.xJ
   ·intro w9 hw9;repeat go_step
    refine(HMU.o _).mono ?_;rintro e w10 ⟨rfl,zF⟩;simp only[];repeat go_step
    refine RG.xC ?_;exact ι (hw9.o.below zF)
   ·rfl
   apply RG.xJ
   ·intro w9 hw9;repeat go_step
    refine(HBY.o _).mono ?_;rintro e w10 ⟨rfl,zF⟩;simp only[];repeat go_step
    refine RG.xC ?_;exact ι (hw9.o.below zF)
   ·rfl
   iterate 2 refine RG.dS ?_
   refine RG.xS (λw9 hw9=>?_);go_wp2;go_ret2;exact⟨rfl,hw9.o.bel⟩
theorem rF (k:ByteArray) (w:World) (hk:k.size=32):
  Calls prog 79 #[.string k] w λe w'=>e=.returned (.tuple #[.string (yL k),.bool true])/\ψ w w':=by
 have HP:Hid (∀W,Calls prog 80 #[.string k,.string xKc] W λe w'=>e=.returned (.tuple #[.string (yL k),.bool true])/\ψ W w'):=ι (λW=>xG0 k xKc W hk xT7);have HB:=ι (xQs w);generalize yL k=res at HP⊢;generalize xKc=bl at HP HB;clear hk;go_enter func79,ntmps79
 go_wp2_with fail
 refine HB.o.mono ?_;rintro e w1 ⟨rfl,hb1⟩;have H1:=ι hb1;go_wp2_with fail
 refine(HP.o _).mono ?_;rintro e w2 ⟨rfl,hb2⟩;have H2:=ι (H1.o.trans (hb2.mono H1.o.size));clear hb1 hb2 H1;go_wp2;go_ret2;exact⟨rfl,H2.o⟩
end Go.Proofs.FE
namespace Mailsack
def xGm (n:Int):Int:=if n<0∨700<n then 0 else if 2+n<=128 then 128 else if 2+n<=256 then 256 else if 2+n<=512 then 512 else 704
end Mailsack
namespace Go.Proofs.SE
open Go.RowKit Mailsack MM BB SH
structure yC2 (w:World):Prop where
 t:∃t fr,w.heap[0]?=some (.cells #[.int .i64 128,.int .i64 256,.int .i64 512,.int .i64 704] t fr)
theorem yC2.below {w w':World} {B:Nat} (h:yC2 w) (hb:Below B w w') (hB:w.heap.size<=B):yC2 w':=by
 obtain⟨t,fr,h1⟩:=h.t;exact⟨t,fr,xD h1 hb (Nat.lt_of_lt_of_le (xH h1) hB)⟩
theorem xGn (n:Int) (w:World) (hC:yC2 w):
  Calls prog 167 #[.int .i64 n] w λe w'=>e=.returned (.int .i64 (xGm n))/\w'=w:=by
 by_cases h1:n<0
 ·have HR:Hid (xGm n=0):=ι (by unfold xGm;rw[if_pos (.inl h1)]);rw[HR.o];go_enter func167,ntmps167;go_wp2;go_ret;exact⟨rfl,rfl⟩
 ·by_cases h2:700<n
  ·have HR:Hid (xGm n=0):=ι (by unfold xGm;rw[if_pos (.inr h2)]);rw[HR.o];go_enter func167,ntmps167;go_wp2;go_ret;exact⟨rfl,rfl⟩
  ·have HR:Hid (xGm n=if 2+n<=128 then 128 else if 2+n<=256 then 256 else if 2+n<=512 then 512 else 704):=ι (by unfold xGm;rw[if_neg ω]);obtain⟨c,hc⟩:∃c,xGm n=c:=⟨_,rfl⟩;rw[hc];rw[hc] at HR;clear hc;obtain⟨t,fr,ht⟩:=hC.t
   obtain⟨cs,hcs⟩:∃cs:Array Value,#[.int .i64 128,.int .i64 256,.int .i64 512,.int .i64 704]=cs:=⟨_,rfl⟩;have HI:Hid ((prog.info? 316).map (·.size)=some cs.size):=ι (by rw[<-hcs];kernel_rfl);rw[hcs] at ht;have HT:=ι ht
   have HX:Hid (cs[0]?=some (.int .i64 128)/\cs[1]?=some (.int .i64 256)/\cs[2]?=some (.int .i64 512)/\cs[3]?=some (.int .i64 704)):=ι (by rw[<-hcs];exact⟨rfl,rfl,rfl,rfl⟩);clear hcs;clear ht hC;go_enter func167,ntmps167
   go_wp2_with (refine wpList_load_row rfl _ _ rfl 0 rfl _ _ fr _ HT.o underlying316 rfl HI.o ?_)
   go_loopw [12] (λiv W=>∃k:Nat,k<=3/\iv=.int .i64 k/\Hid ((1<=k->128<2+n)/\(2<=k->256<2+n)/\(3<=k->512<2+n))/\W=w) (λiv _=>4- (intOf iv).toNat)
   case atStart=>exact⟨0,ω,rfl,ι ⟨λh=>by omega,λh=>by omega,λh=>by omega⟩,rfl⟩
   case round=>
    obtain⟨k,hk,rfl,hu,rfl⟩:=hrel;have ix:=λ(v:Value) hv=>λW=>wV (P:=prog) underlying316 underlying3 κ cs v k ω hv W;obtain⟨u1,u2,u3⟩:=hu.o
    match k,hk with
    |0,_=>
     have i0:∀W,(Instr.index 316 (.agg cs) (.int .i64 0)).run prog W=.ok (.int .i64 128) W:=ix _ HX.o.1;clear ix u1 u2 u3 hu
     by_cases ht:2+n<=128
     ·have HC:Hid (c=128):=ι (by rw[HR.o,if_pos ht]);go_wp2;go_ret;rw[HC.o];exact⟨rfl,rfl⟩
     ·have HN:Hid ((1<=0+1->128<2+n)/\(2<=0+1->256<2+n)/\(3<=0+1->512<2+n)):=ι ⟨λ_=>by omega,λh=>by omega,λh=>by omega⟩;go_wp2;exact⟨⟨0+1,ω,by go_num,HN,trivial⟩,by simp[intOf]⟩
    |1,_=>
     have i0:∀W,(Instr.index 316 (.agg cs) (.int .i64 1)).run prog W=.ok (.int .i64 256) W:=ix _ HX.o.2.1;have u1:=u1 ω;clear ix u2 u3 hu
     by_cases ht:2+n<=256
     ·have HC:Hid (c=256):=ι (by rw[HR.o,if_neg ω,if_pos ht]);go_wp2;go_ret;rw[HC.o];exact⟨rfl,rfl⟩
     ·have HN:Hid ((1<=1+1->128<2+n)/\(2<=1+1->256<2+n)/\(3<=1+1->512<2+n)):=ι ⟨λ_=>by omega,λ_=>by omega,λh=>by omega⟩;go_wp2;exact⟨⟨1+1,ω,by go_num,HN,trivial⟩,by simp[intOf]⟩
    |2,_=>
     have i0:∀W,(Instr.index 316 (.agg cs) (.int .i64 2)).run prog W=.ok (.int .i64 512) W:=ix _ HX.o.2.2.1;have u2:=u2 ω;clear ix u1 u3 hu
     by_cases ht:2+n<=512
     ·have HC:Hid (c=512):=ι (by rw[HR.o,if_neg ω,if_neg ω,if_pos ht]);go_wp2;go_ret;rw[HC.o];exact⟨rfl,rfl⟩
     ·have HN:Hid ((1<=2+1->128<2+n)/\(2<=2+1->256<2+n)/\(3<=2+1->512<2+n)):=ι ⟨λ_=>by omega,λ_=>by omega,λ_=>by omega⟩;go_wp2;exact⟨⟨2+1,ω,by go_num,HN,trivial⟩,by simp[intOf]⟩
    |3,_=>
     have i0:∀W,(Instr.index 316 (.agg cs) (.int .i64 3)).run prog W=.ok (.int .i64 704) W:=ix _ HX.o.2.2.2;have u3:=u3 ω;clear ix u1 u2 hu;have ht:2+n<=704:=ω;have HC:Hid (c=704):=ι (by rw[HR.o,if_neg ω,if_neg ω,if_neg ω]);go_wp2;go_ret;rw[HC.o];exact⟨rfl,rfl⟩
end Go.Proofs.SE
namespace Mailsack
theorem xE7 {n:Nat} (h:n<=700):∃c:Nat,xGm (n:Int)=(c:Int)/\2+n<=c/\c<=704/\128<=c:=by
 unfold xGm;rw[if_neg ω];split
 ·exact⟨128,rfl,ω,ω,ω⟩
 ·split
  ·exact⟨256,rfl,ω,ω,ω⟩
  ·split
   ·exact⟨512,rfl,ω,ω,ω⟩
   ·exact⟨704,rfl,ω,ω,ω⟩
def yD4 (s:Bs) (c:Nat):Bs:=oct (s.length:Int)::oct ((s.length:Int) / 256)::(s++xP (c-2-s.length))
theorem xJg (s:Bs) {c:Nat} (h:2+s.length<=c):(yD4 s c).length=c:=by
 unfold yD4;rw[List.length_cons,List.length_cons,List.length_append,yO];omega
def xG2 (s:ByteArray):ByteArray:=bsA (yD4 s.data.toList (xGm s.size).toNat)
theorem xDq {s:ByteArray} (h:s.size<=700):(xG2 s).size=(xGm s.size).toNat:=by
 obtain⟨c,hc,h1,-⟩:=xE7 h;unfold xG2;rw[yN,xJg];rw[hc,Int.toNat_natCast,Array.length_toList];exact h1
end Mailsack
namespace Go.Proofs.SE
open Go.RowKit Mailsack MM BB SH SV
theorem xXh {W:World} {g:Nat} {l:Bs} (h:wK W g l) (ty:TypeId) (off dLen dCap:Nat) (s:ByteArray) (h1:s.size<=dLen) (h2:off+s.size<=l.length):
  (Builtin.copy_ #[125,9] ty #[.slice (some ⟨g,off,none⟩) dLen dCap,.string s]).run prog W=.ok (goInt s.size) (W.setRow g (yE (l.take off++s.data.toList++l.drop (off+s.size)))):=by
 have h3:=Lib.run_copy_row_string (P:=prog) W 125 9 ty 5 g off dLen dCap s (yE l) _ underlying125 κ h.blk h1 (by rw[uO];omega)
 have h4:((yE l).toList.take off++Lib.byteCells s.data.toList++(yE l).toList.drop (off+s.size)).toArray=yE (l.take off++s.data.toList++l.drop (off+s.size)):=by
  simp[yE,Lib.byteCells,List.map_drop,List.map_take]
 rw[h3,h4]
theorem yD3 (s:ByteArray) (w:World) (hs:700<s.size) (hC:yC2 w):
  Calls prog 186 #[.string s] w λe w'=>e=.returned (.tuple #[.string ⟨#[]⟩,.int .i64 4])/\w'=w:=by
 have HK:=ι (xGn (s.size:Int) w hC);rw[show xGm (s.size:Int)=0 by unfold xGm;rw[if_pos ω]] at HK;clear hs hC;go_enter func186,ntmps186;go_wp2_with fail
 refine HK.o.mono ?_;rintro e w1 ⟨rfl,rfl⟩;go_wp2;go_ret2;exact⟨rfl,rfl⟩
theorem pad_ok (s:ByteArray) (w:World) (hs:s.size<=700) (hC:yC2 w):
  Calls prog 186 #[.string s] w λe w'=>e=.returned (.tuple #[.string (xG2 s),.int .i64 0])/\ψ w w':=by
 have HK:=ι (xGn (s.size:Int) w hC);obtain⟨c,hc,h1,h2,h3⟩:=xE7 hs;have hc3:¬(c=2):=ω;have HP:Hid (xG2 s=bsA (yD4 s.data.toList c)):=ι (by unfold xG2;rw[hc,Int.toNat_natCast]);rw[hc] at HK;rw[HP.o];clear HP;have hsl:s.data.toList.length=s.size:=Array.length_toList
 have HMK:=ι (λW:World=>made W c c ν ω);have HB0:=ι (And.intro (show wK (w.alloc (.cells (yE (xP c)) 5)) w.heap.size (xP c) from xM _ _) (φ w (.cells (yE (xP c)) 5)));have hc0:((c:Int)==0)=false:=by simp;omega
 have hc1:(0:Int)<(c:Int):=ω;have hc2:(1:Int)<(c:Int):=ω;clear hc hC;go_enter func186,ntmps186;go_wp2_with fail
 refine HK.o.mono ?_;rintro e w1 ⟨rfl,hw1⟩;rw[hw1];clear hw1 w1 HK;have hmk:=HMK.o;go_upto_region 5 with fail
 obtain⟨w1,hw1⟩:∃w1,w.alloc (.cells (yE (xP c)) 5)=w1:=⟨_,rfl⟩;rw[hw1] at HB0;rw[hw1];clear hw1 hmk HMK;have q0:=HB0.o.1.cell (i:=0) (by rw[yO];omega);have q1:=HB0.o.1.cell (i:=1) (by rw[yO];omega);have y0:=HB0.o.1.free 0;have y1:=HB0.o.1.free 1
 generalize (((xP c).getD 0 0).toNat:Int)=a0 at q0;generalize (((xP c).getD 1 0).toNat:Int)=a1 at q1
 have HB2:Hid (wK ((w1.setCell ⟨w.heap.size,0,none⟩ (.int .u8 ((s.size:Int) % 256))).setCell ⟨w.heap.size,1,none⟩ (.int .u8 ((s.size:Int) / 256))) w.heap.size (((xP c).set 0 (oct (s.size:Int))).set 1 (oct ((s.size:Int) / 256)))):=ι (by
  have:=(HB0.o.1.put 0 (s.size:Int)).put 1 ((s.size:Int) / 256);rw[show(s.size:Int) / 256 % 256=(s.size:Int) / 256 by omega] at this;exact this)
 have HW2:=ι ((HB0.o.2.setCell (p:=⟨w.heap.size,0,none⟩) ν (.int .u8 ((s.size:Int) % 256))).setCell (p:=⟨w.heap.size,1,none⟩) ν (.int .u8 ((s.size:Int) / 256)));go_upto_region 6 with fail
 clear q0 q1 y0 y1 HB0;obtain⟨w2,hw2⟩:∃w2,(w1.setCell ⟨w.heap.size,0,none⟩ (.int .u8 ((s.size:Int) % 256))).setCell ⟨w.heap.size,1,none⟩ (.int .u8 ((s.size:Int) / 256))=w2:=⟨_,rfl⟩;rw[hw2] at HB2 HW2⊢;clear hw2
 have HCP:=ι (xXh HB2.o 3 2 (c-2) (c-2) s ω (by rw[List.length_set,List.length_set,yO];omega))
 have HB3:=ι (HB2.o.row (((((xP c).set 0 (oct (s.size:Int))).set 1 (oct ((s.size:Int) / 256))).take 2)++s.data.toList++((((xP c).set 0 (oct (s.size:Int))).set 1 (oct ((s.size:Int) / 256))).drop (2+s.size))))
 have HW3:=ι (below_setRow HW2.o ν (yE (((((xP c).set 0 (oct (s.size:Int))).set 1 (oct ((s.size:Int) / 256))).take 2)++s.data.toList++((((xP c).set 0 (oct (s.size:Int))).set 1 (oct ((s.size:Int) / 256))).drop (2+s.size)))))
 have HL:Hid ((((((xP c).set 0 (oct (s.size:Int))).set 1 (oct ((s.size:Int) / 256))).take 2)++s.data.toList++((((xP c).set 0 (oct (s.size:Int))).set 1 (oct ((s.size:Int) / 256))).drop (2+s.size)))=yD4 s.data.toList c):=ι (by
  obtain⟨m,rfl⟩:∃m,c=m+2:=⟨c-2,ω⟩;unfold yD4 xP
  rw[List.replicate_succ,List.replicate_succ,List.set_cons_zero,List.set_cons_succ,List.set_cons_zero,hsl,show 2+s.size=s.size+1+1 by omega,List.drop_succ_cons,List.drop_succ_cons,List.drop_replicate,show m+2-2-s.size=m-s.size by omega]
  rfl)
 rw[HL.o] at HB3 HW3 HCP;refine wp_region_lit ?_;iterate 9 go_step
 refine Lib.wpList_copy_run _ rfl _ _ _ _ rfl _ _ rfl rfl HCP.o ?_;clear HCP HB2 HW2 HL;generalize w2.setRow w.heap.size (yE (yD4 s.data.toList c))=w3 at HB3 HW3⊢;have ht:=xFm HB3.o c c (by rw[xJg _ ω];exact Nat.le_refl _)
 rw[List.take_of_length_le (by rw[xJg _ ω];exact Nat.le_refl _)] at ht;clear HB3;go_wp2;go_ret2;exact⟨rfl,HW3.o⟩
end Go.Proofs.SE
namespace Go.Proofs.BB
open Go.RowKit Mailsack MM
def wJ (l:List Bs):Array Value:=(l.map xR).toArray
theorem xMa (l:List Bs):(wJ l).size=l.length:=by simp[wJ]
theorem xQb {l:List Bs} {i:Nat} {x:Bs} (h:l[i]?=some x):(wJ l)[i]?=some (xR x):=by
 simp[wJ,h]
theorem yAi (l:List Bs) (i:Nat) (x:Bs):(wJ l).setIfInBounds i (xR x)=wJ (l.set i x):=by
 simp[wJ,List.map_set]
theorem xXc (n:Nat):madeCells (Value.cells (.string ⟨#[]⟩)) (n*1)=wJ (List.replicate n []):=by
 apply Array.ext_getElem?;intro i
 by_cases h:i<n
 ·have:(wJ (List.replicate n []))[i]?=some (xR []):=xQb (by simp[h]);rw[this];simp[madeCells,Value.cells,h,Nat.mod_one,xR]
 ·rw[Array.getElem?_eq_none (by simp[madeCells];omega),Array.getElem?_eq_none (by rw[xMa];simp;omega)]
def kV (W:World) (g:Nat) (l:List Bs):Prop:=W.heap[g]?=some (.cells (wJ l) 9 (0,0))
theorem kV.blk {W:World} {g:Nat} {l:List Bs} (h:kV W g l):W.heap[g]?=some (.cells (wJ l) 9 (0,0)):=h
theorem kV.lt {W:World} {g:Nat} {l:List Bs} (h:kV W g l):g<W.heap.size:=xH h.blk
theorem kV.cell {W:World} {g:Nat} {l:List Bs} (h:kV W g l) {i:Nat} {x:Bs} (hi:l[i]?=some x):W.cell? ⟨g,i,none⟩=some (xR x):=by rw[xA h.blk,xQb hi]
theorem kV.free {W:World} {g:Nat} {l:List Bs} (h:kV W g l) (i:Nat):W.frozen? ⟨g,i,none⟩=false:=xB h.blk i
theorem kV.put {W:World} {g:Nat} {l:List Bs} (h:kV W g l) (i:Nat) (x:Bs):kV (W.setCell ⟨g,i,none⟩ (xR x)) g (l.set i x):=by
 have:=xY h.blk i (xR x);rw[yAi] at this;exact this
theorem kV.below {W W':World} {B g:Nat} {l:List Bs} (h:kV W g l) (hb:Below B W W') (hg:g<B):kV W' g l:=xD h.blk hb hg
theorem kV.far {W:World} {g:Nat} {l:List Bs} (h:kV W g l) {p:Addr} (hp:g≠p.block) (u:Value):kV (W.setCell p u) g l:=yC h.blk hp u
theorem kV.rd {W:World} {g:Nat} {l:List Bs} (h:kV W g l) (c:Nat) (hc:l.length<=c):RdS W (g+1) (.slice (some ⟨g,0,none⟩) l.length c) l:=
 ⟨_,c,rfl,hc,λ_=>⟨g,0,rfl,Nat.lt_succ_self g,λj x hx=>by rw[Nat.zero_add];exact h.cell hx⟩⟩
theorem madeS (W:World) (n:Nat) (hm:n<=1000000):(Instr.makeSlice 22 (.int .i64 (n:Int)) (.int .i64 (n:Int))).run prog W=.ok (.slice (some ⟨W.heap.size,0,none⟩) n n) (W.alloc (.cells (wJ (List.replicate n [])) 9)):=by
 have hinfo:(prog.info? 9).map (λi=>(i.zero,i.size,i.bytes))=some (some (.string ⟨#[]⟩),1,16):=κ;cases hq:prog.info? 9 with
 |none=>rw[hq] at hinfo;cases hinfo
 |some i=>
  rw[hq] at hinfo;simp only[Option.map_some,Option.some.injEq,Prod.mk.injEq] at hinfo;obtain⟨hz,hs,hb⟩:=hinfo;have h:=run_make (P:=prog) (w:=W) 22 9 i _ underlying22 hq hz .i64 .i64 (n:Int) (n:Int) ω ω (by rw[hb];omega) ω;simp only[Int.toNat_natCast] at h
  rw[hs,xXc] at h;exact h
end Go.Proofs.BB
namespace Mailsack
structure Wr where
 at_:Int
 data:Bs
structure Dk where
 secs:List Bs
 cache:List Wr
end Mailsack
namespace Go.Proofs.DS
open Go.RowKit Mailsack MM BB
abbrev xW (a b:Value):Obj:=.cells #[a,b] 25
end Go.Proofs.DS
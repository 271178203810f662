/- Contracts of functions. Conditions: as stated. -/
import Derived.Test.YtacahegificeoaaGreatDoorImapLoginsProofB18
import Derived.Great.BuildSlice
set_option maxHeartbeats 8000000
set_option maxRecDepth 100000
namespace Mailsack
def yCd (a:List Int):List Int:=uR a a
def yCc (a:List Int):List Int:=uR (sqI (yCd a) 2) a
def xWv (a:List Int):List Int:=uR (yCc a) (yCd a)
def yCe (a:List Int):List Int:=uR (sqI (xWv a) 1) (yCc a)
def xOa (a:List Int):List Int:=uR (sqI (yCe a) 5) (yCe a)
def xWw (a:List Int):List Int:=uR (sqI (xOa a) 10) (xOa a)
def yEj (a:List Int):List Int:=uR (sqI (xWw a) 20) (xWw a)
def xO9 (a:List Int):List Int:=uR (sqI (yEj a) 10) (xOa a)
def xQ6 (a:List Int):List Int:=uR (sqI (xO9 a) 50) (xO9 a)
def yAy (a:List Int):List Int:=uR (sqI (xQ6 a) 100) (xQ6 a)
def yAx (a:List Int):List Int:=uR (sqI (yAy a) 50) (xO9 a)
def xHc (a:List Int):List Int:=uR (sqI (yAx a) 5) (xWv a)
theorem xXp (a:List Int):(xHc a).length=5:=vE _ _
theorem yEy (a:List Int):yV (xHc a):=qY _ _
end Mailsack
namespace Go.Proofs.FE
open Go.RowKit Mailsack MM BB SH
theorem xBt (x y:List Int) (n:Nat) (k:Int) (hk:k=n) (hn:n<=1000) (hx:x.length=5) (ux:yV x) (hy:y.length=5) (uy:yV y):∃s v,Hid (∀W,Calls Tryz.prog 253 #[.agg (xH x),.int .i64 k] W λe w'=>e=.returned (.agg (xH s))/\Below W.heap.size W w')/\
  Hid (∀W,Calls Tryz.prog 174 #[.agg (xH s),.agg (xH y)] W λe w'=>e=.returned (.agg (xH v))/\Below W.heap.size W w')/\v=uR (sqI x n) y/\v.length=5/\yV v:=
 ⟨sqI x n,_,ι (λW=>by rw[hk];exact xNg x n W hx ux hn),ι (λW=>rH _ _ W (xFr hx n) (yDd ux n) hy uy),rfl,vE _ _,qY _ _⟩
theorem one_mul (x y:List Int) (hx:x.length=5) (ux:yV x) (hy:y.length=5) (uy:yV y):∃v,
  Hid (∀W,Calls Tryz.prog 174 #[.agg (xH x),.agg (xH y)] W λe w'=>e=.returned (.agg (xH v))/\Below W.heap.size W w')/\v=uR x y/\v.length=5/\yV v:=
 ⟨_,ι (λW=>rH _ _ W hx ux hy uy),rfl,vE _ _,qY _ _⟩
theorem zP (ws:List Int) (h:ws.length=5):Hid ((Tryz.prog.info? 240).map (·.size)=some (xH ws).size):=ι (uF h)
theorem vC (ws:List Int) (h:ws.length=5):Hid ((xH (List.replicate 5 0)).size=(xH ws).size):=ι (xAf σ h)
theorem xSs (ax:List Int) (w:World) (l_ax:ax.length=5) (u_ax:yV ax):
  Calls Tryz.prog 175 #[.agg (xH ax)] w λe w'=>e=.returned (.agg (xH (xHc ax)))/\Below w.heap.size w w':=by
 have I_ax:=zP ax l_ax;obtain⟨p2,M_p2,E_p2,l_p2,u_p2⟩:=one_mul ax ax l_ax u_ax l_ax u_ax;have I_p2:=zP p2 l_p2;have Z_p2:=vC p2 l_p2;obtain⟨s_p9,p9,S_p9,M_p9,E_p9,l_p9,u_p9⟩:=xBt p2 ax 2 2 rfl δ l_p2 u_p2 l_ax u_ax;have I_p9:=zP p9 l_p9;have Z_p9:=vC p9 l_p9
 obtain⟨p11,M_p11,E_p11,xWp,yD2⟩:=one_mul p9 p2 l_p9 u_p9 l_p2 u_p2;have I_p11:=zP p11 xWp;have Z_p11:=vC p11 xWp;obtain⟨s_o5,o5,S_o5,M_o5,E_o5,l_o5,u_o5⟩:=xBt p11 p9 1 1 rfl δ xWp yD2 l_p9 u_p9;have I_o5:=zP o5 l_o5;have Z_o5:=vC o5 l_o5
 obtain⟨s_o10,o10,S_o10,M_o10,E_o10,xSq,xZg⟩:=xBt o5 o5 5 5 rfl δ l_o5 u_o5 l_o5 u_o5;have I_o10:=zP o10 xSq;have Z_o10:=vC o10 xSq;obtain⟨s_o20,o20,S_o20,M_o20,E_o20,xWq,yD3⟩:=xBt o10 o10 10 10 rfl δ xSq xZg xSq xZg;have I_o20:=zP o20 xWq;have Z_o20:=vC o20 xWq
 obtain⟨s_o40,o40,S_o40,M_o40,E_o40,yAu,u_o40⟩:=xBt o20 o20 20 20 rfl δ xWq yD3 xWq yD3;have I_o40:=zP o40 yAu;have Z_o40:=vC o40 yAu;obtain⟨s_o50,o50,S_o50,M_o50,E_o50,xSp,xZf⟩:=xBt o40 o10 10 10 rfl δ yAu u_o40 xSq xZg;have I_o50:=zP o50 xSp;have Z_o50:=vC o50 xSp
 obtain⟨s_o100,o100,S_o100,M_o100,yCt,xLt,xUw⟩:=xBt o50 o50 50 50 rfl δ xSp xZf xSp xZf;have I_o100:=zP o100 xLt;have Z_o100:=vC o100 xLt;obtain⟨s_o200,o200,S_o200,M_o200,yCs,xQ4,yC2⟩:=xBt o100 o100 100 100 rfl δ xLt xUw xLt xUw;have I_o200:=zP o200 xQ4;have Z_o200:=vC o200 xQ4
 obtain⟨s_o250,yDy,S_o250,M_o250,yCr,xQ3,yC1⟩:=xBt o200 o50 50 50 rfl δ xQ4 yC2 xSp xZf;have I_o250:=zP yDy xQ3;have Z_o250:=vC yDy xQ3;obtain⟨s_res,res,S_res,M_res,E_res,yEe,u_res⟩:=xBt yDy p11 5 5 rfl δ xQ3 yC1 xWp yD2;have I_res:=zP res yEe;have Z_res:=vC res yEe
 have HE:Hid (res=xHc ax):=ι (by
  subst E_p2 E_p9 E_p11 E_o5 E_o10 E_o20 E_o40 E_o50 yCt yCs yCr E_res
  rfl)
 clear E_p2 l_p2 u_p2 E_p9 l_p9 u_p9 E_p11 xWp yD2 E_o5 l_o5 u_o5 E_o10 xSq xZg E_o20 xWq yD3 E_o40 yAu u_o40 E_o50 xSp xZf yCt xLt xUw yCs xQ4 yC2 yCr xQ3 yC1 E_res yEe u_res l_ax u_ax
 have H0:Hid (Bag w [(w.heap.size+1,240,List.replicate 5 0),(w.heap.size,240,ax)] ((w.alloc (.cells (xH ax) 240)).alloc (.cells (xH (List.replicate 5 0)) 240))):=ι (by
  have h:Bag w [] w:=⟨Below.refl _ _,λ_ _ _ h=>by cases h⟩;have h2:=(h.new 240 ax).new 240 (List.replicate 5 0)
  rwa [uX] at h2)
 obtain⟨yB8,hga⟩:∃g,w.heap.size=g:=⟨_,rfl⟩;obtain⟨g_z,hgz⟩:∃g,w.heap.size+1=g:=⟨_,rfl⟩;have HGA:=ι hga;have HGZ:=ι hgz;clear hga hgz;go_enter Tryz.func175,Tryz.ntmps175;go_upto_region 1 with fail
 rw[HGZ.o,HGA.o];rw[HGZ.o,HGA.o] at H0;refine(λ(h:∀W3,Hid (Bag w _ W3)->Code.wp _ _ _ _ W3)=>h _ H0) ?_;clear H0;intro W0 H0;refine wp_region_lit ?_
 refine wpList_load_row rfl _ _ rfl yB8 rfl _ (xH ax) (0,0) _ (H0.o.get (g:=yB8) (t:=240) (ws:=ax) σ) Tryz.underlying240 rfl I_ax.o ?_;refine wpList_load_row rfl _ _ rfl yB8 rfl _ (xH ax) (0,0) _ (H0.o.get (g:=yB8) (t:=240) (ws:=ax) σ) Tryz.underlying240 rfl I_ax.o ?_
 repeat go_step
 refine(M_p2.o _).mono ?_;rintro e w7 ⟨rfl,hb7⟩;have H7:=H0.o.below hb7;have H8:=H7.new 240 (List.replicate 5 0)
 have H9:Bag w ((w7.heap.size,240,p2)::[(g_z,240,List.replicate 5 0),(yB8,240,ax)]) ((w7.alloc (.cells (xH (List.replicate 5 0)) 240)).setRow w7.heap.size (xH p2)):=((H7.alloc _).far H7.1.size (λg t ws hm=>Nat.ne_of_lt (H7.lt hm)) _).cons H7.1.size (setRow_heap _ _ _ _ _ _ (xL _ _))
 simp only[]
 rename ∀(a:Act) (w:World),wpList _ _ _ _ a w->_=>hk
 refine hk _ _ ?_;clear hk;iterate 3 go_step
 refine wpList_store_row rfl _ _ _ rfl w7.heap.size (xH p2) rfl rfl _ (xH (List.replicate 5 0)) (xL _ _) I_p2.o Z_p2.o (yC _) ?_;refine(λ(h:∀W3,Hid (Bag w ((w7.heap.size,240,p2)::[(g_z,240,List.replicate 5 0),(yB8,240,ax)]) W3)->wpList _ _ _ _ _ W3)=>h _ (ι H9)) ?_
 clear H7 H8 H9 H0 hb7;generalize w7.heap.size=g_p2;intro W3 H0;go_upto_region 2 with fail
 refine xT3 4 5 240 (List.replicate 5 0) p9 H0 ?_;refine aL ?_;refine aC ?_;refine aL ?_;refine aC ?_;refine aN 2 5 ?_;refine aT 2 4 ?_;clear H0;refine RG.wK (λα w4 hw4=>?_);have H0:=ι hw4.o.done;clear hw4;simp only[Nat.zero_add,Nat.reduceAdd];generalize α 4=g_p9 at H0⊢
 go_upto_region 3 with fail
 refine wp_region_lit ?_;refine wpList_load_row rfl _ _ rfl g_p9 rfl _ (xH p9) (0,0) _ (H0.o.get (g:=g_p9) (t:=240) (ws:=p9) σ) Tryz.underlying240 rfl I_p9.o ?_
 refine wpList_load_row rfl _ _ rfl g_p2 rfl _ (xH p2) (0,0) _ (H0.o.get (g:=g_p2) (t:=240) (ws:=p2) σ) Tryz.underlying240 rfl I_p2.o ?_;repeat go_step
 refine(M_p11.o _).mono ?_;rintro e w7 ⟨rfl,hb7⟩;have H7:=H0.o.below hb7;have H8:=H7.new 240 (List.replicate 5 0)
 have H9:Bag w ((w7.heap.size,240,p11)::[(g_p9,240,p9),(g_p2,240,p2),(g_z,240,List.replicate 5 0),(yB8,240,ax)]) ((w7.alloc (.cells (xH (List.replicate 5 0)) 240)).setRow w7.heap.size (xH p11)):=((H7.alloc _).far H7.1.size (λg t ws hm=>Nat.ne_of_lt (H7.lt hm)) _).cons H7.1.size (setRow_heap _ _ _ _ _ _ (xL _ _))
 simp only[]
 rename ∀(a:Act) (w:World),wpList _ _ _ _ a w->_=>hk
 refine hk _ _ ?_;clear hk;iterate 3 go_step
 refine wpList_store_row rfl _ _ _ rfl w7.heap.size (xH p11) rfl rfl _ (xH (List.replicate 5 0)) (xL _ _) I_p11.o Z_p11.o (yC _) ?_
 refine(λ(h:∀W3,Hid (Bag w ((w7.heap.size,240,p11)::[(g_p9,240,p9),(g_p2,240,p2),(g_z,240,List.replicate 5 0),(yB8,240,ax)]) W3)->wpList _ _ _ _ _ W3)=>h _ (ι H9)) ?_;clear H7 H8 H9 H0 hb7;generalize w7.heap.size=yEu;intro W3 H0;go_upto_region 4 with fail
 refine xT3 4 5 240 (List.replicate 5 0) o5 H0 ?_;refine aL ?_;refine aC ?_;refine aL ?_;refine aC ?_;refine aN 2 5 ?_;refine aT 2 4 ?_;clear H0;refine RG.wK (λα w4 hw4=>?_);have H0:=ι hw4.o.done;clear hw4;simp only[Nat.zero_add,Nat.reduceAdd];generalize α 4=g_o5 at H0⊢
 go_upto_region 5 with fail
 refine xT3 4 5 240 (List.replicate 5 0) o10 H0 ?_;refine aL ?_;refine aC ?_;refine aL ?_;refine aC ?_;refine aN 2 5 ?_;refine aT 2 4 ?_;clear H0;refine RG.wK (λα w4 hw4=>?_);have H0:=ι hw4.o.done;clear hw4;simp only[Nat.zero_add,Nat.reduceAdd];generalize α 4=g_o10 at H0⊢
 go_upto_region 6 with fail
 refine xT3 4 5 240 (List.replicate 5 0) o20 H0 ?_;refine aL ?_;refine aC ?_;refine aL ?_;refine aC ?_;refine aN 2 5 ?_;refine aT 2 4 ?_;clear H0;refine RG.wK (λα w4 hw4=>?_);have H0:=ι hw4.o.done;clear hw4;simp only[Nat.zero_add,Nat.reduceAdd];generalize α 4=g_o20 at H0⊢
 go_upto_region 7 with fail
 refine xT3 4 5 240 (List.replicate 5 0) o40 H0 ?_;refine aL ?_;refine aC ?_;refine aL ?_;refine aC ?_;refine aN 2 5 ?_;refine aT 2 4 ?_;clear H0;refine RG.wK (λα w4 hw4=>?_);have H0:=ι hw4.o.done;clear hw4;simp only[Nat.zero_add,Nat.reduceAdd];generalize α 4=g_o40 at H0⊢
 go_upto_region 8 with fail
 refine xT3 4 5 240 (List.replicate 5 0) o50 H0 ?_;refine aL ?_;refine aC ?_;refine aL ?_;refine aC ?_;refine aN 2 5 ?_;refine aT 2 4 ?_;clear H0;refine RG.wK (λα w4 hw4=>?_);have H0:=ι hw4.o.done;clear hw4;simp only[Nat.zero_add,Nat.reduceAdd];generalize α 4=g_o50 at H0⊢
 go_upto_region 9 with fail
 refine xT3 4 5 240 (List.replicate 5 0) o100 H0 ?_;refine aL ?_;refine aC ?_;refine aL ?_;refine aC ?_;refine aN 2 5 ?_;refine aT 2 4 ?_;clear H0;refine RG.wK (λα w4 hw4=>?_);have H0:=ι hw4.o.done;clear hw4;simp only[Nat.zero_add,Nat.reduceAdd];generalize α 4=g_o100 at H0⊢
 go_upto_region 10 with fail
 refine xT3 4 5 240 (List.replicate 5 0) o200 H0 ?_;refine aL ?_;refine aC ?_;refine aL ?_;refine aC ?_;refine aN 2 5 ?_;refine aT 2 4 ?_;clear H0;refine RG.wK (λα w4 hw4=>?_);have H0:=ι hw4.o.done;clear hw4;simp only[Nat.zero_add,Nat.reduceAdd];generalize α 4=g_o200 at H0⊢
 go_upto_region 11 with fail
 refine xT3 4 5 240 (List.replicate 5 0) yDy H0 ?_;refine aL ?_;refine aC ?_;refine aL ?_;refine aC ?_;refine aN 2 5 ?_;refine aT 2 4 ?_;clear H0;refine RG.wK (λα w4 hw4=>?_);have H0:=ι hw4.o.done;clear hw4;simp only[Nat.zero_add,Nat.reduceAdd];generalize α 4=xXd at H0⊢
 go_upto_region 12 with fail
 refine RG.yT 5 (λL W=>Hid ((L 4=false->Bag w [(xXd,240,yDy),(g_o200,240,o200),(g_o100,240,o100),(g_o50,240,o50),(g_o40,240,o40),(g_o20,240,o20),(g_o10,240,o10),(g_o5,240,o5),(yEu,240,p11),(g_p9,240,p9),(g_p2,240,p2),(g_z,240,List.replicate 5 0),(yB8,240,ax)] W)/\(L 4=true->Below w.heap.size w W/\uU 240 W g_z res))) (λL L' W h hI=>by rw[<-h 4 δ];exact hI) κ κ rfl (ι ⟨λ_=>H0.o.drew,λh=>by cases h⟩) ?_
 clear H0;apply RG.xR
 ·rfl
 ·rfl
 ·intro L w9 h0 hcl xN hw9;have e:=hcl.not 5 (i:=4) h0 κ;have hb:=hw9.o.1 e;refine wpList_load_row rfl _ _ rfl xXd rfl _ (xH yDy) (0,0) _ (hb.get (g:=xXd) (t:=240) (ws:=yDy) σ) Tryz.underlying240 rfl I_o250.o ?_;repeat go_step
  with_reducible refine RG.xD ?_
  exact⟨xN,hw9⟩
 ·rfl
 apply RG.xR
 ·rfl
 ·rfl
 ·intro L w9 h0 hcl xN hw9;have e:=hcl.not 5 (i:=4) h0 κ;have hb:=hw9.o.1 e;repeat go_step
  refine(S_res.o _).mono ?_;rintro e w10 ⟨rfl,zM⟩;simp only[];repeat go_step
  with_reducible refine RG.xD ?_
  refine⟨xN,ι ⟨λ_=>hb.below zM,λh4=>?_⟩⟩;have h5:L 4=true:=h4;rw[e] at h5;cases h5
 ·rfl
 apply RG.xR
 ·rfl
 ·rfl
 ·intro L w9 h0 hcl xN hw9;have e:=hcl.not 5 (i:=4) h0 κ;have hb:=hw9.o.1 e;refine wpList_load_row rfl _ _ rfl yEu rfl _ (xH p11) (0,0) _ (hb.get (g:=yEu) (t:=240) (ws:=p11) σ) Tryz.underlying240 rfl I_p11.o ?_;repeat go_step
  with_reducible refine RG.xD ?_
  exact⟨xN,hw9⟩
 ·rfl
 apply RG.xR
 ·rfl
 ·rfl
 ·intro L w9 h0 hcl xN hw9;have e:=hcl.not 5 (i:=4) h0 κ;have hb:=hw9.o.1 e;repeat go_step
  refine(M_res.o _).mono ?_;rintro e w10 ⟨rfl,zM⟩;simp only[];repeat go_step
  with_reducible refine RG.xD ?_
  refine⟨xN,ι ⟨λ_=>hb.below zM,λh4=>?_⟩⟩;have h5:L 4=true:=h4;rw[e] at h5;cases h5
 ·rfl
 apply RG.xR
 ·rfl
 ·rfl
 ·intro L w9 h0 hcl xN hw9;have hb:=hw9.o.1 h0;have hz:=hb.get (g:=g_z) (t:=240) (ws:=List.replicate 5 0) σ;have hg:=(hb.2 g_z 240 (List.replicate 5 0) σ).1;refine wpList_store_row rfl _ _ _ rfl g_z (xH res) rfl rfl _ (xH (List.replicate 5 0)) hz I_res.o Z_res.o (yC _) ?_
  repeat go_step
  with_reducible refine RG.xD ?_
  exact⟨xN,ι ⟨λh=>(by cases h),λ_=>⟨below_setRow hb.1 hg _,setRow_heap _ _ _ _ _ _ hz⟩⟩⟩
 ·rfl
 refine RG.yI (λw9 hw9=>?_);obtain⟨hbl,hres⟩:=hw9.o.2 rfl;have HBL:=ι hbl;have HRS:=ι hres;clear hw9 hbl hres;go_wp2;refine bodyPost_ret (results_cell_row rfl _ _ g_z _ _ (0,0) _ rfl HRS.o Tryz.underlying240 rfl I_res.o) rfl ?_;rw[HE.o];exact⟨rfl,HBL.o⟩
end Go.Proofs.FE
namespace Mailsack
def yDb (x z:List Int):List Int:=xHd x z
def yDc (x z:List Int):List Int:=xHb x z
def stS2 (x z:List Int):List Int:=uR (yDb x z) (yDb x z)
def stD2 (x z:List Int):List Int:=uR (yDc x z) (yDc x z)
def stE (x z:List Int):List Int:=xHb (stS2 x z) (stD2 x z)
def stDA (x1 z1 x2 z2:List Int):List Int:=uR (xHb x2 z2) (yDb x1 z1)
def stCB (x1 z1 x2 z2:List Int):List Int:=uR (xHd x2 z2) (yDc x1 z1)
def stP (x1 z1 x2 z2:List Int):List Int:=xHd (stDA x1 z1 x2 z2) (stCB x1 z1 x2 z2)
def stM (x1 z1 x2 z2:List Int):List Int:=xHb (stDA x1 z1 x2 z2) (stCB x1 z1 x2 z2)
def stX2 (x1 z1:List Int):List Int:=uR (stS2 x1 z1) (stD2 x1 z1)
def stZ2 (x1 z1:List Int):List Int:=uR (stE x1 z1) (xHd (stS2 x1 z1) (xDy (stE x1 z1) 121665))
def stX3 (x1 z1 x2 z2:List Int):List Int:=uR (stP x1 z1 x2 z2) (stP x1 z1 x2 z2)
def stZ3 (u x1 z1 x2 z2:List Int):List Int:=uR u (uR (stM x1 z1 x2 z2) (stM x1 z1 x2 z2))
end Mailsack
namespace Go.Proofs.FE
open Go.RowKit Mailsack MM BB SH
def J2 (w:World) (B:List (Nat×TypeId×List Int)) (n s n' s':Nat) (t:TypeId) (zs v v':List Int) (L:Nat->Bool) (α:RG.Pl) (W:World):Prop:=
 J1 w B n s t zs v L α W/\J1 w B n' s' t zs v' L α W/\(L n=true->L n'=true->α n≠α n')
section
variable {w W W':World} {B:List (Nat×TypeId×List Int)} {n s n' s':Nat} {t:TypeId} {zs v v':List Int} {L:Nat->Bool} {α:RG.Pl}
theorem J2.congr {L':Nat->Bool} {α':RG.Pl} (hn:L n=L' n) (hs:L s=L' s) (ha:L n=true->α n=α' n) (hn':L n'=L' n') (hs':L s'=L' s') (ha':L n'=true->α n'=α' n') (h:J2 w B n s n' s' t zs v v' L α W):J2 w B n s n' s' t zs v v' L' α' W:=
 ⟨h.1.congr hn hs ha,h.2.1.congr hn' hs' ha',λh1 h2=>by rw[<-hn] at h1;rw[<-hn'] at h2;rw[<-ha h1,<-ha' h2];exact h.2.2 h1 h2⟩
theorem J2.start (h:Bag w B W):J2 w B n s n' s' t zs v v' (λ_=>false) α W.drew:=⟨J1.start h,J1.start h,λh=>by cases h⟩
theorem J2.below (h:J2 w B n s n' s' t zs v v' L α W) (hb:Below W.heap.size W W'):J2 w B n s n' s' t zs v v' L α W':=⟨h.1.below hb,h.2.1.below hb,h.2.2⟩
theorem J1.xWr (h:J1 w B n s t zs v L α W) {m:Nat} (hm:n≠m) (hs:s≠m) (o:Obj):J1 w B n s t zs v (λj=>j==m||L j) (RG.kE α m W.heap.size) (W.alloc o):=by
 have h2:=h.below (W':=W.alloc o) ((Below.refl _ W).alloc ν o);refine h2.congr ?_ ?_ (λ_=>?_)
 ·show L n=(n==m||L n);rw[show(n==m)=false by simpa using hm,Bool.false_or]
 ·show L s=(s==m||L s);rw[show(s==m)=false by simpa using hs,Bool.false_or]
 ·rw[RG.xBa _ _ _ hm]
theorem J2.newA (h:J2 w B n s n' s' t zs v v' L α W) (hs:L s=false) (h1:s≠n) (h2:n'≠n) (h3:s'≠n):J2 w B n s n' s' t zs v v' (λj=>j==n||L j) (RG.kE α n W.heap.size) (W.alloc (.cells (xH zs) t)):=
 ⟨h.1.new hs h1,h.2.1.xWr h2 h3 _,λ_ hb=>by
  have hb':L n'=true:=by simpa[h2] using hb
  rw[RG.rA,RG.xBa _ _ _ h2];have:=xG (h.2.1.2 hb').2.2.blk;omega⟩
theorem J2.newB (h:J2 w B n s n' s' t zs v v' L α W) (hs:L s'=false) (h1:s'≠n') (h2:n≠n') (h3:s≠n'):J2 w B n s n' s' t zs v v' (λj=>j==n'||L j) (RG.kE α n' W.heap.size) (W.alloc (.cells (xH zs) t)):=
 ⟨h.1.xWr h2 h3 _,h.2.1.new hs h1,λhb _=>by
  have hb':L n=true:=by simpa[h2] using hb
  rw[RG.rA,RG.xBa _ _ _ h2];have:=xG (h.1.2 hb').2.2.blk;omega⟩
theorem J1.xQ5 (h:J1 w B n s t zs v L α W) {m g:Nat} (hm:n≠m) (hs:s≠m) (hg:w.heap.size<=g) (hf:∀g' t ws,(g',t,ws)∈B->g'≠g) (hne:L n=true->α n≠g) (cs:Array Value):J1 w B n s t zs v (λj=>j==m||L j) α (W.setRow g cs):=by
 refine⟨h.1.far hg hf _,λh1=>?_⟩;have h1':L n=true:=by simpa[hm] using h1
 obtain⟨a1,a2,a3⟩:=h.2 h1';refine⟨a1,a2,?_⟩;rw[show(λj=>j==m||L j) s=L s by show(s==m||L s)=L s;rw[show(s==m)=false by simpa using hs,Bool.false_or]];exact(setRow_other _ _ _ _ (hne h1')).trans a3
theorem J2.fillA (h:J2 w B n s n' s' t zs v v' L α W) (hn:L n=true) (h1:n'≠s) (h2:s'≠s):J2 w B n s n' s' t zs v v' (λj=>j==s||L j) α (W.setRow (α n) (xH v)):=
 ⟨h.1.fill hn,h.2.1.xQ5 h1 h2 (h.1.2 hn).2.1 (h.1.2 hn).1 (λhb e=>h.2.2 hn hb e.symm) _,λ_ hb=>h.2.2 hn (by simpa[h1] using hb)⟩
theorem J2.fillB (h:J2 w B n s n' s' t zs v v' L α W) (hn:L n'=true) (h1:n≠s') (h2:s≠s'):J2 w B n s n' s' t zs v v' (λj=>j==s'||L j) α (W.setRow (α n') (xH v')):=
 ⟨h.1.xQ5 h1 h2 (h.2.1.2 hn).2.1 (h.2.1.2 hn).1 (λhb e=>h.2.2 hb hn e) _,h.2.1.fill hn,λhb _=>h.2.2 (by simpa[h1] using hb) hn⟩
theorem J2.done (h:J2 w B n s n' s' t zs v v' (λ_=>true) α W):Bag w ((α n',t,v')::(α n,t,v)::B) W:=by
 obtain⟨a1,a2,a3⟩:=h.2.1.2 rfl;rw[if_pos rfl] at a3;exact h.1.done.cons a2 a3
end
section
variable {md:Region.Mode} {ops:Array Oper} {E N:List Nat} {J:(Nat->Bool)->RG.Pl->World->Prop} {K:RG.Pl->Act->Prop} {a A:RG.Pl->Act} {v:Value} {i:Nat} {o:Oper} {os:List Oper}
theorem aP (h2:RG.uC Tryz.prog ops md E N J K os (i+1) A) (hi:N.contains i=false:=by rfl) (he:E.contains i=false:=by rfl) (h:∀α L w,L i=false->RG.closed ops md L->RG.closed ops md (λj=>j==i||L j)->J L α w->wpList Tryz.prog ops (RG.Only (J L α) (A α)) [o] (a α) w:=by
 intro α L w9 h0 hcl xN hw9
 first
 |refine zW rfl _ _ rfl _ 0 rfl (xH _) _ (xD1 (Bag.get (J1.bag hw9.o) (by repeat (first|exact List.Mem.head _|apply List.Mem.tail)))) Tryz.underlying240 rfl (Hid.o (by with_reducible assumption)) ?_
 |refine zW rfl _ _ rfl _ 0 rfl (xH _) _ (xD1 (Bag.get (J1.bag hw9.o.1) (by repeat (first|exact List.Mem.head _|apply List.Mem.tail)))) Tryz.underlying240 rfl (Hid.o (by with_reducible assumption)) ?_
 |refine zW rfl _ _ rfl _ 5 rfl (xH _) _ (xD0 (Bag.get (J1.bag hw9.o) (by repeat (first|exact List.Mem.head _|apply List.Mem.tail))) (Hid.o (by with_reducible assumption))) Tryz.underlying240 rfl (Hid.o (by with_reducible assumption)) ?_
 |refine zW rfl _ _ rfl _ 5 rfl (xH _) _ (xD0 (Bag.get (J1.bag hw9.o.1) (by repeat (first|exact List.Mem.head _|apply List.Mem.tail))) (Hid.o (by with_reducible assumption))) Tryz.underlying240 rfl (Hid.o (by with_reducible assumption)) ?_
 repeat go_step
 with_reducible exact RG.xD hw9) (hd:∀α,A α=(a α).put o.dst v:=by intro α;rfl):RG.uC Tryz.prog ops md E N J K (o::os) i a:=RG.jW hi he h hd h2
theorem det2 {id:Nat} {l:List Oper} {a:Act} {W0 w:World} {Q:Exit->Act->World->Prop} {B:List (Nat×TypeId×List Int)} (n s n' s':Nat) (t:TypeId) (zs v v':List Int) (H0:Hid (Bag w B W0))
  (h:RG.uC Tryz.prog l.toArray .any [s,s'] [n,n'] (λL α W=>Hid (J2 w B n s n' s' t zs v v' L α W)) (λα a=>∀w9,Hid (J2 w B n s n' s' t zs v v' (λ_=>true) α w9)->Q .normal a w9) l 0 (λ_=>a)) (hm:Tryz.prog.follows .mixedOrders=true:=by kernel_rfl) (hf:RG.fits .any l.toArray=true:=by kernel_rfl) (hE:(([s,s']++[n,n']).all λe=>decide (e<l.length))=true:=by kernel_rfl):
  (Code.region id l.toArray true).wp Tryz.prog Q a W0:=
 RG.kW [s,s'] [n,n'] (λL α W=>Hid (J2 w B n s n' s' t zs v v' L α W)) (λL L' α α' W hl ha h=>ι (J2.congr (hl n σ) (hl s σ) (ha n σ) (hl n' σ) (hl s' σ) (ha n' σ) h.o)) hm hf hE (ι (J2.start H0.o)) h
end
structure FoG (t:TypeId) (w:World) (ga gb gr gs:Nat) (ax bx rx sx:List Int) (W:World):Prop where
 ba:uU t W ga ax
 bb:uU t W gb bx
 br:uU t W gr rx
 bs:uU t W gs sx
 bel:Below w.heap.size w W
 ne:ga≠gr/\gb≠gr/\gs≠gr/\ga≠gs/\gb≠gs/\w.heap.size<=gr/\w.heap.size<=gs
section
variable {t:TypeId} {w W W':World} {ga gb gr gs:Nat} {ax bx rx sx:List Int}
theorem FoG.drew (h:FoG t w ga gb gr gs ax bx rx sx W):FoG t w ga gb gr gs ax bx rx sx W.drew:=⟨h.ba,h.bb,h.br,h.bs,h.bel.drew,h.ne⟩
theorem FoG.rowR (h:FoG t w ga gb gr gs ax bx rx sx W) (xs:List Int):FoG t w ga gb gr gs ax bx xs sx (W.setRow gr (xH xs)):=by
 obtain⟨n1,n2,n3,n4,n5,n6,n7⟩:=h.ne;exact⟨(setRow_other _ _ _ _ n1).trans h.ba,(setRow_other _ _ _ _ n2).trans h.bb,setRow_heap _ _ _ _ _ _ h.br,(setRow_other _ _ _ _ n3).trans h.bs,below_setRow h.bel n6 _,h.ne⟩
theorem FoG.rowS (h:FoG t w ga gb gr gs ax bx rx sx W) (xs:List Int):FoG t w ga gb gr gs ax bx rx xs (W.setRow gs (xH xs)):=by
 obtain⟨n1,n2,n3,n4,n5,n6,n7⟩:=h.ne;exact⟨(setRow_other _ _ _ _ n4).trans h.ba,(setRow_other _ _ _ _ n5).trans h.bb,(setRow_other _ _ _ _ (Ne.symm n3)).trans h.br,setRow_heap _ _ _ _ _ _ h.bs,below_setRow h.bel n7 _,h.ne⟩
end
theorem xE8 {x z:List Int} (hx:x.length=5) (hz:z.length=5):Tryz.prog.built 244 [(0,.agg (xH x)),(1,.agg (xH z))]=some (xH (x++z)):=by
 obtain⟨a,b,c,d,e,rfl⟩:=xDw hx;obtain⟨a',b',c',d',e',rfl⟩:=xDw hz
 kernel_rfl
theorem xPp (x y:List Int) (hx:x.length=5) (ux:yV x) (hy:y.length=5) (uy:yV y):∃v,Hid (∀W,Calls Tryz.prog 246 #[.agg (xH x),.agg (xH y)] W λe w'=>e=.returned (.agg (xH v))/\Below W.heap.size W w')/\v=xHd x y/\v.length=5/\yV v:=
 ⟨_,ι (λW=>xCc _ _ W hx ux hy uy),rfl,xXq _ _,yEz _ _⟩
theorem xPn (x y:List Int) (hx:x.length=5) (ux:yV x) (hy:y.length=5) (uy:yV y):∃v,Hid (∀W,Calls Tryz.prog 247 #[.agg (xH x),.agg (xH y)] W λe w'=>e=.returned (.agg (xH v))/\Below W.heap.size W w')/\v=xHb x y/\v.length=5/\yV v:=
 ⟨_,ι (λW=>yD9 _ _ W hx ux hy uy),rfl,xXm _ _,yEx _ _⟩
theorem xCx (x y:List Int) (hx:x.length=5) (ux:yV x) (hy:y.length=5) (uy:yV y):∃v,Hid (∀W,Calls Tryz.prog 174 #[.agg (xH x),.agg (xH y)] W λe w'=>e=.returned (.agg (xH v))/\Below W.heap.size W w')/\v=uR x y/\v.length=5/\yV v:=
 ⟨_,ι (λW=>rH _ _ W hx ux hy uy),rfl,vE _ _,qY _ _⟩
theorem yAa (x:List Int) (hx:x.length=5) (ux:yV x):∃v,Hid (∀W,Calls Tryz.prog 248 #[.agg (xH x),.int .u32 121665] W λe w'=>e=.returned (.agg (xH v))/\Below W.heap.size W w')/\v=xDy x 121665/\v.length=5/\yV v:=
 ⟨_,ι (λW=>xVe _ _ W hx ux δ δ),rfl,vE _ _,qY _ _⟩
theorem xAt (x z:List Int) (h:x.length=5) (h2:z.length=5):Hid ((Tryz.prog.info? 244).map (·.size)=some (xH (x++z)).size):=ι (yB2 h h2)
theorem psame (x z:List Int) (h:x.length=5) (h2:z.length=5):Hid ((xH (List.replicate 10 0)).size=(xH (x++z)).size):=ι (by rw[xW,xW,List.length_append,h,h2];rfl)
theorem xZp (u x1 z1 x2 z2:List Int) (w:World) (l_u:u.length=5) (u_u:yV u) (l_x1:x1.length=5) (u_x1:yV x1) (l_z1:z1.length=5) (u_z1:yV z1) (l_x2:x2.length=5) (u_x2:yV x2) (l_z2:z2.length=5) (u_z2:yV z2):
  Calls Tryz.prog 172 #[.agg (xH u),.agg (xH (x1++z1)),.agg (xH (x2++z2))] w λe w'=>e=.returned (.tuple #[.agg (xH (stX2 x1 z1++stZ2 x1 z1)),.agg (xH (stX3 x1 z1 x2 z2++stZ3 u x1 z1 x2 z2))])/\Below w.heap.size w w':=by
 obtain⟨su,C_su,E_su,l_su,u_su⟩:=xPp x1 z1 l_x1 u_x1 l_z1 u_z1;obtain⟨di,C_di,E_di,l_di,u_di⟩:=xPn x1 z1 l_x1 u_x1 l_z1 u_z1;obtain⟨s2,C_s2,E_s2,l_s2,u_s2⟩:=xCx su su l_su u_su l_su u_su;obtain⟨d2,C_d2,E_d2,l_d2,u_d2⟩:=xCx di di l_di u_di l_di u_di
 obtain⟨ee,C_ee,E_ee,l_ee,u_ee⟩:=xPn s2 d2 l_s2 u_s2 l_d2 u_d2;obtain⟨qd,C_qd,E_qd,l_qd,u_qd⟩:=xPn x2 z2 l_x2 u_x2 l_z2 u_z2;obtain⟨da,C_da,E_da,l_da,u_da⟩:=xCx qd su l_qd u_qd l_su u_su;obtain⟨qs,C_qs,E_qs,l_qs,u_qs⟩:=xPp x2 z2 l_x2 u_x2 l_z2 u_z2
 obtain⟨cb,C_cb,E_cb,l_cb,u_cb⟩:=xCx qs di l_qs u_qs l_di u_di;obtain⟨pl,C_pl,E_pl,l_pl,u_pl⟩:=xPp da cb l_da u_da l_cb u_cb;obtain⟨mi,C_mi,E_mi,l_mi,u_mi⟩:=xPn da cb l_da u_da l_cb u_cb;obtain⟨X2,C_X2,E_X2,l_X2,u_X2⟩:=xCx s2 d2 l_s2 u_s2 l_d2 u_d2
 obtain⟨sm,C_sm,E_sm,l_sm,u_sm⟩:=yAa ee l_ee u_ee;obtain⟨ad,C_ad,E_ad,l_ad,u_ad⟩:=xPp s2 sm l_s2 u_s2 l_sm u_sm;obtain⟨Z2,C_Z2,E_Z2,l_Z2,u_Z2⟩:=xCx ee ad l_ee u_ee l_ad u_ad;obtain⟨X3,C_X3,E_X3,l_X3,u_X3⟩:=xCx pl pl l_pl u_pl l_pl u_pl
 obtain⟨mm,C_mm,E_mm,l_mm,u_mm⟩:=xCx mi mi l_mi u_mi l_mi u_mi;obtain⟨Z3,C_Z3,E_Z3,l_Z3,u_Z3⟩:=xCx u mm l_u u_u l_mm u_mm;have I_u:=zP u l_u;have I_x1:=zP x1 l_x1;have I_z1:=zP z1 l_z1;have I_x2:=zP x2 l_x2;have I_z2:=zP z2 l_z2;have I_su:=zP su l_su;have I_di:=zP di l_di
 have I_s2:=zP s2 l_s2;have I_d2:=zP d2 l_d2;have I_ee:=zP ee l_ee;have I_qd:=zP qd l_qd;have I_da:=zP da l_da;have I_qs:=zP qs l_qs;have I_cb:=zP cb l_cb;have I_pl:=zP pl l_pl;have I_mi:=zP mi l_mi;have I_X2:=zP X2 l_X2;have I_sm:=zP sm l_sm;have I_ad:=zP ad l_ad
 have I_Z2:=zP Z2 l_Z2;have I_X3:=zP X3 l_X3;have I_mm:=zP mm l_mm;have I_Z3:=zP Z3 l_Z3;have Z_su:=vC su l_su;have Z_di:=vC di l_di;have Z_s2:=vC s2 l_s2;have Z_d2:=vC d2 l_d2;have Z_ee:=vC ee l_ee;have Z_qd:=vC qd l_qd;have Z_da:=vC da l_da;have Z_qs:=vC qs l_qs
 have Z_cb:=vC cb l_cb;have Z_pl:=vC pl l_pl;have Z_mi:=vC mi l_mi;have Z_X2:=vC X2 l_X2;have Z_sm:=vC sm l_sm;have Z_ad:=vC ad l_ad;have Z_Z2:=vC Z2 l_Z2;have Z_X3:=vC X3 l_X3;have Z_mm:=vC mm l_mm;have Z_Z3:=vC Z3 l_Z3;have IP:=xAt X2 Z2 l_X2 l_Z2;have IQ:=xAt X3 Z3 l_X3 l_Z3
 have ZP:=psame X2 Z2 l_X2 l_Z2;have ZQ:=psame X3 Z3 l_X3 l_Z3;have BP:=ι (xE8 l_X2 l_Z2);have BQ:=ι (xE8 l_X3 l_Z3);have HL1:=ι l_x1;have HL2:=ι l_x2
 have HE:Hid (stX2 x1 z1++stZ2 x1 z1=X2++Z2/\stX3 x1 z1 x2 z2++stZ3 u x1 z1 x2 z2=X3++Z3):=ι (by
  subst E_su E_di E_s2 E_d2 E_ee E_qd E_da E_qs E_cb E_pl E_mi E_X2 E_sm E_ad E_Z2 E_X3 E_mm E_Z3;exact⟨rfl,rfl⟩)
 clear E_su l_su u_su E_di l_di u_di E_s2 l_s2 u_s2 E_d2 l_d2 u_d2 E_ee l_ee u_ee E_qd l_qd u_qd E_da l_da u_da E_qs l_qs u_qs E_cb l_cb u_cb E_pl l_pl u_pl E_mi l_mi u_mi E_X2 l_X2 u_X2 E_sm l_sm u_sm E_ad l_ad u_ad E_Z2 l_Z2 u_Z2 E_X3 l_X3 u_X3 E_mm l_mm u_mm E_Z3 l_Z3 u_Z3 l_u u_u l_x1 u_x1 l_z1 u_z1 l_x2 u_x2 l_z2 u_z2
 rw[HE.o.1,HE.o.2];clear HE
 have H0:Hid (Bag w [(w.heap.size+1+1+1+1,244,List.replicate 10 0),(w.heap.size+1+1+1,244,List.replicate 10 0),(w.heap.size+1+1,244,x2++z2),(w.heap.size+1,244,x1++z1),(w.heap.size,240,u)] (((((w.alloc (.cells (xH u) 240)).alloc (.cells (xH (x1++z1)) 244)).alloc (.cells (xH (x2++z2)) 244)).alloc (.cells (xH (List.replicate 10 0)) 244)).alloc (.cells (xH (List.replicate 10 0)) 244))):=ι (by
  have h:Bag w [] w:=⟨Below.refl _ _,λ_ _ _ h=>by cases h⟩;have h2:=((((h.new 240 u).new 244 (x1++z1)).new 244 (x2++z2)).new 244 (List.replicate 10 0)).new 244 (List.replicate 10 0);simp only[uX] at h2;exact h2)
 obtain⟨g_s,hgs⟩:∃g,w.heap.size+1+1+1+1=g:=⟨_,rfl⟩;obtain⟨g_r,hgr⟩:∃g,w.heap.size+1+1+1=g:=⟨_,rfl⟩;obtain⟨g_q,hgq⟩:∃g,w.heap.size+1+1=g:=⟨_,rfl⟩;obtain⟨g_p,hgp⟩:∃g,w.heap.size+1=g:=⟨_,rfl⟩;obtain⟨g_u,hgu⟩:∃g,w.heap.size=g:=⟨_,rfl⟩
 have HG:Hid (w.heap.size+1+1+1+1=g_s/\w.heap.size+1+1+1=g_r/\w.heap.size+1+1=g_q/\w.heap.size+1=g_p/\w.heap.size=g_u):=ι ⟨hgs,hgr,hgq,hgp,hgu⟩;clear hgs hgr hgq hgp hgu;go_enter Tryz.func172,Tryz.ntmps172;go_upto_region 1 with fail
 rw[HG.o.1,HG.o.2.1,HG.o.2.2.1,HG.o.2.2.2.1,HG.o.2.2.2.2];rw[HG.o.1,HG.o.2.1,HG.o.2.2.1,HG.o.2.2.2.1,HG.o.2.2.2.2] at H0;refine(λ(h:∀W3,Hid (Bag w _ W3)->Code.wp _ _ _ _ W3)=>h _ H0) ?_;clear H0;intro W0 H0;refine det2 10 12 11 13 240 (List.replicate 5 0) su di H0 ?_;clear H0
 refine RG.aS ?_;refine aP ?_;refine RG.aS ?_;refine aP ?_;refine aC ?_;refine RG.aS ?_;refine aP ?_;refine RG.aS ?_;refine aP ?_;refine aC ?_;refine aN 4 12 ?_;refine aN 4 13 ?_;refine aT 4 10 ?_;refine aT 4 11 ?_;refine RG.wK (λα w4 hw4=>?_);have H0:=ι hw4.o.done;clear hw4
 simp only[Nat.zero_add,Nat.reduceAdd];generalize α 10=g_su at H0⊢;generalize α 11=g_di at H0⊢;go_upto_region 2 with fail
 refine det2 6 8 7 9 240 (List.replicate 5 0) s2 d2 H0 ?_;clear H0;refine aL ?_;refine aL ?_;refine aC ?_;refine aL ?_;refine aL ?_;refine aC ?_;refine aN 4 8 ?_;refine aN 4 9 ?_;refine aT 4 6 ?_;refine aT 4 7 ?_;refine RG.wK (λα w4 hw4=>?_);have H0:=ι hw4.o.done;clear hw4
 simp only[Nat.zero_add,Nat.reduceAdd];generalize α 6=g_s2 at H0⊢;generalize α 7=g_d2 at H0⊢;go_upto_region 3 with fail
 refine wp_region_lit ?_;refine wpList_load_row rfl _ _ rfl g_s2 rfl _ (xH s2) (0,0) _ (H0.o.get (g:=g_s2) (t:=240) (ws:=s2) σ) Tryz.underlying240 rfl I_s2.o ?_
 refine wpList_load_row rfl _ _ rfl g_d2 rfl _ (xH d2) (0,0) _ (H0.o.get (g:=g_d2) (t:=240) (ws:=d2) σ) Tryz.underlying240 rfl I_d2.o ?_;repeat go_step
 refine(C_ee.o _).mono ?_;rintro e w7 ⟨rfl,hb7⟩;have H7:=H0.o.below hb7
 have H9:Bag w ((w7.heap.size,240,ee)::[(g_d2,240,d2),(g_s2,240,s2),(g_di,240,di),(g_su,240,su),(g_s,244,List.replicate 10 0),(g_r,244,List.replicate 10 0),(g_q,244,x2++z2),(g_p,244,x1++z1),(g_u,240,u)]) ((w7.alloc (.cells (xH (List.replicate 5 0)) 240)).setRow w7.heap.size (xH ee)):=((H7.alloc _).far H7.1.size (λg t ws hm=>Nat.ne_of_lt (H7.lt hm)) _).cons H7.1.size (setRow_heap _ _ _ _ _ _ (xL _ _))
 simp only[]
 rename ∀(a:Act) (w:World),wpList _ _ _ _ a w->_=>hk
 refine hk _ _ ?_;clear hk;iterate 3 go_step
 refine wpList_store_row rfl _ _ _ rfl w7.heap.size (xH ee) rfl rfl _ (xH (List.replicate 5 0)) (xL _ _) I_ee.o Z_ee.o (yC _) ?_
 refine(λ(h:∀W3,Hid (Bag w ((w7.heap.size,240,ee)::[(g_d2,240,d2),(g_s2,240,s2),(g_di,240,di),(g_su,240,su),(g_s,244,List.replicate 10 0),(g_r,244,List.replicate 10 0),(g_q,244,x2++z2),(g_p,244,x1++z1),(g_u,240,u)]) W3)->wpList _ _ _ _ _ W3)=>h _ (ι H9)) ?_;clear H7 H9 H0 hb7
 generalize w7.heap.size=g_ee;intro W3 H0;go_upto_region 4 with fail
 refine xT3 7 8 240 (List.replicate 5 0) (da) H0 ?_;clear H0;refine RG.aS ?_;refine aP ?_;refine RG.aS ?_;refine aP ?_;refine aC ?_;refine aL ?_;refine aC ?_;refine aN 3 8 ?_;refine aT 3 7 ?_;refine RG.wK (λα w4 hw4=>?_);have H0:=ι hw4.o.done;clear hw4
 simp only[Nat.zero_add,Nat.reduceAdd];generalize α 7=g_da at H0⊢;go_upto_region 5 with fail
 refine xT3 7 8 240 (List.replicate 5 0) (cb) H0 ?_;clear H0;refine RG.aS ?_;refine aP ?_;refine RG.aS ?_;refine aP ?_;refine aC ?_;refine aL ?_;refine aC ?_;refine aN 3 8 ?_;refine aT 3 7 ?_;refine RG.wK (λα w4 hw4=>?_);have H0:=ι hw4.o.done;clear hw4
 simp only[Nat.zero_add,Nat.reduceAdd];generalize α 7=g_cb at H0⊢;go_upto_region 6 with fail
 refine det2 6 8 7 9 240 (List.replicate 5 0) pl mi H0 ?_;clear H0;refine aL ?_;refine aL ?_;refine aC ?_;refine aL ?_;refine aL ?_;refine aC ?_;refine aN 4 8 ?_;refine aN 4 9 ?_;refine aT 4 6 ?_;refine aT 4 7 ?_;refine RG.wK (λα w4 hw4=>?_);have H0:=ι hw4.o.done;clear hw4
 simp only[Nat.zero_add,Nat.reduceAdd];generalize α 6=g_pl at H0⊢;generalize α 7=g_mi at H0⊢;go_upto_region 7 with fail
 refine xT3 10 11 244 (List.replicate 10 0) (X2++Z2) H0 ?_;clear H0;refine aL ?_;refine aL ?_;refine aC ?_;refine aL ?_;refine aL ?_;refine aL ?_;refine aC ?_;refine aC ?_;refine aC ?_;apply RG.jW
 ·rfl
 ·rfl
 ·intro α L w9 h0 hcl xN hw9;refine wpList_buildTo rfl _ _ rfl _ rfl (xH (X2++Z2)) (by rw[List.map_toArray];exact BP.o) ?_;repeat go_step
  with_reducible exact RG.xD hw9
 ·intro α;rfl
 refine aN 3 11 ?_;refine aT 3 10 ?_;refine RG.wK (λα w4 hw4=>?_);have yFf:=ι (And.intro ((hw4.o.2 rfl).1 g_r 244 (List.replicate 10 0) σ) ((hw4.o.2 rfl).1 g_s 244 (List.replicate 10 0) σ));have H0:=ι hw4.o.done;clear hw4;simp only[Nat.zero_add,Nat.reduceAdd]
 generalize α 10=g_a at yFf H0⊢;go_upto_region 8 with fail
 refine xT3 9 10 244 (List.replicate 10 0) (X3++Z3) H0 ?_;clear H0;refine aL ?_;refine aL ?_;refine aC ?_;refine aL ?_;refine aL ?_;refine aL ?_;refine aC ?_;refine aC ?_;apply RG.jW
 ·rfl
 ·rfl
 ·intro α L w9 h0 hcl xN hw9;refine wpList_buildTo rfl _ _ rfl _ rfl (xH (X3++Z3)) (by rw[List.map_toArray];exact BQ.o) ?_;repeat go_step
  with_reducible exact RG.xD hw9
 ·intro α;rfl
 refine aN 3 10 ?_;refine aT 3 9 ?_;refine RG.wK (λα w4 hw4=>?_);have yFe:=ι (And.intro ((hw4.o.2 rfl).1 g_r 244 (List.replicate 10 0) σ) ((hw4.o.2 rfl).1 g_s 244 (List.replicate 10 0) σ));have H0:=ι hw4.o.done;clear hw4;simp only[Nat.zero_add,Nat.reduceAdd]
 generalize α 9=g_b at yFe H0⊢
 have H6:Hid (FoG 244 w g_a g_b g_r g_s (X2++Z2) (X3++Z3) (List.replicate 10 0) (List.replicate 10 0) w4):=ι (by
  have h1:=HG.o.1;have h2:=HG.o.2.1;have hb:=H0.o
  exact⟨hb.get (g:=g_a) (t:=244) (ws:=X2++Z2) σ,hb.get (g:=g_b) (t:=244) (ws:=X3++Z3) σ,hb.get (g:=g_r) (t:=244) (ws:=List.replicate 10 0) σ,hb.get (g:=g_s) (t:=244) (ws:=List.replicate 10 0) σ,hb.1,Ne.symm yFf.o.1,Ne.symm yFe.o.1,ω,Ne.symm yFf.o.2,Ne.symm yFe.o.2,ω,ω⟩)
 clear H0;go_upto_region 9 with fail
 refine RG.yT 4 (λL W=>Hid (FoG 244 w g_a g_b g_r g_s (X2++Z2) (X3++Z3) (if L 2 then X2++Z2 else List.replicate 10 0) (if L 3 then X3++Z3 else List.replicate 10 0) W)) (λL L' W h hI=>by rw[<-h 2 δ,<-h 3 δ];exact hI) κ κ rfl (ι H6.o.drew) ?_;clear H6;apply RG.xR
 ·rfl
 ·rfl
 ·intro L w9 h0 hcl xN hw9;refine wpList_load_row rfl _ _ rfl g_a rfl _ (xH (X2++Z2)) (0,0) _ hw9.o.ba Tryz.underlying244 rfl IP.o ?_;repeat go_step
  with_reducible refine RG.xD ?_
  exact⟨xN,hw9⟩
 ·rfl
 apply RG.xR
 ·rfl
 ·rfl
 ·intro L w9 h0 hcl xN hw9;refine wpList_load_row rfl _ _ rfl g_b rfl _ (xH (X3++Z3)) (0,0) _ hw9.o.bb Tryz.underlying244 rfl IQ.o ?_;repeat go_step
  with_reducible refine RG.xD ?_
  exact⟨xN,hw9⟩
 ·rfl
 apply RG.xR
 ·rfl
 ·rfl
 ·intro L w9 h0 hcl xN hw9;have hs9:=hw9.o;rw[h0,if_neg σ] at hs9;refine wpList_store_row rfl _ _ _ rfl g_r (xH (X2++Z2)) rfl rfl _ _ hs9.br IP.o ZP.o (yC _) ?_;repeat go_step
  with_reducible refine RG.xD ?_
  exact⟨xN,ι (hs9.rowR (X2++Z2))⟩
 ·rfl
 apply RG.xR
 ·rfl
 ·rfl
 ·intro L w9 h0 hcl xN hw9;have hs9:=hw9.o;rw[h0,if_neg (c:=false=true) σ] at hs9;refine wpList_store_row rfl _ _ _ rfl g_s (xH (X3++Z3)) rfl rfl _ _ hs9.bs IQ.o ZQ.o (yC _) ?_;repeat go_step
  with_reducible refine RG.xD ?_
  exact⟨xN,ι (hs9.rowS (X3++Z3))⟩
 ·rfl
 refine RG.yI (λw9 hw9=>?_);rw[if_pos rfl,if_pos rfl] at hw9;go_wp2;refine bodyPost_ret (jL rfl _ _ g_r g_s _ _ _ _ (0,0) (0,0) _ rfl rfl hw9.o.br hw9.o.bs Tryz.underlying244 rfl IP.o IQ.o) rfl ?_;exact⟨rfl,hw9.o.bel⟩
end Go.Proofs.FE
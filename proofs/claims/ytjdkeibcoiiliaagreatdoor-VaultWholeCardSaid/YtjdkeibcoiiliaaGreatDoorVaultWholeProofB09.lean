/- Contracts of functions. Conditions: as stated. -/
import Derived.Test.YtjdkeibcoiiliaaGreatDoorVaultWholeProofB08
import Derived.Great.BuildSlice
open Go.Proofs.Tryz
set_option maxHeartbeats 8000000
set_option maxRecDepth 100000
namespace Mailsack
def yCq (a:List Int):List Int:=vP a a
def yCp (a:List Int):List Int:=vP (sqI (yCq a) 2) a
def xT5 (a:List Int):List Int:=vP (yCp a) (yCq a)
def yCr (a:List Int):List Int:=vP (sqI (xT5 a) 1) (yCp a)
def xO2 (a:List Int):List Int:=vP (sqI (yCr a) 5) (yCr a)
def xT6 (a:List Int):List Int:=vP (sqI (xO2 a) 10) (xO2 a)
def yCs (a:List Int):List Int:=vP (sqI (xT6 a) 20) (xT6 a)
def xO0 (a:List Int):List Int:=vP (sqI (yCs a) 10) (xO2 a)
def xO1 (a:List Int):List Int:=vP (sqI (xO0 a) 50) (xO0 a)
def xVh (a:List Int):List Int:=vP (sqI (xO1 a) 100) (xO1 a)
def xVg (a:List Int):List Int:=vP (sqI (xVh a) 50) (xO0 a)
def xF7 (a:List Int):List Int:=vP (sqI (xVg a) 5) (xT5 a)
theorem xQs (a:List Int):(xF7 a).length=5:=zY _ _
theorem yDm (a:List Int):yT (xF7 a):=jP _ _
end Mailsack
namespace Go.Proofs.FE
open Go.RowKit Mailsack MM BB SH
theorem xEk (x y:List Int) (n:Nat) (k:Int) (hk:k=n) (hn:n<=1000) (hx:x.length=5) (ux:yT x) (hy:y.length=5) (uy:yT y):∃s v,Hid (∀W,Calls prog 172 #[.agg (xI x),.int .i64 k] W (pv (.agg (xI s)) W))/\
  Hid (∀W,Calls prog 123 #[.agg (xI s),.agg (xI y)] W (pv (.agg (xI v)) W))/\v=vP (sqI x n) y/\v.length=5/\yT v:=
 ⟨sqI x n,_,ι (λW=>by rw[hk];exact xSe x n W hx ux hn),ι (λW=>xBw _ _ W (xIw hx n) (yK1 ux n) hy uy),rfl,zY _ _,jP _ _⟩
theorem one_mul (x y:List Int) (hx:x.length=5) (ux:yT x) (hy:y.length=5) (uy:yT y):∃v,
  Hid (∀W,Calls prog 123 #[.agg (xI x),.agg (xI y)] W (pv (.agg (xI v)) W))/\v=vP x y/\v.length=5/\yT v:=
 ⟨_,ι (λW=>xBw _ _ W hx ux hy uy),rfl,zY _ _,jP _ _⟩
theorem uO (ws:List Int) (h:ws.length=5):Hid ((prog.info? 188).map (·.size)=some (xI ws).size):=ι (vW h)
theorem wV (ws:List Int) (h:ws.length=5):Hid ((xI (List.replicate 5 0)).size=(xI ws).size):=ι (xCp σ h)
theorem xY4 (ax:List Int) (w:World) (l_ax:ax.length=5) (u_ax:yT ax):
  Calls prog 124 #[.agg (xI ax)] w (pv (.agg (xI (xF7 ax))) w):=by
 have I_ax:=uO ax l_ax;obtain⟨p2,M_p2,E_p2,l_p2,u_p2⟩:=one_mul ax ax l_ax u_ax l_ax u_ax;have I_p2:=uO p2 l_p2;have Z_p2:=wV p2 l_p2;obtain⟨s_p9,p9,S_p9,M_p9,E_p9,l_p9,u_p9⟩:=xEk p2 ax 2 2 rfl δ l_p2 u_p2 l_ax u_ax;have I_p9:=uO p9 l_p9;have Z_p9:=wV p9 l_p9
 obtain⟨p11,M_p11,E_p11,yCf,yJp⟩:=one_mul p9 p2 l_p9 u_p9 l_p2 u_p2;have I_p11:=uO p11 yCf;have Z_p11:=wV p11 yCf;obtain⟨s_o5,o5,S_o5,M_o5,E_o5,l_o5,u_o5⟩:=xEk p11 p9 1 1 rfl δ yCf yJp l_p9 u_p9;have I_o5:=uO o5 l_o5;have Z_o5:=wV o5 l_o5
 obtain⟨s_o10,o10,S_o10,M_o10,E_o10,xY1,yFg⟩:=xEk o5 o5 5 5 rfl δ l_o5 u_o5 l_o5 u_o5;have I_o10:=uO o10 xY1;have Z_o10:=wV o10 xY1;obtain⟨s_o20,o20,S_o20,M_o20,E_o20,yCg,yJq⟩:=xEk o10 o10 10 10 rfl δ xY1 yFg xY1 yFg;have I_o20:=uO o20 yCg;have Z_o20:=wV o20 yCg
 obtain⟨s_o40,o40,S_o40,M_o40,E_o40,yH4,u_o40⟩:=xEk o20 o20 20 20 rfl δ yCg yJq yCg yJq;have I_o40:=uO o40 yH4;have Z_o40:=wV o40 yH4;obtain⟨s_o50,o50,S_o50,M_o50,E_o50,xY0,yFf⟩:=xEk o40 o10 10 10 rfl δ yH4 u_o40 xY1 yFg;have I_o50:=uO o50 xY0;have Z_o50:=wV o50 xY0
 obtain⟨s_o100,yGh,S_o100,M_o100,yJ8,xQb,yA7⟩:=xEk o50 o50 50 50 rfl δ xY0 yFf xY0 yFf;have I_o100:=uO yGh xQb;have Z_o100:=wV yGh xQb;obtain⟨s_o200,yKq,S_o200,M_o200,yJ7,xVe,yId⟩:=xEk yGh yGh 100 100 rfl δ xQb yA7 xQb yA7;have I_o200:=uO yKq xVe;have Z_o200:=wV yKq xVe
 obtain⟨s_o250,yGg,S_o250,M_o250,yJ6,xVd,yIc⟩:=xEk yKq o50 50 50 rfl δ xVe yId xY0 yFf;have I_o250:=uO yGg xVd;have Z_o250:=wV yGg xVd;obtain⟨s_res,res,S_res,M_res,E_res,yL8,u_res⟩:=xEk yGg p11 5 5 rfl δ xVd yIc yCf yJp;have I_res:=uO res yL8;have Z_res:=wV res yL8
 have HE:Hid (res=xF7 ax):=ι (by
  subst E_p2 E_p9 E_p11 E_o5 E_o10 E_o20 E_o40 E_o50 yJ8 yJ7 yJ6 E_res
  rfl)
 clear E_p2 l_p2 u_p2 E_p9 l_p9 u_p9 E_p11 yCf yJp E_o5 l_o5 u_o5 E_o10 xY1 yFg E_o20 yCg yJq E_o40 yH4 u_o40 E_o50 xY0 yFf yJ8 xQb yA7 yJ7 xVe yId yJ6 xVd yIc E_res yL8 u_res l_ax u_ax
 have H0:Hid (Bag w [(w.heap.size+1,188,List.replicate 5 0),(w.heap.size,188,ax)] ((w.alloc (.cells (xI ax) 188)).alloc (.cells (xI (List.replicate 5 0)) 188))):=ι (by
  have h:Bag w [] w:=⟨Aq _ _,λ_ _ _ h=>by cases h⟩;have h2:=(h.new 188 ax).new 188 (List.replicate 5 0)
  rwa [wY] at h2)
 obtain⟨yHg,hga⟩:=eX w.heap.size;obtain⟨g_z,hgz⟩:=eX (w.heap.size+1);have HGA:=ι hga;have HGZ:=ι hgz;clear hga hgz;go_enter func124,ntmps124;go_upto_region 1 with fail
 rw[HGZ.o,HGA.o];rw[HGZ.o,HGA.o] at H0;refine(λ(h:∀W3,Hid (Bag w _ W3)->Code.wp _ _ _ _ W3)=>h _ H0) ?_;clear H0;intro W0 H0;refine Bi ?_
 refine Ao rfl _ _ rfl yHg rfl _ (xI ax) (0,0) _ (H0.o.get (g:=yHg) (t:=188) (ws:=ax) σ) underlying188 rfl I_ax.o ?_;refine Ao rfl _ _ rfl yHg rfl _ (xI ax) (0,0) _ (H0.o.get (g:=yHg) (t:=188) (ws:=ax) σ) underlying188 rfl I_ax.o ?_
 repeat go_step
 refine cM (M_p2.o _) λw7 hb7=>?_;have H7:=H0.o.below hb7;have H8:=H7.new 188 (List.replicate 5 0)
 have H9:Bag w ((w7.heap.size,188,p2)::[(g_z,188,List.replicate 5 0),(yHg,188,ax)]) ((w7.alloc (.cells (xI (List.replicate 5 0)) 188)).setRow w7.heap.size (xI p2)):=((H7.alloc _).far H7.1.size (λg t ws hm=>Nat.ne_of_lt (H7.lt hm)) _).cons H7.1.size (Bp _ _ _ _ _ _ (xJ _ _))
 simp only[]
 rename ∀(a:Act) (w:World),wpList _ _ _ _ a w->_=>hk
 refine hk _ _ ?_;clear hk;iterate 3 go_step
 refine Av rfl _ _ _ rfl w7.heap.size (xI p2) rfl rfl _ (xI (List.replicate 5 0)) (xJ _ _) I_p2.o Z_p2.o (yM _) ?_;refine(λ(h:∀W3,Hid (Bag w ((w7.heap.size,188,p2)::[(g_z,188,List.replicate 5 0),(yHg,188,ax)]) W3)->wpList _ _ _ _ _ W3)=>h _ (ι H9)) ?_
 clear H7 H8 H9 H0 hb7;generalize w7.heap.size=g_p2;intro W3 H0;go_upto_region 2 with fail
 refine xYg 4 5 188 (List.replicate 5 0) p9 H0 ?_;refine aL ?_;refine aC ?_;refine aL ?_;refine aC ?_;refine aN 2 5 ?_;refine aT 2 4 ?_;clear H0;refine RG.kM (λα w4 hw4=>?_);have H0:=ι hw4.o.done;clear hw4;simp only[Ay,Nat.reduceAdd];generalize α 4=g_p9 at H0⊢
 go_upto_region 3 with fail
 refine Bi ?_;refine Ao rfl _ _ rfl g_p9 rfl _ (xI p9) (0,0) _ (H0.o.get (g:=g_p9) (t:=188) (ws:=p9) σ) underlying188 rfl I_p9.o ?_
 refine Ao rfl _ _ rfl g_p2 rfl _ (xI p2) (0,0) _ (H0.o.get (g:=g_p2) (t:=188) (ws:=p2) σ) underlying188 rfl I_p2.o ?_;repeat go_step
 refine cM (M_p11.o _) λw7 hb7=>?_;have H7:=H0.o.below hb7;have H8:=H7.new 188 (List.replicate 5 0)
 have H9:Bag w ((w7.heap.size,188,p11)::[(g_p9,188,p9),(g_p2,188,p2),(g_z,188,List.replicate 5 0),(yHg,188,ax)]) ((w7.alloc (.cells (xI (List.replicate 5 0)) 188)).setRow w7.heap.size (xI p11)):=((H7.alloc _).far H7.1.size (λg t ws hm=>Nat.ne_of_lt (H7.lt hm)) _).cons H7.1.size (Bp _ _ _ _ _ _ (xJ _ _))
 simp only[]
 rename ∀(a:Act) (w:World),wpList _ _ _ _ a w->_=>hk
 refine hk _ _ ?_;clear hk;iterate 3 go_step
 refine Av rfl _ _ _ rfl w7.heap.size (xI p11) rfl rfl _ (xI (List.replicate 5 0)) (xJ _ _) I_p11.o Z_p11.o (yM _) ?_
 refine(λ(h:∀W3,Hid (Bag w ((w7.heap.size,188,p11)::[(g_p9,188,p9),(g_p2,188,p2),(g_z,188,List.replicate 5 0),(yHg,188,ax)]) W3)->wpList _ _ _ _ _ W3)=>h _ (ι H9)) ?_;clear H7 H8 H9 H0 hb7;generalize w7.heap.size=yLp;intro W3 H0;go_upto_region 4 with fail
 refine xYg 4 5 188 (List.replicate 5 0) o5 H0 ?_;refine aL ?_;refine aC ?_;refine aL ?_;refine aC ?_;refine aN 2 5 ?_;refine aT 2 4 ?_;clear H0;refine RG.kM (λα w4 hw4=>?_);have H0:=ι hw4.o.done;clear hw4;simp only[Ay,Nat.reduceAdd];generalize α 4=g_o5 at H0⊢
 go_upto_region 5 with fail
 refine xYg 4 5 188 (List.replicate 5 0) o10 H0 ?_;refine aL ?_;refine aC ?_;refine aL ?_;refine aC ?_;refine aN 2 5 ?_;refine aT 2 4 ?_;clear H0;refine RG.kM (λα w4 hw4=>?_);have H0:=ι hw4.o.done;clear hw4;simp only[Ay,Nat.reduceAdd];generalize α 4=g_o10 at H0⊢
 go_upto_region 6 with fail
 refine xYg 4 5 188 (List.replicate 5 0) o20 H0 ?_;refine aL ?_;refine aC ?_;refine aL ?_;refine aC ?_;refine aN 2 5 ?_;refine aT 2 4 ?_;clear H0;refine RG.kM (λα w4 hw4=>?_);have H0:=ι hw4.o.done;clear hw4;simp only[Ay,Nat.reduceAdd];generalize α 4=g_o20 at H0⊢
 go_upto_region 7 with fail
 refine xYg 4 5 188 (List.replicate 5 0) o40 H0 ?_;refine aL ?_;refine aC ?_;refine aL ?_;refine aC ?_;refine aN 2 5 ?_;refine aT 2 4 ?_;clear H0;refine RG.kM (λα w4 hw4=>?_);have H0:=ι hw4.o.done;clear hw4;simp only[Ay,Nat.reduceAdd];generalize α 4=g_o40 at H0⊢
 go_upto_region 8 with fail
 refine xYg 4 5 188 (List.replicate 5 0) o50 H0 ?_;refine aL ?_;refine aC ?_;refine aL ?_;refine aC ?_;refine aN 2 5 ?_;refine aT 2 4 ?_;clear H0;refine RG.kM (λα w4 hw4=>?_);have H0:=ι hw4.o.done;clear hw4;simp only[Ay,Nat.reduceAdd];generalize α 4=g_o50 at H0⊢
 go_upto_region 9 with fail
 refine xYg 4 5 188 (List.replicate 5 0) yGh H0 ?_;refine aL ?_;refine aC ?_;refine aL ?_;refine aC ?_;refine aN 2 5 ?_;refine aT 2 4 ?_;clear H0;refine RG.kM (λα w4 hw4=>?_);have H0:=ι hw4.o.done;clear hw4;simp only[Ay,Nat.reduceAdd];generalize α 4=g_o100 at H0⊢
 go_upto_region 10 with fail
 refine xYg 4 5 188 (List.replicate 5 0) yKq H0 ?_;refine aL ?_;refine aC ?_;refine aL ?_;refine aC ?_;refine aN 2 5 ?_;refine aT 2 4 ?_;clear H0;refine RG.kM (λα w4 hw4=>?_);have H0:=ι hw4.o.done;clear hw4;simp only[Ay,Nat.reduceAdd];generalize α 4=g_o200 at H0⊢
 go_upto_region 11 with fail
 refine xYg 4 5 188 (List.replicate 5 0) yGg H0 ?_;refine aL ?_;refine aC ?_;refine aL ?_;refine aC ?_;refine aN 2 5 ?_;refine aT 2 4 ?_;clear H0;refine RG.kM (λα w4 hw4=>?_);have H0:=ι hw4.o.done;clear hw4;simp only[Ay,Nat.reduceAdd];generalize α 4=yD7 at H0⊢
 go_upto_region 12 with fail
 refine RG.zA 5 (λL W=>Hid ((L 4=false->Bag w [(yD7,188,yGg),(g_o200,188,yKq),(g_o100,188,yGh),(g_o50,188,o50),(g_o40,188,o40),(g_o20,188,o20),(g_o10,188,o10),(g_o5,188,o5),(yLp,188,p11),(g_p9,188,p9),(g_p2,188,p2),(g_z,188,List.replicate 5 0),(yHg,188,ax)] W)/\(L 4=true->ψ w W/\wL 188 W g_z res))) (λL L' W h hI=>by rw[<-h 4 δ];exact hI) κ κ rfl (ι ⟨λ_=>H0.o.drew,λh=>by cases h⟩) ?_
 clear H0;apply RG.xS
 ·rfl
 ·rfl
 ·intro L w9 h0 hcl xQ hw9;have e:=hcl.not 5 (i:=4) h0 κ;have hb:=hw9.o.1 e;refine Ao rfl _ _ rfl yD7 rfl _ (xI yGg) (0,0) _ (hb.get (g:=yD7) (t:=188) (ws:=yGg) σ) underlying188 rfl I_o250.o ?_;repeat go_step
  refine RG.xE ?_;exact⟨xQ,hw9⟩
 ·rfl
 apply RG.xS
 ·rfl
 ·rfl
 ·intro L w9 h0 hcl xQ hw9;have e:=hcl.not 5 (i:=4) h0 κ;have hb:=hw9.o.1 e;repeat go_step
  refine(S_res.o _).mono ?_;rintro e w10 ⟨rfl,zO⟩;simp only[];repeat go_step
  refine RG.xE ?_;refine⟨xQ,ι ⟨λ_=>hb.below zO,λh4=>?_⟩⟩;have h5:L 4=true:=h4;rw[e] at h5;cases h5
 ·rfl
 apply RG.xS
 ·rfl
 ·rfl
 ·intro L w9 h0 hcl xQ hw9;have e:=hcl.not 5 (i:=4) h0 κ;have hb:=hw9.o.1 e;refine Ao rfl _ _ rfl yLp rfl _ (xI p11) (0,0) _ (hb.get (g:=yLp) (t:=188) (ws:=p11) σ) underlying188 rfl I_p11.o ?_;repeat go_step
  refine RG.xE ?_;exact⟨xQ,hw9⟩
 ·rfl
 apply RG.xS
 ·rfl
 ·rfl
 ·intro L w9 h0 hcl xQ hw9;have e:=hcl.not 5 (i:=4) h0 κ;have hb:=hw9.o.1 e;repeat go_step
  refine(M_res.o _).mono ?_;rintro e w10 ⟨rfl,zO⟩;simp only[];repeat go_step
  refine RG.xE ?_;refine⟨xQ,ι ⟨λ_=>hb.below zO,λh4=>?_⟩⟩;have h5:L 4=true:=h4;rw[e] at h5;cases h5
 ·rfl
 apply RG.xS
 ·rfl
 ·rfl
 ·intro L w9 h0 hcl xQ hw9;have hb:=hw9.o.1 h0;have hz:=hb.get (g:=g_z) (t:=188) (ws:=List.replicate 5 0) σ;have hg:=(hb.2 g_z 188 (List.replicate 5 0) σ).1;refine Av rfl _ _ _ rfl g_z (xI res) rfl rfl _ (xI (List.replicate 5 0)) hz I_res.o Z_res.o (yM _) ?_
  repeat go_step
  refine RG.xE ?_;exact⟨xQ,ι ⟨λh=>(by cases h),λ_=>⟨Bn hb.1 hg _,Bp _ _ _ _ _ _ hz⟩⟩⟩
 ·rfl
 refine RG.yY (λw9 hw9=>?_);obtain⟨hbl,hres⟩:=hw9.o.2 rfl;have HBL:=ι hbl;have HRS:=ι hres;clear hw9 hbl hres;go_wp2;refine Ak (Dn rfl _ _ g_z _ _ (0,0) _ rfl HRS.o underlying188 rfl I_res.o) rfl ?_;rw[HE.o];exact⟨rfl,HBL.o⟩
end Go.Proofs.FE
namespace Mailsack
def xX6 (x z:List Int):List Int:=xHu x z
def xX7 (x z:List Int):List Int:=xHt x z
def yK0 (x z:List Int):List Int:=vP (xX6 x z) (xX6 x z)
def stD2 (x z:List Int):List Int:=vP (xX7 x z) (xX7 x z)
def stE (x z:List Int):List Int:=xHt (yK0 x z) (stD2 x z)
def stDA (x1 z1 x2 z2:List Int):List Int:=vP (xHt x2 z2) (xX6 x1 z1)
def stCB (x1 z1 x2 z2:List Int):List Int:=vP (xHu x2 z2) (xX7 x1 z1)
def stP (x1 z1 x2 z2:List Int):List Int:=xHu (stDA x1 z1 x2 z2) (stCB x1 z1 x2 z2)
def stM (x1 z1 x2 z2:List Int):List Int:=xHt (stDA x1 z1 x2 z2) (stCB x1 z1 x2 z2)
def stX2 (x1 z1:List Int):List Int:=vP (yK0 x1 z1) (stD2 x1 z1)
def stZ2 (x1 z1:List Int):List Int:=vP (stE x1 z1) (xHu (yK0 x1 z1) (xF5 (stE x1 z1) 121665))
def stX3 (x1 z1 x2 z2:List Int):List Int:=vP (stP x1 z1 x2 z2) (stP x1 z1 x2 z2)
def stZ3 (u x1 z1 x2 z2:List Int):List Int:=vP u (vP (stM x1 z1 x2 z2) (stM x1 z1 x2 z2))
end Mailsack
namespace Go.Proofs.FE
open Go.RowKit Mailsack MM BB SH
def J2 (w:World) (B:List (Nat×TypeId×List Int)) (n s n' s':Nat) (t:TypeId) (zs v v':List Int) (L:Nat->Bool) (α:RG.Pl) (W:World):Prop:=
 J1 w B n s t zs v L α W/\J1 w B n' s' t zs v' L α W/\(L n=true->L n'=true->α n≠α n')
section
variable {w W W':World} {B:List (Nat×TypeId×List Int)} {n s n' s':Nat} {t:TypeId} {zs v v':List Int} {L:Nat->Bool} {α:RG.Pl}
theorem J2.congr {L':Nat->Bool} {α':RG.Pl} (hn:L n=L' n) (hs:L s=L' s) (ha:L n=true->α n=α' n) (hn':L n'=L' n') (hs':L s'=L' s') (ha':L n'=true->α n'=α' n') (h:J2 w B n s n' s' t zs v v' L α W):J2 w B n s n' s' t zs v v' L' α' W:=
 ⟨h.1.congr hn hs ha,h.2.1.congr hn' hs' ha',λh1 h2=>by rw[<-hn] at h1;rw[<-hn'] at h2;rw[<-ha h1,<-ha' h2];exact h.2.2 h1 h2⟩
theorem J2.start (h:Bag w B W):J2 w B n s n' s' t zs v v' (λ_=>false) α W.drew:=⟨J1.start h,J1.start h,λh=>by cases h⟩
theorem J2.below (h:J2 w B n s n' s' t zs v v' L α W) (hb:ψ W W'):J2 w B n s n' s' t zs v v' L α W':=⟨h.1.below hb,h.2.1.below hb,h.2.2⟩
theorem J1.yCh (h:J1 w B n s t zs v L α W) {m:Nat} (hm:n≠m) (hs:s≠m) (o:Obj):J1 w B n s t zs v (λj=>j==m||L j) (RG.rM α m W.heap.size) (W.alloc o):=by
 have h2:=h.below (W':=W.alloc o) ((Aq _ W).alloc ν o);refine h2.congr ?_ ?_ (λ_=>?_)
 ·show L n=(n==m||L n);rw[show(n==m)=false by simpa using hm,Fu]
 ·show L s=(s==m||L s);rw[show(s==m)=false by simpa using hs,Fu]
 ·rw[RG.xDy _ _ _ hm]
theorem J2.rP (h:J2 w B n s n' s' t zs v v' L α W) (hs:L s=false) (h1:s≠n) (h2:n'≠n) (h3:s'≠n):J2 w B n s n' s' t zs v v' (λj=>j==n||L j) (RG.rM α n W.heap.size) (W.alloc (.cells (xI zs) t)):=
 ⟨h.1.new hs h1,h.2.1.yCh h2 h3 _,λ_ hb=>by
  have hb':L n'=true:=by simpa[h2] using hb
  rw[RG.xBs,RG.xDy _ _ _ h2];have:=xH (h.2.1.2 hb').2.2.blk;omega⟩
theorem J2.newB (h:J2 w B n s n' s' t zs v v' L α W) (hs:L s'=false) (h1:s'≠n') (h2:n≠n') (h3:s≠n'):J2 w B n s n' s' t zs v v' (λj=>j==n'||L j) (RG.rM α n' W.heap.size) (W.alloc (.cells (xI zs) t)):=
 ⟨h.1.yCh h2 h3 _,h.2.1.new hs h1,λhb _=>by
  have hb':L n=true:=by simpa[h2] using hb
  rw[RG.xBs,RG.xDy _ _ _ h2];have:=xH (h.1.2 hb').2.2.blk;omega⟩
theorem J1.xVf (h:J1 w B n s t zs v L α W) {m g:Nat} (hm:n≠m) (hs:s≠m) (hg:w.heap.size<=g) (hf:∀g' t ws,(g',t,ws)∈B->g'≠g) (hne:L n=true->α n≠g) (cs:Array Value):J1 w B n s t zs v (λj=>j==m||L j) α (W.setRow g cs):=by
 refine⟨h.1.far hg hf _,λh1=>?_⟩;have h1':L n=true:=by simpa[hm] using h1
 obtain⟨a1,a2,a3⟩:=h.2 h1';refine⟨a1,a2,?_⟩;rw[show(λj=>j==m||L j) s=L s by show(s==m||L s)=L s;rw[show(s==m)=false by simpa using hs,Fu]];exact(Bj _ _ _ _ (hne h1')).trans a3
theorem J2.fillA (h:J2 w B n s n' s' t zs v v' L α W) (hn:L n=true) (h1:n'≠s) (h2:s'≠s):J2 w B n s n' s' t zs v v' (λj=>j==s||L j) α (W.setRow (α n) (xI v)):=
 ⟨h.1.fill hn,h.2.1.xVf h1 h2 (h.1.2 hn).2.1 (h.1.2 hn).1 (λhb e=>h.2.2 hn hb e.symm) _,λ_ hb=>h.2.2 hn (by simpa[h1] using hb)⟩
theorem J2.fillB (h:J2 w B n s n' s' t zs v v' L α W) (hn:L n'=true) (h1:n≠s') (h2:s≠s'):J2 w B n s n' s' t zs v v' (λj=>j==s'||L j) α (W.setRow (α n') (xI v')):=
 ⟨h.1.xVf h1 h2 (h.2.1.2 hn).2.1 (h.2.1.2 hn).1 (λhb e=>h.2.2 hb hn e) _,h.2.1.fill hn,λhb _=>h.2.2 (by simpa[h1] using hb) hn⟩
theorem J2.done (h:J2 w B n s n' s' t zs v v' (λ_=>true) α W):Bag w ((α n',t,v')::(α n,t,v)::B) W:=by
 obtain⟨a1,a2,a3⟩:=h.2.1.2 rfl;rw[Ah rfl] at a3;exact h.1.done.cons a2 a3
end
section
variable {md:Region.Mode} {ops:Array Oper} {E N:List Nat} {J:(Nat->Bool)->RG.Pl->World->Prop} {K:RG.Pl->Act->Prop} {a A:RG.Pl->Act} {v:Value} {i:Nat} {o:Oper} {os:List Oper}
theorem aP (h2:RG.vR prog ops md E N J K os (i+1) A) (hi:N.contains i=false:=by rfl) (he:E.contains i=false:=by rfl) (h:∀α L w,L i=false->RG.closed ops md L->RG.closed ops md (λj=>j==i||L j)->J L α w->wpList prog ops (RG.Only (J L α) (A α)) [o] (a α) w:=by
 intro α L w9 h0 hcl xQ hw9
 first
 |refine vG rfl _ _ rfl _ 0 rfl (xI _) _ (xG0 (Bag.get (J1.bag hw9.o) (by repeat (first|exact List.Mem.head _|apply List.Mem.tail)))) underlying188 rfl (Hid.o (by with_reducible assumption)) ?_
 |refine vG rfl _ _ rfl _ 0 rfl (xI _) _ (xG0 (Bag.get (J1.bag hw9.o.1) (by repeat (first|exact List.Mem.head _|apply List.Mem.tail)))) underlying188 rfl (Hid.o (by with_reducible assumption)) ?_
 |refine vG rfl _ _ rfl _ 5 rfl (xI _) _ (xFz (Bag.get (J1.bag hw9.o) (by repeat (first|exact List.Mem.head _|apply List.Mem.tail))) (Hid.o (by with_reducible assumption))) underlying188 rfl (Hid.o (by with_reducible assumption)) ?_
 |refine vG rfl _ _ rfl _ 5 rfl (xI _) _ (xFz (Bag.get (J1.bag hw9.o.1) (by repeat (first|exact List.Mem.head _|apply List.Mem.tail))) (Hid.o (by with_reducible assumption))) underlying188 rfl (Hid.o (by with_reducible assumption)) ?_
 repeat go_step
 exact RG.xE hw9) (hd:∀α,A α=(a α).put o.dst v:=by intro α;rfl):RG.vR prog ops md E N J K (o::os) i a:=RG.pK hi he h hd h2
theorem det2 {id:Nat} {l:List Oper} {a:Act} {W0 w:World} {Q:Exit->Act->World->Prop} {B:List (Nat×TypeId×List Int)} (n s n' s':Nat) (t:TypeId) (zs v v':List Int) (H0:Hid (Bag w B W0))
  (h:RG.vR prog l.toArray .any [s,s'] [n,n'] (λL α W=>Hid (J2 w B n s n' s' t zs v v' L α W)) (λα a=>∀w9,Hid (J2 w B n s n' s' t zs v v' (λ_=>true) α w9)->Q .normal a w9) l 0 (λ_=>a)) (hm:prog.follows .mixedOrders=true:=by kernel_rfl) (hf:RG.fits .any l.toArray=true:=by kernel_rfl) (hE:(([s,s']++[n,n']).all λe=>decide (e<l.length))=true:=by kernel_rfl):
  (Code.region id l.toArray true).wp prog Q a W0:=
 RG.rR [s,s'] [n,n'] (λL α W=>Hid (J2 w B n s n' s' t zs v v' L α W)) (λL L' α α' W hl ha h=>ι (J2.congr (hl n σ) (hl s σ) (ha n σ) (hl n' σ) (hl s' σ) (ha n' σ) h.o)) hm hf hE (ι (J2.start H0.o)) h
end
structure FoG (t:TypeId) (w:World) (ga gb gr gs:Nat) (ax bx rx sx:List Int) (W:World):Prop where
 ba:wL t W ga ax
 bb:wL t W gb bx
 br:wL t W gr rx
 bs:wL t W gs sx
 bel:ψ w W
 ne:ga≠gr/\gb≠gr/\gs≠gr/\ga≠gs/\gb≠gs/\w.heap.size<=gr/\w.heap.size<=gs
section
variable {t:TypeId} {w W W':World} {ga gb gr gs:Nat} {ax bx rx sx:List Int}
theorem FoG.drew (h:FoG t w ga gb gr gs ax bx rx sx W):FoG t w ga gb gr gs ax bx rx sx W.drew:=⟨h.ba,h.bb,h.br,h.bs,h.bel.drew,h.ne⟩
theorem FoG.rowR (h:FoG t w ga gb gr gs ax bx rx sx W) (xs:List Int):FoG t w ga gb gr gs ax bx xs sx (W.setRow gr (xI xs)):=by
 obtain⟨n1,n2,n3,n4,n5,n6,n7⟩:=h.ne;exact⟨(Bj _ _ _ _ n1).trans h.ba,(Bj _ _ _ _ n2).trans h.bb,Bp _ _ _ _ _ _ h.br,(Bj _ _ _ _ n3).trans h.bs,Bn h.bel n6 _,h.ne⟩
theorem FoG.rowS (h:FoG t w ga gb gr gs ax bx rx sx W) (xs:List Int):FoG t w ga gb gr gs ax bx rx xs (W.setRow gs (xI xs)):=by
 obtain⟨n1,n2,n3,n4,n5,n6,n7⟩:=h.ne;exact⟨(Bj _ _ _ _ n4).trans h.ba,(Bj _ _ _ _ n5).trans h.bb,(Bj _ _ _ _ (En n3)).trans h.br,Bp _ _ _ _ _ _ h.bs,Bn h.bel n7 _,h.ne⟩
end
theorem xH7 {x z:List Int} (hx:x.length=5) (hz:z.length=5):prog.built 192 [(0,.agg (xI x)),(1,.agg (xI z))]=some (xI (x++z)):=by
 obtain⟨a,b,c,d,e,rfl⟩:=jX hx;obtain⟨a',b',c',d',e',rfl⟩:=jX hz
 kernel_rfl
theorem xUt (x y:List Int) (hx:x.length=5) (ux:yT x) (hy:y.length=5) (uy:yT y):∃v,Hid (∀W,Calls prog 166 #[.agg (xI x),.agg (xI y)] W (pv (.agg (xI v)) W))/\v=xHu x y/\v.length=5/\yT v:=
 ⟨_,ι (λW=>yMc _ _ W hx ux hy uy),rfl,xDk _ _,xK5 _ _⟩
theorem xUs (x y:List Int) (hx:x.length=5) (ux:yT x) (hy:y.length=5) (uy:yT y):∃v,Hid (∀W,Calls prog 167 #[.agg (xI x),.agg (xI y)] W (pv (.agg (xI v)) W))/\v=xHt x y/\v.length=5/\yT v:=
 ⟨_,ι (λW=>yJy _ _ W hx ux hy uy),rfl,xDj _ _,xK4 _ _⟩
theorem xFu (x y:List Int) (hx:x.length=5) (ux:yT x) (hy:y.length=5) (uy:yT y):∃v,Hid (∀W,Calls prog 123 #[.agg (xI x),.agg (xI y)] W (pv (.agg (xI v)) W))/\v=vP x y/\v.length=5/\yT v:=
 ⟨_,ι (λW=>xBw _ _ W hx ux hy uy),rfl,zY _ _,jP _ _⟩
theorem yGd (x:List Int) (hx:x.length=5) (ux:yT x):∃v,Hid (∀W,Calls prog 168 #[.agg (xI x),.int .u32 121665] W (pv (.agg (xI v)) W))/\v=xF5 x 121665/\v.length=5/\yT v:=
 ⟨_,ι (λW=>yAw _ _ W hx ux δ δ),rfl,zY _ _,jP _ _⟩
theorem xDb (x z:List Int) (h:x.length=5) (h2:z.length=5):Hid ((prog.info? 192).map (·.size)=some (xI (x++z)).size):=ι (yHb h h2)
theorem psame (x z:List Int) (h:x.length=5) (h2:z.length=5):Hid ((xI (List.replicate 10 0)).size=(xI (x++z)).size):=ι (by rw[yB,yB,Aj,h,h2];rfl)
theorem yFt (u x1 z1 x2 z2:List Int) (w:World) (l_u:u.length=5) (u_u:yT u) (l_x1:x1.length=5) (u_x1:yT x1) (l_z1:z1.length=5) (u_z1:yT z1) (l_x2:x2.length=5) (u_x2:yT x2) (l_z2:z2.length=5) (u_z2:yT z2):
  Calls prog 121 #[.agg (xI u),.agg (xI (x1++z1)),.agg (xI (x2++z2))] w (pv (.tuple #[.agg (xI (stX2 x1 z1++stZ2 x1 z1)),.agg (xI (stX3 x1 z1 x2 z2++stZ3 u x1 z1 x2 z2))]) w):=by
 obtain⟨su,C_su,E_su,l_su,u_su⟩:=xUt x1 z1 l_x1 u_x1 l_z1 u_z1;obtain⟨di,C_di,E_di,l_di,u_di⟩:=xUs x1 z1 l_x1 u_x1 l_z1 u_z1;obtain⟨s2,C_s2,E_s2,l_s2,u_s2⟩:=xFu su su l_su u_su l_su u_su;obtain⟨d2,C_d2,E_d2,l_d2,u_d2⟩:=xFu di di l_di u_di l_di u_di
 obtain⟨ee,C_ee,E_ee,l_ee,u_ee⟩:=xUs s2 d2 l_s2 u_s2 l_d2 u_d2;obtain⟨qd,C_qd,E_qd,l_qd,u_qd⟩:=xUs x2 z2 l_x2 u_x2 l_z2 u_z2;obtain⟨da,C_da,E_da,l_da,u_da⟩:=xFu qd su l_qd u_qd l_su u_su;obtain⟨qs,C_qs,E_qs,l_qs,u_qs⟩:=xUt x2 z2 l_x2 u_x2 l_z2 u_z2
 obtain⟨cb,C_cb,E_cb,l_cb,u_cb⟩:=xFu qs di l_qs u_qs l_di u_di;obtain⟨pl,C_pl,E_pl,l_pl,u_pl⟩:=xUt da cb l_da u_da l_cb u_cb;obtain⟨mi,C_mi,E_mi,l_mi,u_mi⟩:=xUs da cb l_da u_da l_cb u_cb;obtain⟨X2,C_X2,E_X2,l_X2,u_X2⟩:=xFu s2 d2 l_s2 u_s2 l_d2 u_d2
 obtain⟨sm,C_sm,E_sm,l_sm,u_sm⟩:=yGd ee l_ee u_ee;obtain⟨ad,C_ad,E_ad,l_ad,u_ad⟩:=xUt s2 sm l_s2 u_s2 l_sm u_sm;obtain⟨Z2,C_Z2,E_Z2,l_Z2,u_Z2⟩:=xFu ee ad l_ee u_ee l_ad u_ad;obtain⟨X3,C_X3,E_X3,l_X3,u_X3⟩:=xFu pl pl l_pl u_pl l_pl u_pl
 obtain⟨mm,C_mm,E_mm,l_mm,u_mm⟩:=xFu mi mi l_mi u_mi l_mi u_mi;obtain⟨Z3,C_Z3,E_Z3,l_Z3,u_Z3⟩:=xFu u mm l_u u_u l_mm u_mm;have I_u:=uO u l_u;have I_x1:=uO x1 l_x1;have I_z1:=uO z1 l_z1;have I_x2:=uO x2 l_x2;have I_z2:=uO z2 l_z2;have I_su:=uO su l_su;have I_di:=uO di l_di
 have I_s2:=uO s2 l_s2;have I_d2:=uO d2 l_d2;have I_ee:=uO ee l_ee;have I_qd:=uO qd l_qd;have I_da:=uO da l_da;have I_qs:=uO qs l_qs;have I_cb:=uO cb l_cb;have I_pl:=uO pl l_pl;have I_mi:=uO mi l_mi;have I_X2:=uO X2 l_X2;have I_sm:=uO sm l_sm;have I_ad:=uO ad l_ad
 have I_Z2:=uO Z2 l_Z2;have I_X3:=uO X3 l_X3;have I_mm:=uO mm l_mm;have I_Z3:=uO Z3 l_Z3;have Z_su:=wV su l_su;have Z_di:=wV di l_di;have Z_s2:=wV s2 l_s2;have Z_d2:=wV d2 l_d2;have Z_ee:=wV ee l_ee;have Z_qd:=wV qd l_qd;have Z_da:=wV da l_da;have Z_qs:=wV qs l_qs
 have Z_cb:=wV cb l_cb;have Z_pl:=wV pl l_pl;have Z_mi:=wV mi l_mi;have Z_X2:=wV X2 l_X2;have Z_sm:=wV sm l_sm;have Z_ad:=wV ad l_ad;have Z_Z2:=wV Z2 l_Z2;have Z_X3:=wV X3 l_X3;have Z_mm:=wV mm l_mm;have Z_Z3:=wV Z3 l_Z3;have IP:=xDb X2 Z2 l_X2 l_Z2;have IQ:=xDb X3 Z3 l_X3 l_Z3
 have ZP:=psame X2 Z2 l_X2 l_Z2;have ZQ:=psame X3 Z3 l_X3 l_Z3;have BP:=ι (xH7 l_X2 l_Z2);have BQ:=ι (xH7 l_X3 l_Z3);have HL1:=ι l_x1;have HL2:=ι l_x2
 have HE:Hid (stX2 x1 z1++stZ2 x1 z1=X2++Z2/\stX3 x1 z1 x2 z2++stZ3 u x1 z1 x2 z2=X3++Z3):=ι (by
  subst E_su E_di E_s2 E_d2 E_ee E_qd E_da E_qs E_cb E_pl E_mi E_X2 E_sm E_ad E_Z2 E_X3 E_mm E_Z3;exact⟨rfl,rfl⟩)
 clear E_su l_su u_su E_di l_di u_di E_s2 l_s2 u_s2 E_d2 l_d2 u_d2 E_ee l_ee u_ee E_qd l_qd u_qd E_da l_da u_da E_qs l_qs u_qs E_cb l_cb u_cb E_pl l_pl u_pl E_mi l_mi u_mi E_X2 l_X2 u_X2 E_sm l_sm u_sm E_ad l_ad u_ad E_Z2 l_Z2 u_Z2 E_X3 l_X3 u_X3 E_mm l_mm u_mm E_Z3 l_Z3 u_Z3 l_u u_u l_x1 u_x1 l_z1 u_z1 l_x2 u_x2 l_z2 u_z2
 rw[HE.o.1,HE.o.2];clear HE
 have H0:Hid (Bag w [(w.heap.size+1+1+1+1,192,List.replicate 10 0),(w.heap.size+1+1+1,192,List.replicate 10 0),(w.heap.size+1+1,192,x2++z2),(w.heap.size+1,192,x1++z1),(w.heap.size,188,u)] (((((w.alloc (.cells (xI u) 188)).alloc (.cells (xI (x1++z1)) 192)).alloc (.cells (xI (x2++z2)) 192)).alloc (.cells (xI (List.replicate 10 0)) 192)).alloc (.cells (xI (List.replicate 10 0)) 192))):=ι (by
  have h:Bag w [] w:=⟨Aq _ _,λ_ _ _ h=>by cases h⟩;have h2:=((((h.new 188 u).new 192 (x1++z1)).new 192 (x2++z2)).new 192 (List.replicate 10 0)).new 192 (List.replicate 10 0);simp only[wY] at h2;exact h2)
 obtain⟨g_s,hgs⟩:=eX (w.heap.size+1+1+1+1);obtain⟨g_r,hgr⟩:=eX (w.heap.size+1+1+1);obtain⟨g_q,hgq⟩:=eX (w.heap.size+1+1);obtain⟨g_p,hgp⟩:=eX (w.heap.size+1);obtain⟨g_u,hgu⟩:=eX w.heap.size
 have HG:Hid (w.heap.size+1+1+1+1=g_s/\w.heap.size+1+1+1=g_r/\w.heap.size+1+1=g_q/\w.heap.size+1=g_p/\w.heap.size=g_u):=ι ⟨hgs,hgr,hgq,hgp,hgu⟩;clear hgs hgr hgq hgp hgu;go_enter func121,ntmps121;go_upto_region 1 with fail
 rw[HG.o.1,HG.o.2.1,HG.o.2.2.1,HG.o.2.2.2.1,HG.o.2.2.2.2];rw[HG.o.1,HG.o.2.1,HG.o.2.2.1,HG.o.2.2.2.1,HG.o.2.2.2.2] at H0;refine(λ(h:∀W3,Hid (Bag w _ W3)->Code.wp _ _ _ _ W3)=>h _ H0) ?_;clear H0;intro W0 H0;refine det2 10 12 11 13 188 (List.replicate 5 0) su di H0 ?_;clear H0
 refine RG.aS ?_;refine aP ?_;refine RG.aS ?_;refine aP ?_;refine aC ?_;refine RG.aS ?_;refine aP ?_;refine RG.aS ?_;refine aP ?_;refine aC ?_;refine aN 4 12 ?_;refine aN 4 13 ?_;refine aT 4 10 ?_;refine aT 4 11 ?_;refine RG.kM (λα w4 hw4=>?_);have H0:=ι hw4.o.done;clear hw4
 simp only[Ay,Nat.reduceAdd];generalize α 10=g_su at H0⊢;generalize α 11=g_di at H0⊢;go_upto_region 2 with fail
 refine det2 6 8 7 9 188 (List.replicate 5 0) s2 d2 H0 ?_;clear H0;refine aL ?_;refine aL ?_;refine aC ?_;refine aL ?_;refine aL ?_;refine aC ?_;refine aN 4 8 ?_;refine aN 4 9 ?_;refine aT 4 6 ?_;refine aT 4 7 ?_;refine RG.kM (λα w4 hw4=>?_);have H0:=ι hw4.o.done;clear hw4
 simp only[Ay,Nat.reduceAdd];generalize α 6=g_s2 at H0⊢;generalize α 7=g_d2 at H0⊢;go_upto_region 3 with fail
 refine Bi ?_;refine Ao rfl _ _ rfl g_s2 rfl _ (xI s2) (0,0) _ (H0.o.get (g:=g_s2) (t:=188) (ws:=s2) σ) underlying188 rfl I_s2.o ?_
 refine Ao rfl _ _ rfl g_d2 rfl _ (xI d2) (0,0) _ (H0.o.get (g:=g_d2) (t:=188) (ws:=d2) σ) underlying188 rfl I_d2.o ?_;repeat go_step
 refine cM (C_ee.o _) λw7 hb7=>?_;have H7:=H0.o.below hb7
 have H9:Bag w ((w7.heap.size,188,ee)::[(g_d2,188,d2),(g_s2,188,s2),(g_di,188,di),(g_su,188,su),(g_s,192,List.replicate 10 0),(g_r,192,List.replicate 10 0),(g_q,192,x2++z2),(g_p,192,x1++z1),(g_u,188,u)]) ((w7.alloc (.cells (xI (List.replicate 5 0)) 188)).setRow w7.heap.size (xI ee)):=((H7.alloc _).far H7.1.size (λg t ws hm=>Nat.ne_of_lt (H7.lt hm)) _).cons H7.1.size (Bp _ _ _ _ _ _ (xJ _ _))
 simp only[]
 rename ∀(a:Act) (w:World),wpList _ _ _ _ a w->_=>hk
 refine hk _ _ ?_;clear hk;iterate 3 go_step
 refine Av rfl _ _ _ rfl w7.heap.size (xI ee) rfl rfl _ (xI (List.replicate 5 0)) (xJ _ _) I_ee.o Z_ee.o (yM _) ?_
 refine(λ(h:∀W3,Hid (Bag w ((w7.heap.size,188,ee)::[(g_d2,188,d2),(g_s2,188,s2),(g_di,188,di),(g_su,188,su),(g_s,192,List.replicate 10 0),(g_r,192,List.replicate 10 0),(g_q,192,x2++z2),(g_p,192,x1++z1),(g_u,188,u)]) W3)->wpList _ _ _ _ _ W3)=>h _ (ι H9)) ?_;clear H7 H9 H0 hb7
 generalize w7.heap.size=g_ee;intro W3 H0;go_upto_region 4 with fail
 refine xYg 7 8 188 (List.replicate 5 0) (da) H0 ?_;clear H0;refine RG.aS ?_;refine aP ?_;refine RG.aS ?_;refine aP ?_;refine aC ?_;refine aL ?_;refine aC ?_;refine aN 3 8 ?_;refine aT 3 7 ?_;refine RG.kM (λα w4 hw4=>?_);have H0:=ι hw4.o.done;clear hw4
 simp only[Ay,Nat.reduceAdd];generalize α 7=g_da at H0⊢;go_upto_region 5 with fail
 refine xYg 7 8 188 (List.replicate 5 0) (cb) H0 ?_;clear H0;refine RG.aS ?_;refine aP ?_;refine RG.aS ?_;refine aP ?_;refine aC ?_;refine aL ?_;refine aC ?_;refine aN 3 8 ?_;refine aT 3 7 ?_;refine RG.kM (λα w4 hw4=>?_);have H0:=ι hw4.o.done;clear hw4
 simp only[Ay,Nat.reduceAdd];generalize α 7=g_cb at H0⊢;go_upto_region 6 with fail
 refine det2 6 8 7 9 188 (List.replicate 5 0) pl mi H0 ?_;clear H0;refine aL ?_;refine aL ?_;refine aC ?_;refine aL ?_;refine aL ?_;refine aC ?_;refine aN 4 8 ?_;refine aN 4 9 ?_;refine aT 4 6 ?_;refine aT 4 7 ?_;refine RG.kM (λα w4 hw4=>?_);have H0:=ι hw4.o.done;clear hw4
 simp only[Ay,Nat.reduceAdd];generalize α 6=g_pl at H0⊢;generalize α 7=g_mi at H0⊢;go_upto_region 7 with fail
 refine xYg 10 11 192 (List.replicate 10 0) (X2++Z2) H0 ?_;clear H0;refine aL ?_;refine aL ?_;refine aC ?_;refine aL ?_;refine aL ?_;refine aL ?_;refine aC ?_;refine aC ?_;refine aC ?_;apply RG.pK
 ·rfl
 ·rfl
 ·intro α L w9 h0 hcl xQ hw9;refine wpList_buildTo rfl _ _ rfl _ rfl (xI (X2++Z2)) (by rw[Gl];exact BP.o) ?_;repeat go_step
  exact RG.xE hw9
 ·intro α;rfl
 refine aN 3 11 ?_;refine aT 3 10 ?_;refine RG.kM (λα w4 hw4=>?_);have yMg:=ι (Ai ((hw4.o.2 rfl).1 g_r 192 (List.replicate 10 0) σ) ((hw4.o.2 rfl).1 g_s 192 (List.replicate 10 0) σ));have H0:=ι hw4.o.done;clear hw4;simp only[Ay,Nat.reduceAdd]
 generalize α 10=g_a at yMg H0⊢;go_upto_region 8 with fail
 refine xYg 9 10 192 (List.replicate 10 0) (X3++Z3) H0 ?_;clear H0;refine aL ?_;refine aL ?_;refine aC ?_;refine aL ?_;refine aL ?_;refine aL ?_;refine aC ?_;refine aC ?_;apply RG.pK
 ·rfl
 ·rfl
 ·intro α L w9 h0 hcl xQ hw9;refine wpList_buildTo rfl _ _ rfl _ rfl (xI (X3++Z3)) (by rw[Gl];exact BQ.o) ?_;repeat go_step
  exact RG.xE hw9
 ·intro α;rfl
 refine aN 3 10 ?_;refine aT 3 9 ?_;refine RG.kM (λα w4 hw4=>?_);have yMf:=ι (Ai ((hw4.o.2 rfl).1 g_r 192 (List.replicate 10 0) σ) ((hw4.o.2 rfl).1 g_s 192 (List.replicate 10 0) σ));have H0:=ι hw4.o.done;clear hw4;simp only[Ay,Nat.reduceAdd]
 generalize α 9=g_b at yMf H0⊢
 have H6:Hid (FoG 192 w g_a g_b g_r g_s (X2++Z2) (X3++Z3) (List.replicate 10 0) (List.replicate 10 0) w4):=ι (by
  have h1:=HG.o.1;have h2:=HG.o.2.1;have hb:=H0.o
  exact⟨hb.get (g:=g_a) (t:=192) (ws:=X2++Z2) σ,hb.get (g:=g_b) (t:=192) (ws:=X3++Z3) σ,hb.get (g:=g_r) (t:=192) (ws:=List.replicate 10 0) σ,hb.get (g:=g_s) (t:=192) (ws:=List.replicate 10 0) σ,hb.1,En yMg.o.1,En yMf.o.1,ω,En yMg.o.2,En yMf.o.2,ω,ω⟩)
 clear H0;go_upto_region 9 with fail
 refine RG.zA 4 (λL W=>Hid (FoG 192 w g_a g_b g_r g_s (X2++Z2) (X3++Z3) (if L 2 then X2++Z2 else List.replicate 10 0) (if L 3 then X3++Z3 else List.replicate 10 0) W)) (λL L' W h hI=>by rw[<-h 2 δ,<-h 3 δ];exact hI) κ κ rfl (ι H6.o.drew) ?_;clear H6;apply RG.xS
 ·rfl
 ·rfl
 ·intro L w9 h0 hcl xQ hw9;refine Ao rfl _ _ rfl g_a rfl _ (xI (X2++Z2)) (0,0) _ hw9.o.ba underlying192 rfl IP.o ?_;repeat go_step
  refine RG.xE ?_;exact⟨xQ,hw9⟩
 ·rfl
 apply RG.xS
 ·rfl
 ·rfl
 ·intro L w9 h0 hcl xQ hw9;refine Ao rfl _ _ rfl g_b rfl _ (xI (X3++Z3)) (0,0) _ hw9.o.bb underlying192 rfl IQ.o ?_;repeat go_step
  refine RG.xE ?_;exact⟨xQ,hw9⟩
 ·rfl
 apply RG.xS
 ·rfl
 ·rfl
 ·intro L w9 h0 hcl xQ hw9;have hs9:=hw9.o;rw[h0,Ag σ] at hs9;refine Av rfl _ _ _ rfl g_r (xI (X2++Z2)) rfl rfl _ _ hs9.br IP.o ZP.o (yM _) ?_;repeat go_step
  refine RG.xE ?_;exact⟨xQ,ι (hs9.rowR (X2++Z2))⟩
 ·rfl
 apply RG.xS
 ·rfl
 ·rfl
 ·intro L w9 h0 hcl xQ hw9;have hs9:=hw9.o;rw[h0,Ag (c:=false=true) σ] at hs9;refine Av rfl _ _ _ rfl g_s (xI (X3++Z3)) rfl rfl _ _ hs9.bs IQ.o ZQ.o (yM _) ?_;repeat go_step
  refine RG.xE ?_;exact⟨xQ,ι (hs9.rowS (X3++Z3))⟩
 ·rfl
 refine RG.yY (λw9 hw9=>?_);rw[Ah rfl,Ah rfl] at hw9;go_wp2;refine Ak (tJ rfl _ _ g_r g_s _ _ _ _ (0,0) (0,0) _ rfl rfl hw9.o.br hw9.o.bs underlying192 rfl IP.o IQ.o) rfl ?_;exact⟨rfl,hw9.o.bel⟩
end Go.Proofs.FE
namespace Mailsack
structure LdS where
 x2:List Int
 z2:List Int
 x3:List Int
 z3:List Int
 sw:Bool
structure LdOk (s:LdS):Prop where
 l1:s.x2.length=5
 u1:yT s.x2
 l2:s.z2.length=5
 u2:yT s.z2
 l3:s.x3.length=5
 u3:yT s.x3
 l4:s.z3.length=5
 u4:yT s.z3
def yF2 (k:ByteArray) (t:Nat):Bool:=Go.bits .and .u8 (yU k (t / 8) / 2^(t % 8)) 1==1
def qZ (s:LdS) (bit:Bool):LdS:=⟨if s.sw !=bit then s.x3 else s.x2,if s.sw !=bit then s.z3 else s.z2,if s.sw !=bit then s.x2 else s.x3,if s.sw !=bit then s.z2 else s.z3,bit⟩
def xQa (u:List Int) (s:LdS):LdS:=⟨stX2 s.x2 s.z2,stZ2 s.x2 s.z2,stX3 s.x2 s.z2 s.x3 s.z3,stZ3 u s.x2 s.z2 s.x3 s.z3,s.sw⟩
def ldI (k:ByteArray) (u:List Int):Nat->LdS
 |0=>⟨[1,0,0,0,0],List.replicate 5 0,u,[1,0,0,0,0],false⟩
 |n+1=>xQa u (qZ (ldI k u n) (yF2 k (254-n)))
theorem xQ9 {s:LdS} (h:LdOk s) (b:Bool):LdOk (qZ s b):=by
 obtain⟨h1,h2,h3,h4,h5,h6,h7,h8⟩:=h;unfold qZ;cases hq:(s.sw !=b)
 ·exact⟨h1,h2,h3,h4,h5,h6,h7,h8⟩
 ·exact⟨h5,h6,h7,h8,h1,h2,h3,h4⟩
theorem yCc (u:List Int) (s:LdS):LdOk (xQa u s):=⟨zY _ _,jP _ _,zY _ _,jP _ _,zY _ _,jP _ _,zY _ _,jP _ _⟩
theorem one_u:yT [1,0,0,0,0]:=xDs ⟨δ,δ⟩ ⟨δ,δ⟩ ⟨δ,δ⟩ ⟨δ,δ⟩ ⟨δ,δ⟩
theorem yCd (k:ByteArray) {u:List Int} (h:u.length=5) (hu:yT u):∀n,LdOk (ldI k u n)
 |0=>⟨rfl,one_u,by simp[ldI],xCr 5,h,hu,rfl,one_u⟩
 |_+1=>yCc _ _
def yCe (s:LdS):ByteArray:=jY (vP (if s.sw then s.x3 else s.x2) (xF7 (if s.sw then s.z3 else s.z2)))
def uI (k u:ByteArray):ByteArray:=yCe (ldI (xAh k) (xTh u) 255)
theorem wC (k u:ByteArray):(uI k u).size=32:=xQt _
def xV (k:ByteArray):ByteArray:=uI k xHw
end Mailsack
namespace Go.Proofs.FE
open Go.RowKit Mailsack MM BB SH
structure PtM (w:World) (g:Nat) (u p q:List Int) (W:World):Prop where
 bu:wL 188 W g u
 bp:wL 192 W (g+1) p
 bq:wL 192 W (g+1+1) q
 bel:ψ w W
 ge:w.heap.size<=g
section
variable {w W W':World} {g:Nat} {u p q:List Int}
theorem PtM.below (h:PtM w g u p q W) (hb:ψ W W'):PtM w g u p q W':=⟨h.bu.below hb,h.bp.below hb,h.bq.below hb,bT h.bel hb,h.ge⟩
theorem PtM.drew (h:PtM w g u p q W):PtM w g u p q W.drew:=⟨h.bu,h.bp,h.bq,h.bel.drew,h.ge⟩
theorem PtM.rowP (h:PtM w g u p q W) (xs:List Int):PtM w g u xs q (W.setRow (g+1) (xI xs)):=by
 have hg:=h.ge;exact⟨(Bj _ _ _ _ ω).trans h.bu,Bp _ _ _ _ _ _ h.bp,(Bj _ _ _ _ ω).trans h.bq,Bn h.bel ω _,hg⟩
theorem PtM.rowQ (h:PtM w g u p q W) (xs:List Int):PtM w g u p xs (W.setRow (g+1+1) (xI xs)):=by
 have hg:=h.ge;exact⟨(Bj _ _ _ _ ω).trans h.bu,(Bj _ _ _ _ ω).trans h.bp,Bp _ _ _ _ _ _ h.bq,Bn h.bel ω _,hg⟩
end
theorem xLw (k u:ByteArray) (w:World) (hk:k.size≠32):
  Calls prog 73 #[.string k,.string u] w (pv (.tuple #[.string ⟨#[]⟩,.bool false]) w):=by
 have HC:=ι (yE3 k w hk);clear hk;go_enter func73,ntmps73;go_wp2_with fail
 refine HC.o.mono ?_;rintro e w1 ⟨rfl,rfl⟩;go_wp2;go_ret2;exact⟨rfl,Aq _ _⟩
theorem xXj (k u:ByteArray) (w:World) (hk:k.size=32) (hu:u.size≠32):
  Calls prog 73 #[.string k,.string u] w (pv (.tuple #[.string ⟨#[]⟩,.bool false]) w):=by
 have HC:=ι (xGb k w hk);have HO:Hid (∀W,Calls prog 119 #[.string u] W (pv (.tuple #[.agg #[.int .u64 0,.int .u64 0,.int .u64 0,.int .u64 0,.int .u64 0],.bool false]) W)):=ι (λW=>of_bad u W hu);clear hk hu;go_enter func73,ntmps73
 go_wp2_with fail
 refine HC.o.mono ?_;rintro e w1 ⟨rfl,hb1⟩;go_wp2_with fail
 refine cM (HO.o _) λw2 hb2=>?_;have HB:=ι ((bT hb1 hb2).alloc (bT hb1 hb2).size (.cells #[.int .u64 0,.int .u64 0,.int .u64 0,.int .u64 0,.int .u64 0] 188));clear hb1 hb2;go_wp2;go_ret2;exact⟨rfl,HB.o⟩
theorem xJ9 (k u:ByteArray) (w:World) (hk:k.size=32) (hu:u.size=32):
  Calls prog 73 #[.string k,.string u] w (pv (.tuple #[.string (uI k u),.bool true]) w):=by
 have HC:=ι (xGb k w hk);have HO:=ι (λW=>of_any u W hu);have HKZ:Hid ((xAh k).size=32):=ι ((xTs k).trans hk);have hsl:=xOf u;have hsu:=yDi u;have HP:Hid (∀n,n=255->uI k u=yCe (ldI (xAh k) (xTh u) n)):=ι (λn hn=>by rw[hn];rfl);generalize uI k u=res at HP⊢
 generalize xTh u=su at HO hsl hsu HP;generalize xAh k=ck at HC HKZ HP;have HOK:=ι (λn=>yCd ck hsl hsu n);have Iu:=uO su hsl;have Zu:=wV su hsl;have HLU:=ι hsl;have HUU:=ι hsu
 have BQ:Hid (prog.built 192 [(0,.agg (xI su)),(1,.agg #[.int .u64 1,.int .u64 0,.int .u64 0,.int .u64 0,.int .u64 0])]=some (xI (su++[1,0,0,0,0]))):=ι (xH7 hsl (z:=[1,0,0,0,0]) rfl);clear hk hu hsl hsu;go_enter func73,ntmps73;go_wp2_with fail
 refine HC.o.mono ?_;rintro e w1 ⟨rfl,hb1⟩;go_wp2_with fail
 refine cM (HO.o _) λw2 hb2=>?_;have HB:=ι (bT hb1 hb2);clear hb1 hb2 HC HO;have h1:=Bp _ w2.heap.size _ (xI su) _ _ (xJ w2 (.cells (xI (List.replicate 5 0)) 188))
 have hz1:((w2.alloc (.cells (xI (List.replicate 5 0)) 188)).setRow w2.heap.size (xI su)).heap.size=w2.heap.size+1:=by rw[setRow_size,wY]
 have hb1:ψ w ((w2.alloc (.cells (xI (List.replicate 5 0)) 188)).setRow w2.heap.size (xI su)):=Bn (HB.o.alloc HB.o.size _) HB.o.size _
 have h2:=xJ ((w2.alloc (.cells (xI (List.replicate 5 0)) 188)).setRow w2.heap.size (xI su)) (.cells (xI ([1,0,0,0,0]++List.replicate 5 0)) 192);rw[hz1] at h2
 have H3:Hid (wL 188 (((w2.alloc (.cells (xI (List.replicate 5 0)) 188)).setRow w2.heap.size (xI su)).alloc (.cells (xI ([1,0,0,0,0]++List.replicate 5 0)) 192)) w2.heap.size su/\wL 192 (((w2.alloc (.cells (xI (List.replicate 5 0)) 188)).setRow w2.heap.size (xI su)).alloc (.cells (xI ([1,0,0,0,0]++List.replicate 5 0)) 192)) (w2.heap.size+1) ([1,0,0,0,0]++List.replicate 5 0)/\ψ w (((w2.alloc (.cells (xI (List.replicate 5 0)) 188)).setRow w2.heap.size (xI su)).alloc (.cells (xI ([1,0,0,0,0]++List.replicate 5 0)) 192))/\(((w2.alloc (.cells (xI (List.replicate 5 0)) 188)).setRow w2.heap.size (xI su)).alloc (.cells (xI ([1,0,0,0,0]++List.replicate 5 0)) 192)).heap.size=w2.heap.size+1+1/\w.heap.size<=w2.heap.size):=ι ⟨xN h1 _,h2,hb1.alloc (by rw[hz1];have:=HB.o.size;omega) _,by rw[wY,hz1],HB.o.size⟩
 clear h1 hz1 hb1 h2 HB;go_upto_region 8 with (refine Av rfl _ _ _ rfl w2.heap.size (xI su) rfl rfl _ (xI (List.replicate 5 0)) (xJ _ _) Iu.o Zu.o (yM _) ?_)
 refine(λ(h:∀W3,Hid (wL 188 W3 w2.heap.size su/\wL 192 W3 (w2.heap.size+1) ([1,0,0,0,0]++List.replicate 5 0)/\ψ w W3/\W3.heap.size=w2.heap.size+1+1/\w.heap.size<=w2.heap.size)->Code.wp _ _ _ _ W3)=>h _ H3) ?_;clear H3;generalize w2.heap.size=g;intro W3 H3;have HZ3:=ι H3.o.2.2.2.1
 have h4:=xJ W3 (.cells (xI (List.replicate 10 0)) 192);rw[HZ3.o] at h4
 have H4:Hid (PtM w g su ([1,0,0,0,0]++List.replicate 5 0) (List.replicate 10 0) (W3.alloc (.cells (xI (List.replicate 10 0)) 192))):=ι ⟨xN H3.o.1 _,xN H3.o.2.1 _,h4,H3.o.2.2.1.alloc H3.o.2.2.1.size _,H3.o.2.2.2.2⟩;clear h4;refine Bi ?_
 refine Ao rfl _ _ rfl g rfl _ (xI su) (0,0) _ H3.o.1 underlying188 rfl Iu.o ?_;iterate 3 go_step
 refine wpList_buildTo rfl _ _ rfl _ rfl (xI (su++[1,0,0,0,0])) (by rw[Gl];exact BQ.o) ?_;iterate 3 go_step
 rw[HZ3.o];refine Av rfl _ _ _ rfl (g+1+1) (xI (su++[1,0,0,0,0])) rfl rfl _ (xI (List.replicate 10 0)) H4.o.bq (yHb HLU.o rfl) (by rw[yB,yB,Aj,HLU.o];rfl) (yM _) ?_;have H5:=H4.o.rowQ (su++[1,0,0,0,0])
 refine(λ(h:∀W3,Hid (PtM w g su ((ldI ck su 0).x2++(ldI ck su 0).z2) ((ldI ck su 0).x3++(ldI ck su 0).z3) W3)->wpList _ _ _ _ _ W3)=>h _ (ι H5)) ?_;clear H3 H4 H5 HZ3 BQ;intro W5 H5;have HS0:Hid ((ldI ck su 0).sw=false):=ι rfl;go_wp2_with fail
 go_loopw [11,12] (λsv tv W=>∃n m:Nat,n+m=255/\tv=.int .i64 ((m:Int)-1)/\sv=.bool (ldI ck su n).sw/\Hid (PtM w g su ((ldI ck su n).x2++(ldI ck su n).z2) ((ldI ck su n).x3++(ldI ck su n).z3) W)) (λ_ tv _=>(intOf tv+1).toNat)
 case atStart=>exact⟨0,255,rfl,rfl,by rw[HS0.o],H5⟩
 case round=>
  clear H5;obtain⟨n,m,hnm,rfl,rfl,hr⟩:=hrel;have hok:=HOK.o n
  by_cases hlt:0<m
  ·obtain⟨t,rfl⟩:∃t,m=t+1:=⟨m-1,ω⟩;have ht:(((t+1:Nat):Int))-1=(t:Int):=ω;rw[ht];have HN:Hid (ldI ck su (n+1)=xQa su (qZ (ldI ck su n) (yF2 ck t))):=ι (by rw[show t=254-n by omega];rfl)
   have HBT:Hid (∀q r,q=t / 8->r=t % 8->yF2 ck t=(bits .and .u8 (yU ck q / 2^r) 1==1)):=ι (λq r hq hr=>by rw[hq,hr];rfl);obtain⟨q,hq⟩:∃q,q=t / 8:=⟨_,rfl⟩;obtain⟨r,hrr⟩:∃r,r=t % 8:=⟨_,rfl⟩
   replace HBT:=ι (HBT.o q r hq hrr)
   have hq4:q<32:=ω;have hr8:r<8:=ω;have hiq:(t:Int) / 8=(q:Int):=ω;have hir:(t:Int) % 8=(r:Int):=ω;have ht0:(0:Int)<=(t:Int):=ω;have ht255:(t:Int)<=255:=ω;have ix:=λw=>zN (P:=prog) underlying9 ck (q:Int) q rfl (by rw[HKZ.o];exact hq4) w;obtain⟨b0,b1⟩:=zD ck q
   generalize yU ck q=c at ix b0 b1 HBT;obtain⟨bit,hbit⟩:=eX (yF2 ck t);rw[hbit] at HN HBT;clear hbit;obtain⟨sn,hsn⟩:=eX (ldI ck su (n+1));rw[hsn] at HN;have HSN:=ι hsn;clear hsn;generalize ldI ck su n=s at hr hok HN⊢;have HNM:=ι hnm;clear hq hrr ht hnm
   have hok2:=xQ9 hok bit
   have HSW:Hid (∀W,Calls prog 120 #[.agg (xI (s.x2++s.z2)),.agg (xI (s.x3++s.z3)),.bool (s.sw !=bit)] W (pv (.tuple #[.agg (xI ((qZ s bit).x2++(qZ s bit).z2)),.agg (xI ((qZ s bit).x3++(qZ s bit).z3))]) W)):=ι (λW=>by
    have h:=xQ7 s.x2 s.z2 s.x3 s.z3 (s.sw !=bit) W hok.l1 hok.u1 hok.l2 hok.u2 hok.l3 hok.u3 hok.l4 hok.u4;have e1:(if (s.sw !=bit)=true then s.x3++s.z3 else s.x2++s.z2)=(qZ s bit).x2++(qZ s bit).z2:=by unfold qZ;cases (s.sw !=bit)<;>rfl
    have e2:(if (s.sw !=bit)=true then s.x2++s.z2 else s.x3++s.z3)=(qZ s bit).x3++(qZ s bit).z3:=by unfold qZ;cases (s.sw !=bit)<;>rfl
    rw[e1,e2] at h;exact h)
   have HSB:Hid (sn.sw=bit):=ι (by rw[HN.o];rfl);have I1:=xDb s.x2 s.z2 hok.l1 hok.l2;have I2:=xDb s.x3 s.z3 hok.l3 hok.l4;have hsn4:sn.x2.length=5/\sn.z2.length=5/\sn.x3.length=5/\sn.z3.length=5:=by rw[HN.o];exact⟨zY _ _,zY _ _,zY _ _,zY _ _⟩
   have HST:Hid (∀W,Calls prog 121 #[.agg (xI su),.agg (xI ((qZ s bit).x2++(qZ s bit).z2)),.agg (xI ((qZ s bit).x3++(qZ s bit).z3))] W (pv (.tuple #[.agg (xI (sn.x2++sn.z2)),.agg (xI (sn.x3++sn.z3))]) W)):=ι (λW=>by
    rw[HN.o];exact yFt su _ _ _ _ W HLU.o HUU.o hok2.l1 hok2.u1 hok2.l2 hok2.u2 hok2.l3 hok2.u3 hok2.l4 hok2.u4)
   obtain⟨k1,k2,k3,k4⟩:=hsn4;have I5:=xDb sn.x2 sn.z2 k1 k2;have I6:=xDb sn.x3 sn.z3 k3 k4;clear HN;generalize qZ s bit=s' at HSW HST hok2;have I3:=xDb s'.x2 s'.z2 hok2.l1 hok2.l2;have I4:=xDb s'.x3 s'.z3 hok2.l3 hok2.l4
   have Z1:Hid ((xI (s.x2++s.z2)).size=(xI (s'.x2++s'.z2)).size):=ι (by rw[yB,yB,Aj,Aj,hok.l1,hok.l2,hok2.l1,hok2.l2])
   have Z2:Hid ((xI (s.x3++s.z3)).size=(xI (s'.x3++s'.z3)).size):=ι (by rw[yB,yB,Aj,Aj,hok.l3,hok.l4,hok2.l3,hok2.l4])
   have Z3:Hid ((xI (s'.x2++s'.z2)).size=(xI (sn.x2++sn.z2)).size):=ι (by rw[yB,yB,Aj,Aj,k1,k2,hok2.l1,hok2.l2])
   have Z4:Hid ((xI (s'.x3++s'.z3)).size=(xI (sn.x3++sn.z3)).size):=ι (by rw[yB,yB,Aj,Aj,k3,k4,hok2.l3,hok2.l4]);clear hok hok2 k1 k2 k3 k4;generalize hp0:s.x2++s.z2=p0 at hr HSW I1 Z1;generalize hq0:s.x3++s.z3=q0 at hr HSW I2 Z2
   generalize hp1:s'.x2++s'.z2=p1 at HSW HST I3 Z1 Z3;generalize hq1:s'.x3++s'.z3=q1 at HSW HST I4 Z2 Z4;generalize hp2:sn.x2++sn.z2=p2 at HST I5 Z3;generalize hq2:sn.x3++sn.z3=q2 at HST I6 Z4;have HPQ:=ι (Ai hp2 hq2);clear hp0 hq0 hp1 hq1 hp2 hq2
   generalize s.sw=sw at HSW⊢;go_upto_region 14 with fail
   rw[<-HBT.o];clear HBT ix b0 b1 hiq hir;refine Bi ?_;refine Ao rfl _ _ rfl (g+1) rfl _ (xI p0) (0,0) _ hr.o.bp underlying192 rfl I1.o ?_;refine Ao rfl _ _ rfl (g+1+1) rfl _ (xI q0) (0,0) _ hr.o.bq underlying192 rfl I2.o ?_
   repeat go_step
   refine cM (HSW.o _) λw6 hb6=>?_;have H6:=ι (hr.o.below hb6);clear hr hb6;simp only[]
   rename ∀(a:Act) (w:World),wpList _ _ _ _ a w->_=>hk
   refine hk _ _ ?_;clear hk;iterate 9 go_step
   refine Av rfl _ _ _ rfl (g+1) (xI p1) rfl rfl _ _ H6.o.bp I3.o Z1.o (yM _) ?_;have H7:=ι (H6.o.rowP p1);refine Av rfl _ _ _ rfl (g+1+1) (xI q1) rfl rfl _ _ H7.o.bq I4.o Z2.o (yM _) ?_;have H8:=ι (H7.o.rowQ q1);go_upto_region 16 with fail
   refine(λ(h:∀W3,Hid (PtM w g su p1 q1 W3)->Code.wp _ _ _ _ W3)=>h _ H8) ?_;clear H6 H7 H8;intro W8 H8;refine Bi ?_;refine Ao rfl _ _ rfl g rfl _ (xI su) (0,0) _ H8.o.bu underlying188 rfl Iu.o ?_
   refine Ao rfl _ _ rfl (g+1) rfl _ (xI p1) (0,0) _ H8.o.bp underlying192 rfl I3.o ?_;refine Ao rfl _ _ rfl (g+1+1) rfl _ (xI q1) (0,0) _ H8.o.bq underlying192 rfl I4.o ?_;repeat go_step
   refine cM (HST.o _) λw6 hb6=>?_;have H9:=ι (H8.o.below hb6);clear H8 hb6;simp only[]
   rename ∀(a:Act) (w:World),wpList _ _ _ _ a w->_=>hk
   refine hk _ _ ?_;clear hk;iterate 9 go_step
   refine Av rfl _ _ _ rfl (g+1) (xI p2) rfl rfl _ _ H9.o.bp I5.o Z3.o (yM _) ?_;have H10:=ι (H9.o.rowP p2);refine Av rfl _ _ _ rfl (g+1+1) (xI q2) rfl rfl _ _ H10.o.bq I6.o Z4.o (yM _) ?_;have H11:=ι (H10.o.rowQ q2)
   refine(λ(h:∀W3,Hid (PtM w g su p2 q2 W3)->wpList _ _ _ _ _ W3)=>h _ H11) ?_;clear H9 H10 H11 HSW HST;intro W11 H11;go_wp2;refine⟨⟨n+1,t,by have:=HNM.o;omega,rfl,by rw[HSN.o,HSB.o],?_⟩,by simp[intOf]⟩;rw[HSN.o,HPQ.o.1,HPQ.o.2];exact H11
  ·obtain rfl:m=0:=ω;have hn:n=255:=ω;have HE:=ι (HP.o n hn);have hm1:((0:Nat):Int)-1=-1:=ω;rw[hm1];generalize ldI ck su n=s at hr hok HE⊢;have HSW:=ι (λW=>xQ7 s.x2 s.z2 s.x3 s.z3 s.sw W hok.l1 hok.u1 hok.l2 hok.u2 hok.l3 hok.u3 hok.l4 hok.u4)
   have HDE:Hid (yCe s=jY (vP (if s.sw then s.x3 else s.x2) (xF7 (if s.sw then s.z3 else s.z2)))):=ι rfl;have e1:(if s.sw=true then s.x3++s.z3 else s.x2++s.z2)=(if s.sw then s.x3 else s.x2)++(if s.sw then s.z3 else s.z2):=by cases s.sw<;>rfl
   rw[e1] at HSW
   have lx:(if s.sw then s.x3 else s.x2).length=5/\yT (if s.sw then s.x3 else s.x2):=by
    cases s.sw
    ·exact⟨hok.l1,hok.u1⟩
    ·exact⟨hok.l3,hok.u3⟩
   have lz:(if s.sw then s.z3 else s.z2).length=5/\yT (if s.sw then s.z3 else s.z2):=by
    cases s.sw
    ·exact⟨hok.l2,hok.u2⟩
    ·exact⟨hok.l4,hok.u4⟩
   have I1:=xDb s.x2 s.z2 hok.l1 hok.l2;have I2:=xDb s.x3 s.z3 hok.l3 hok.l4;have HZ0:Hid ((xI (s.x2++s.z2)).size=10):=ι (by rw[yB,Aj,hok.l1,hok.l2]);generalize (if s.sw then s.x3 else s.x2)=x at HSW HDE lx
   generalize (if s.sw then s.z3 else s.z2)=z at HSW HDE lz;have I3:=xDb x z lx.1 lz.1;have Z1:Hid ((xI (s.x2++s.z2)).size=(xI (x++z)).size):=ι (by rw[HZ0.o,yB,Aj,lx.1,lz.1]);have Ix:=uO x lx.1;have Iz:=uO z lz.1;have HLX:=ι lx.1
   have HIV:=ι (λW=>xY4 z W lz.1 lz.2);have HMU:=ι (λW=>xBw x (xF7 z) W lx.1 lx.2 (xQs z) (yDm z));have HBY:=ι (λW=>yE9 (vP x (xF7 z)) W (zY _ _) (jP _ _));rw[<-HDE.o,<-HE.o] at HBY;generalize vP x (xF7 z)=mv at HMU HBY;generalize xF7 z=iv at HIV HMU
   generalize (if s.sw=true then s.x2++s.z2 else s.x3++s.z3)=y0 at HSW;generalize s.x2++s.z2=p0 at hr HSW I1 Z1;generalize s.x3++s.z3=q0 at hr HSW I2;clear HE HDE hok lx lz hn hnm hlt HP HOK e1 HZ0 hm1;generalize s.sw=sw at HSW⊢;go_upto_region 17 with fail
   refine Bi ?_;refine Ao rfl _ _ rfl (g+1) rfl _ (xI p0) (0,0) _ hr.o.bp underlying192 rfl I1.o ?_;refine Ao rfl _ _ rfl (g+1+1) rfl _ (xI q0) (0,0) _ hr.o.bq underlying192 rfl I2.o ?_;repeat go_step
   refine cM (HSW.o _) λw6 hb6=>?_;have H6:=ι (hr.o.below hb6);clear hr hb6;simp only[]
   rename ∀(a:Act) (w:World),wpList _ _ _ _ a w->_=>hk
   refine hk _ _ ?_;clear hk;iterate 9 go_step
   refine Av rfl _ _ _ rfl (g+1) (xI (x++z)) rfl rfl _ _ H6.o.bp I3.o Z1.o (yM _) ?_;have H7:=ι (H6.o.rowP (x++z));go_upto_region 18 with fail
   refine(λ(h:∀W3,Hid (PtM w g su (x++z) q0 W3)->Code.wp _ _ _ _ W3)=>h _ H7) ?_;clear H6 H7 HSW;intro W7 H7;refine RG.xU (λW=>Hid (PtM w g su (x++z) q0 W)) κ κ (ι H7.o.drew) ?_;clear H7;refine RG.dS ?_;apply RG.xL
   ·intro w9 hw9;refine vG rfl _ _ rfl (g+1) 0 rfl (xI x) _ (xG0 hw9.o.bp) underlying188 rfl Ix.o ?_;repeat go_step
    exact RG.xE hw9
   ·rfl
   refine RG.dS ?_;apply RG.xL
   ·intro w9 hw9;refine vG rfl _ _ rfl (g+1) 5 rfl (xI z) _ (xFz hw9.o.bp HLX.o) underlying188 rfl Iz.o ?_;repeat go_step
    exact RG.xE hw9
   ·rfl
   apply RG.xL
   ·intro w9 hw9;repeat go_step
    refine(HIV.o _).mono ?_;rintro e w10 ⟨rfl,zO⟩;simp only[];repeat go_step
    refine RG.xE ?_;exact ι (hw9.o.below zO)
   ·rfl
   apply RG.xL
   ·intro w9 hw9;repeat go_step
    refine(HMU.o _).mono ?_;rintro e w10 ⟨rfl,zO⟩;simp only[];repeat go_step
    refine RG.xE ?_;exact ι (hw9.o.below zO)
   ·rfl
   apply RG.xL
   ·intro w9 hw9;repeat go_step
    refine(HBY.o _).mono ?_;rintro e w10 ⟨rfl,zO⟩;simp only[];repeat go_step
    refine RG.xE ?_;exact ι (hw9.o.below zO)
   ·rfl
   iterate 2 refine RG.dS ?_
   refine RG.xX (λw9 hw9=>?_);go_wp2;go_ret2;exact⟨rfl,hw9.o.bel⟩
theorem xDz (k:ByteArray) (w:World) (hk:k.size=32):
  Calls prog 61 #[.string k] w (pv (.tuple #[.string (xV k),.bool true]) w):=by
 have HP:Hid (∀W,Calls prog 73 #[.string k,.string xHw] W (pv (.tuple #[.string (xV k),.bool true]) W)):=ι (λW=>xJ9 k xHw W hk xYw);have HB:=ι (xWf w);generalize xV k=res at HP⊢;generalize xHw=bl at HP HB;clear hk;go_enter func61,ntmps61
 go_wp2_with fail
 refine HB.o.mono ?_;rintro e w1 ⟨rfl,hb1⟩;have H1:=ι hb1;go_wp2_with fail
 refine cM (HP.o _) λw2 hb2=>?_;have H2:=ι (bT H1.o hb2);clear hb1 hb2 H1;go_wp2;go_ret2;exact⟨rfl,H2.o⟩
end Go.Proofs.FE
namespace Mailsack
def xBp (u pb:ByteArray) (ep:Int) (pw xP xB:ByteArray) (r:Nat) (k0:ByteArray):vY:=
 ⟨u,xP,r,ep,pb,xB,wP (xEx pw xP r) xB (u++pb) k0,⟨#[]⟩⟩
end Mailsack
namespace Go.Proofs.SH
open Go.RowKit Mailsack MM BB SV
abbrev uX (xP xB xD:ByteArray) (r:Int):Obj:=.cells #[.string xP,.string xB,.string xD,.int .i64 r] 23
structure AcM (w:World) (u:ByteArray) (a1 a2:Value) (ep:Int) (pb:ByteArray) (a5 a6 a7:Value) (xP xB xD:ByteArray) (r:Int) (W:World):Prop where
 a:W.heap[w.heap.size]?=some (.cells #[.string u,a1,a2,.int .i64 ep,.string pb,a5,a6,a7] 65 (0,0))
 f:W.heap[w.heap.size+1]?=some (uX xP xB xD r)
 o:W.heap[w.heap.size+1+1]?=some (yV uB)
 bel:ψ w W
section
variable {w W W':World} {u pb xP xB xD:ByteArray} {a1 a2 a5 a6 a7:Value} {ep r:Int}
theorem AcM.below (h:AcM w u a1 a2 ep pb a5 a6 a7 xP xB xD r W) (hb:ψ W W'):AcM w u a1 a2 ep pb a5 a6 a7 xP xB xD r W':=
 ⟨xC h.a hb (xH h.a),xC h.f hb (xH h.f),xC h.o hb (xH h.o),bT h.bel hb⟩
theorem AcM.drew (h:AcM w u a1 a2 ep pb a5 a6 a7 xP xB xD r W):AcM w u a1 a2 ep pb a5 a6 a7 xP xB xD r W.drew:=⟨h.a,h.f,h.o,h.bel.drew⟩
theorem AcM.set1 (h:AcM w u a1 a2 ep pb a5 a6 a7 xP xB xD r W) (v:Value):AcM w u v a2 ep pb a5 a6 a7 xP xB xD r (W.setCell (θ w.heap.size 1) v):=
 ⟨by have:=yD h.a 1 v;simpa using this,yA h.f (p:=θ w.heap.size 1) (by show w.heap.size+1≠w.heap.size;omega) _,yA h.o (p:=θ w.heap.size 1) (by show w.heap.size+1+1≠w.heap.size;omega) _,h.bel.setCell (p:=θ w.heap.size 1) ν _⟩
theorem AcM.set2 (h:AcM w u a1 a2 ep pb a5 a6 a7 xP xB xD r W) (v:Value):AcM w u a1 v ep pb a5 a6 a7 xP xB xD r (W.setCell (θ w.heap.size 2) v):=
 ⟨by have:=yD h.a 2 v;simpa using this,yA h.f (p:=θ w.heap.size 2) (by show w.heap.size+1≠w.heap.size;omega) _,yA h.o (p:=θ w.heap.size 2) (by show w.heap.size+1+1≠w.heap.size;omega) _,h.bel.setCell (p:=θ w.heap.size 2) ν _⟩
theorem AcM.set5 (h:AcM w u a1 a2 ep pb a5 a6 a7 xP xB xD r W) (v:Value):AcM w u a1 a2 ep pb v a6 a7 xP xB xD r (W.setCell (θ w.heap.size 5) v):=
 ⟨by have:=yD h.a 5 v;simpa using this,yA h.f (p:=θ w.heap.size 5) (by show w.heap.size+1≠w.heap.size;omega) _,yA h.o (p:=θ w.heap.size 5) (by show w.heap.size+1+1≠w.heap.size;omega) _,h.bel.setCell (p:=θ w.heap.size 5) ν _⟩
theorem AcM.set6 (h:AcM w u a1 a2 ep pb a5 a6 a7 xP xB xD r W) (v:Value):AcM w u a1 a2 ep pb a5 v a7 xP xB xD r (W.setCell (θ w.heap.size 6) v):=
 ⟨by have:=yD h.a 6 v;simpa using this,yA h.f (p:=θ w.heap.size 6) (by show w.heap.size+1≠w.heap.size;omega) _,yA h.o (p:=θ w.heap.size 6) (by show w.heap.size+1+1≠w.heap.size;omega) _,h.bel.setCell (p:=θ w.heap.size 6) ν _⟩
theorem AcM.set7 (h:AcM w u a1 a2 ep pb a5 a6 a7 xP xB xD r W) (v:Value):AcM w u a1 a2 ep pb a5 a6 v xP xB xD r (W.setCell (θ w.heap.size 7) v):=
 ⟨by have:=yD h.a 7 v;simpa using this,yA h.f (p:=θ w.heap.size 7) (by show w.heap.size+1≠w.heap.size;omega) _,yA h.o (p:=θ w.heap.size 7) (by show w.heap.size+1+1≠w.heap.size;omega) _,h.bel.setCell (p:=θ w.heap.size 7) ν _⟩
end
theorem one_at {w:World} {B:Nat} {v:Value} {x:List UInt8} {l:List (List UInt8)} (h:RdS w B v (x::l)):∃b off c,v=.slice (some (θ b off)) (l.length+1) c/\b<B/\w.cell? (θ b off)=some (xR x):=by
 obtain⟨A,c,h1,h2,h3⟩:=h;obtain⟨b,off,rfl,h4,h5⟩:=h3 σ;exact⟨b,off,c,h1,h4,h5 0 x rfl⟩
theorem wrap_one (u o1:ByteArray) (o2 ep:Int) (pb o5 o6 o7 pw xP xB xD k0:ByteArray) (r:Nat) (kv:Value) (w:World) (hr1:1<=r) (hr2:r<=64) (hn:xB.size=12) (hs:xP.size<=1000) (hu:u.size<=1000) (hpb:pb.size<=1000) (hk0:k0.size<=1000) (hpw:pw.size<=1000) (hT:jE w)
  (hk:RdS w w.heap.size kv [k0.data.toList]):
  Calls prog 62 #[.agg #[.string u,.string o1,.int .i64 o2,.int .i64 ep,.string pb,.string o5,.string o6,.string o7],.string pw,xDe xP xB xD r,kv] w λe w'=>
   e=.returned (.tuple #[xB1 (xBp u pb ep pw xP xB r k0),.int .i64 0])/\ψ w w':=by
 obtain⟨kb,ko,kc,rfl,hkb,hkc⟩:=one_at hk;have HP:=ι (λW h=>xHh pw xP r W hr1 hr2 ω ω h);have hpz:=xLz pw xP r;have HE:Hid (xBp u pb ep pw xP xB r k0=⟨u,xP,r,ep,pb,xB,wP (xEx pw xP r) xB (u++pb) k0,⟨#[]⟩⟩):=ι rfl;generalize xEx pw xP r=key at HP hpz HE
 have HS:=ι (λW=>xSf key xB (u++pb) k0 W hpz hn (by rw[Aw];omega) ω);generalize wP key xB (u++pb) k0=wr at HS HE;have HT:=ι (λW (h:ψ w W)=>hT.below h ν);have nb:¬(9223372036854775807<u.size+pb.size):=ω
 have HK:=ι (λW (h:ψ w W)=>(h.cell (p:=θ kb ko) hkb).trans hkc);obtain⟨rr,hrr⟩:=eX (r:Int);have HRR:=ι hrr;rw[hrr] at HP⊢
 have HI:Hid (AcM w u (.string o1) (.int .i64 o2) ep pb (.string o5) (.string o6) (.string o7) xP xB xD rr (((w.alloc (.cells #[.string u,.string o1,.int .i64 o2,.int .i64 ep,.string pb,.string o5,.string o6,.string o7] 65)).alloc (uX xP xB xD rr)).alloc (yV uB))):=ι (by
  refine⟨xN (zM w _ _) _,xN (zI w _ _) _,?_,?_⟩
  ·have:=xJ ((w.alloc (.cells #[.string u,.string o1,.int .i64 o2,.int .i64 ep,.string pb,.string o5,.string o6,.string o7] 65)).alloc (uX xP xB xD rr)) (yV uB);simpa using this
  ·exact((φ w _).alloc σ _).alloc (by simp;omega) _)
 clear hk hkc hkb hT hpw hu hpb hk0 hs hn hpz hrr hr1 hr2;go_enter func62,ntmps62;go_upto_region 1 with fail
 refine RG.zA 14 (λL W=>Hid (AcM w u (if L 7 then .string xP else .string o1) (if L 11 then .int .i64 rr else .int .i64 o2) ep pb (if L 9 then .string xB else .string o5) (.string o6) (if L 13 then .string ⟨#[]⟩ else .string o7) xP xB xD rr W)) (λL L' W h hI=>by rw[<-h 7 δ,<-h 9 δ,<-h 11 δ,<-h 13 δ];exact hI) κ κ rfl (ι HI.o.drew) ?_
 clear HI;refine RG.cS ?_;refine RG.cF (λL w9 h0 hcl xQ hw9=>xR9 hw9.o.f) ?_;refine RG.cS ?_;apply RG.xS
 ·rfl
 ·rfl
 ·intro L w9 h0 hcl xQ hw9;have q:=xA hw9.o.f 1;simp only[gA,gB,gC] at q;repeat go_step
  refine RG.xE ?_;exact⟨xQ,hw9⟩
 ·rfl
 refine RG.cS ?_;apply RG.xS
 ·rfl
 ·rfl
 ·intro L w9 h0 hcl xQ hw9;have q:=xA hw9.o.f 3;simp only[gA,gB,gC] at q;repeat go_step
  refine RG.xE ?_;exact⟨xQ,hw9⟩
 ·rfl
 refine RG.cS ?_;apply RG.xS
 ·rfl
 ·rfl
 ·intro L w9 h0 hcl xQ hw9;have hs9:=hw9.o;rw[h0,Ag (c:=false=true) σ] at hs9;have q:=xA hs9.a 1;have f:=xG hs9.a 1;simp only[gA,gB,gC] at q;have hp:=ι (hs9.set1 (.string xP));clear hs9;repeat go_step
  refine RG.xE ?_;refine⟨xQ,?_⟩;show Hid (AcM w u (if (true:Bool)=true then .string xP else .string o1) (if L 11 then .int .i64 rr else .int .i64 o2) ep pb (if L 9 then .string xB else .string o5) (.string o6) (if L 13 then .string ⟨#[]⟩ else .string o7) xP xB xD rr _)
  rw[Ah rfl];with_reducible exact hp
 ·rfl
 refine RG.cS ?_;apply RG.xS
 ·rfl
 ·rfl
 ·intro L w9 h0 hcl xQ hw9;have hs9:=hw9.o;rw[h0,Ag (c:=false=true) σ] at hs9;have q:=xA hs9.a 5;have f:=xG hs9.a 5;simp only[gA,gB,gC] at q;have hp:=ι (hs9.set5 (.string xB));clear hs9;repeat go_step
  refine RG.xE ?_;refine⟨xQ,?_⟩;show Hid (AcM w u (if L 7 then .string xP else .string o1) (if L 11 then .int .i64 rr else .int .i64 o2) ep pb (if (true:Bool)=true then .string xB else .string o5) (.string o6) (if L 13 then .string ⟨#[]⟩ else .string o7) xP xB xD rr _)
  rw[Ah rfl];with_reducible exact hp
 ·rfl
 refine RG.cS ?_;apply RG.xS
 ·rfl
 ·rfl
 ·intro L w9 h0 hcl xQ hw9;have hs9:=hw9.o;rw[h0,Ag (c:=false=true) σ] at hs9;have q:=xA hs9.a 2;have f:=xG hs9.a 2;simp only[gA,gB,gC] at q;have hp:=ι (hs9.set2 (.int .i64 rr));clear hs9;repeat go_step
  refine RG.xE ?_;refine⟨xQ,?_⟩;show Hid (AcM w u (if L 7 then .string xP else .string o1) (if (true:Bool)=true then .int .i64 rr else .int .i64 o2) ep pb (if L 9 then .string xB else .string o5) (.string o6) (if L 13 then .string ⟨#[]⟩ else .string o7) xP xB xD rr _)
  rw[Ah rfl];with_reducible exact hp
 ·rfl
 refine RG.cS ?_;apply RG.xS
 ·rfl
 ·rfl
 ·intro L w9 h0 hcl xQ hw9;have hs9:=hw9.o;rw[h0,Ag (c:=false=true) σ] at hs9;have q:=xA hs9.a 7;have f:=xG hs9.a 7;simp only[gA,gB,gC] at q;have hp:=ι (hs9.set7 (.string ⟨#[]⟩));clear hs9;repeat go_step
  refine RG.xE ?_;refine⟨xQ,?_⟩;show Hid (AcM w u (if L 7 then .string xP else .string o1) (if L 11 then .int .i64 rr else .int .i64 o2) ep pb (if L 9 then .string xB else .string o5) (.string o6) (if (true:Bool)=true then .string ⟨#[]⟩ else .string o7) xP xB xD rr _)
  rw[Ah rfl];with_reducible exact hp
 ·rfl
 refine RG.yY (λw2 hw2=>?_);rw[Ah rfl,Ah rfl,Ah rfl,Ah rfl] at hw2;have c1:=xA hw2.o.a 1;have c2:=xA hw2.o.a 2;simp only[gA,gB,gC] at c1 c2;go_wp2_with fail
 refine cM (HP.o _ (HT.o _ hw2.o.bel)) λw3 hb3=>?_;have H3:=ι (hw2.o.below hb3);clear hb3 hw2 HP c1 c2;go_upto_region 5 with fail
 refine RG.zA 18 (λL W=>Hid (AcM w u (.string xP) (.int .i64 rr) ep pb (.string xB) (if L 16 then .string wr else .string o6) (.string ⟨#[]⟩) xP xB xD rr W)) (λL L' W h hI=>by rw[<-h 16 δ];exact hI) κ κ rfl (ι H3.o.drew) ?_;clear H3;iterate 2 refine RG.cS ?_
 apply RG.xS
 ·rfl
 ·rfl
 ·intro L w9 h0 hcl xQ hw9;have q:=xA hw9.o.a 5;simp only[gA,gB,gC] at q;repeat go_step
  refine RG.xE ?_;exact⟨xQ,hw9⟩
 ·rfl
 refine RG.cS ?_;refine RG.cF (λL w9 h0 hcl xQ hw9=>xR9 hw9.o.a) ?_;refine RG.cS ?_;apply RG.xS
 ·rfl
 ·rfl
 ·intro L w9 h0 hcl xQ hw9;have q:=xA hw9.o.a 4;simp only[gA,gB,gC] at q;repeat go_step
  refine RG.xE ?_;exact⟨xQ,hw9⟩
 ·rfl
 iterate 3 refine RG.cS ?_
 refine RG.cF (λL w9 h0 hcl xQ hw9=>HK.o _ hw9.o.bel) ?_;apply RG.xS
 ·rfl
 ·rfl
 ·intro L w9 h0 hcl xQ hw9;repeat go_step
  refine(HS.o _).mono ?_;rintro e w10 ⟨rfl,zO⟩;simp only[];repeat go_step
  refine RG.xE ?_;exact⟨xQ,ι (hw9.o.below zO)⟩
 ·rfl
 iterate 4 refine RG.cS ?_
 apply RG.xS
 ·rfl
 ·rfl
 ·intro L w9 h0 hcl xQ hw9;have hs9:=hw9.o;rw[h0,Ag (c:=false=true) σ] at hs9;have q:=xA hs9.a 6;have f:=xG hs9.a 6;simp only[gA,gB,gC] at q;have hp:=ι (hs9.set6 (.string wr));clear hs9;repeat go_step
  refine RG.xE ?_;refine⟨xQ,?_⟩;show Hid (AcM w u (.string xP) (.int .i64 rr) ep pb (.string xB) (if (true:Bool)=true then .string wr else .string o6) (.string ⟨#[]⟩) xP xB xD rr _);rw[Ah rfl];with_reducible exact hp
 ·rfl
 refine RG.cS ?_;refine RG.yY (λw5 hw5=>?_);rw[Ah rfl] at hw5;clear HS HT HK;obtain⟨a0,a1,a2,a3,a4,a5,a6,a7⟩:=xYs hw5.o.a
 obtain⟨o0,y0,f0,o1,y1,f1,o2,y2,f2,o3,y3,f3,o4,y4,f4,o5,y5,f5,o6,y6,f6,o7,y7,f7,HB⟩:=xZd hw5.o.o hw5.o.bel ω (.string u) (.string xP) (.int .i64 rr) (.int .i64 ep) (.string pb) (.string xB) (.string wr) (.string ⟨#[]⟩) _ rfl;clear hw5;go_wp2_with fail
 refine Ak (v:=.tuple #[.agg #[.string u,.string xP,.int .i64 rr,.int .i64 ep,.string pb,.string xB,.string wr,.string ⟨#[]⟩],.int .i64 0]) (by simp[results,results62,go_sem,f0,f1,f2,f3,f4,f5,f6,f7]) rfl ?_;rw[HE.o,HRR.o];exact⟨rfl,HB.o⟩
end Go.Proofs.SH
namespace Go.Proofs.SH
open Go.RowKit Mailsack MM BB SV FE
theorem rd_one (w:World) (x:ByteArray):RdS (w.alloc (.cells #[.string x] 9)) (w.alloc (.cells #[.string x] 9)).heap.size (.slice (some (θ w.heap.size 0)) 1 1) [x.data.toList]:=by
 refine⟨_,_,rfl,Bd _,λ_=>⟨_,_,rfl,σ,λj y hy=>?_⟩⟩
 have hj:j=0:=by
  have:=(Ar.1 hy).1;simpa using this
 subst hj;injection hy with hy;subst hy;exact xA (xJ w (.cells #[.string x] 9)) 0
theorem yGx (u pw xP xB xD:ByteArray) (r:Int) (w:World) (hu:u.size<=1099511627776) (h:(zS u&&uR xP xB xD r)=false):
  Calls prog 18 #[.string u,.string pw,xDe xP xB xD r] w (pv (.tuple #[xB1 uB,.int .i64 1]) w):=by
 have HU:=ι (λW=>xC8 u W hu);have HF:=ι (λW=>xEm xP xB xD r W);have t0:=zM w (uX xP xB xD r) (yV uB);have t1:=zI w (uX xP xB xD r) (yV uB)
 have H0:Hid (((w.alloc (uX xP xB xD r)).alloc (yV uB)).heap[w.heap.size]?=some (uX xP xB xD r)/\((w.alloc (uX xP xB xD r)).alloc (yV uB)).heap[w.heap.size+1]?=some (yV uB)/\ψ w ((w.alloc (uX xP xB xD r)).alloc (yV uB))):=ι ⟨t0,t1,(φ w _).alloc σ _⟩;clear t0 t1;cases hb:zS u with
 |false=>
  rw[hb] at HU;clear hb h HF;go_enter func18,ntmps18;go_wp2_with fail
  refine cM (HU.o _) λw1 hw1=>?_;have H1:w1.heap[w.heap.size+1]?=some (yV uB)/\ψ w w1:=by rw[hw1];exact H0.o.2
  obtain⟨o0,y0,f0,o1,y1,f1,o2,y2,f2,o3,y3,f3,o4,y4,f4,o5,y5,f5,o6,y6,f6,o7,y7,f7,HB⟩:=xZd H1.1 H1.2 ω (.string ⟨#[]⟩) (.string ⟨#[]⟩) (.int .i64 0) (.int .i64 0) (.string ⟨#[]⟩) (.string ⟨#[]⟩) (.string ⟨#[]⟩) (.string ⟨#[]⟩) _ rfl;clear H0 H1 hw1 HU;go_wp2
  refine Ak (v:=.tuple #[.agg #[.string ⟨#[]⟩,.string ⟨#[]⟩,.int .i64 0,.int .i64 0,.string ⟨#[]⟩,.string ⟨#[]⟩,.string ⟨#[]⟩,.string ⟨#[]⟩],.int .i64 1]) (by simp[results,results18,go_sem,f0,f1,f2,f3,f4,f5,f6,f7]) rfl ?_;exact⟨rfl,HB.o⟩
 |true=>
  have hf:uR xP xB xD r=false:=by rw[hb] at h;exact h
  rw[hb] at HU;rw[hf] at HF;clear hb h hf;go_enter func18,ntmps18;go_wp2_with fail
  refine cM (HU.o _) λw1 hw1=>?_;have H1:=ι (show w1.heap[w.heap.size]?=some (uX xP xB xD r)/\w1.heap[w.heap.size+1]?=some (yV uB)/\ψ w w1 by rw[hw1];exact H0.o);clear hw1 H0 HU;obtain⟨d0,d1,d2,d3⟩:=xW9 H1.o.1;go_wp2_with fail
  refine cM (HF.o _) λw2 hb2=>?_;have h2:=xC H1.o.2.1 hb2 (xH H1.o.2.1);have h3:=bT H1.o.2.2 hb2
  obtain⟨o0,y0,f0,o1,y1,f1,o2,y2,f2,o3,y3,f3,o4,y4,f4,o5,y5,f5,o6,y6,f6,o7,y7,f7,HB⟩:=xZd h2 h3 ω (.string ⟨#[]⟩) (.string ⟨#[]⟩) (.int .i64 0) (.int .i64 0) (.string ⟨#[]⟩) (.string ⟨#[]⟩) (.string ⟨#[]⟩) (.string ⟨#[]⟩) _ rfl;clear h2 h3 hb2 H1 HF d0 d1 d2 d3;go_wp2
  refine Ak (v:=.tuple #[.agg #[.string ⟨#[]⟩,.string ⟨#[]⟩,.int .i64 0,.int .i64 0,.string ⟨#[]⟩,.string ⟨#[]⟩,.string ⟨#[]⟩,.string ⟨#[]⟩],.int .i64 1]) (by simp[results,results18,go_sem,f0,f1,f2,f3,f4,f5,f6,f7]) rfl ?_;exact⟨rfl,HB.o⟩
theorem yKx (u pw xP xB xD:ByteArray) (r:Nat) (w:World) (hu:zS u=true) (hf:uR xP xB xD (r:Int)=true) (hpw:pw.size<=1000) (hT:jE w):
  Calls prog 18 #[.string u,.string pw,xDe xP xB xD r] w (pv (.tuple #[xB1 (xBp u (xV xD) 0 pw xP xB r xD),.int .i64 0]) w):=by
 have hu8:u.size<=8:=by
  unfold zS at hu;simp only[Au,Be] at hu;exact hu.1.2
 have hff:xP.size=16/\xB.size=12/\1<=(r:Int)/\(r:Int)<=64/\xD.size=32:=by
  unfold uR jN at hf;simp only[Au,Be] at hf;exact⟨hf.1.1.1.1,hf.1.1.1.2,hf.1.1.2,hf.1.2,hf.2⟩
 obtain⟨f1,f2,f3,f4,f5⟩:=hff;have HU:=ι (λW=>xC8 u W ω);have HF:=ι (λW=>xEm xP xB xD (r:Int) W);rw[hu] at HU;rw[hf] at HF;have HPU:=ι (λW=>xDz xD W f5);have yLh:(xV xD).size=32:=wC _ _
 have HWR:=ι (λW kv (h:jE W) (hk:RdS W W.heap.size kv [xD.data.toList])=>wrap_one u ⟨#[]⟩ 0 0 (xV xD) ⟨#[]⟩ ⟨#[]⟩ ⟨#[]⟩ pw xP xB xD xD r kv W ω ω f2 ω ω ω ω hpw h hk);have HT:=ι (λW (h:ψ w W)=>hT.below h ν)
 have HE:Hid (xBp u (xV xD) 0 pw xP xB r xD=xBp u (xV xD) 0 pw xP xB r xD):=ι rfl;generalize xBp u (xV xD) 0 pw xP xB r xD=res at HWR HE⊢;generalize xV xD=pubv at HPU HWR;obtain⟨rr,hrr⟩:=eX (r:Int);rw[hrr] at HF HWR⊢;obtain⟨x0,x1,x2,x3,x4,x5,x6,x7⟩:=res
 simp only[xB1] at HWR⊢;have t0:=zM w (uX xP xB xD rr) (yV uB);have t1:=zI w (uX xP xB xD rr) (yV uB)
 have H0:Hid (((w.alloc (uX xP xB xD rr)).alloc (yV uB)).heap[w.heap.size]?=some (uX xP xB xD rr)/\((w.alloc (uX xP xB xD rr)).alloc (yV uB)).heap[w.heap.size+1]?=some (yV uB)/\ψ w ((w.alloc (uX xP xB xD rr)).alloc (yV uB))):=ι ⟨t0,t1,(φ w _).alloc σ _⟩
 clear t0 t1 HE hrr hT hpw hu hf f1 f2 f3 f4 f5 hu8 yLh;go_enter func18,ntmps18;go_wp2_with fail
 refine cM (HU.o _) λw1 hw1=>?_;have H1:=ι (show w1.heap[w.heap.size]?=some (uX xP xB xD rr)/\w1.heap[w.heap.size+1]?=some (yV uB)/\ψ w w1 by rw[hw1];exact H0.o);clear hw1 H0 HU;obtain⟨d0,d1,d2,d3⟩:=xW9 H1.o.1;go_wp2_with fail
 clear d0 d1 d2 d3;refine cM (HF.o _) λw2 hb2=>?_;have H2:=ι (Ai (xC H1.o.1 hb2 (xH H1.o.1)) (Ai (xC H1.o.2.1 hb2 (xH H1.o.2.1)) (bT H1.o.2.2 hb2)));clear H1 hb2 HF;obtain⟨d0,d1,d2,d3⟩:=xW9 H2.o.1;go_wp2_with fail
 clear d0 d1 d2 d3;refine cM (HPU.o _) λw3 hb3=>?_;have H3:=ι (Ai (xC H2.o.1 hb3 (xH H2.o.1)) (Ai (xC H2.o.2.1 hb3 (xH H2.o.2.1)) (bT H2.o.2.2 hb3)));clear H2 hb3 HPU;obtain⟨d0,d1,d2,d3⟩:=xW9 H3.o.1
 have H4:=ι (Ai (xN H3.o.2.1 (.cells #[.string xD] 9)) (H3.o.2.2.alloc H3.o.2.2.size (.cells #[.string xD] 9)));have HRD:=ι (rd_one w3 xD);go_wp2_with fail
 refine cM (HWR.o _ _ (HT.o _ H4.o.2) HRD.o) λw5 hb5=>?_;have h2:=xC H4.o.1 hb5 (xH H4.o.1);have h3:=bT H4.o.2 hb5
 obtain⟨o0,y0,f0,o1,y1,f1,o2,y2,f2,o3,y3,f3,o4,y4,f4,o5,y5,f5,o6,y6,f6,o7,y7,f7,HB⟩:=xZd h2 h3 ω (.string x0) (.string x1) (.int .i64 x2) (.int .i64 x3) (.string x4) (.string x5) (.string x6) (.string x7) _ rfl;clear h2 h3 hb5 H4 H3 HRD HWR HT d0 d1 d2 d3;go_wp2
 refine Ak (v:=.tuple #[.agg #[.string x0,.string x1,.int .i64 x2,.int .i64 x3,.string x4,.string x5,.string x6,.string x7],.int .i64 0]) (by simp[results,results18,go_sem,f0,f1,f2,f3,f4,f5,f6,f7]) rfl ?_;exact⟨rfl,HB.o⟩
abbrev yIe (r:ByteArray):Obj:=.cells #[.string r] 9
structure TkA (w:World) (r:ByteArray) (W:World):Prop where
 o:W.heap[w.heap.size]?=some (yV uB)
 r:W.heap[w.heap.size+1]?=some (yIe r)
 bel:ψ w W
theorem TkA.next {w W:World} {r:ByteArray} (h:TkA w r W) (r':ByteArray):TkA w r' (W.setCell (θ (w.heap.size+1) 0) (.string r')):=
 ⟨yA h.o (p:=(θ (w.heap.size+1) 0)) (by show w.heap.size≠w.heap.size+1;omega) _,by have:=yD h.r 0 (.string r');simpa using this,h.bel.setCell (p:=(θ (w.heap.size+1) 0)) σ _⟩
structure TkB (w:World) (g:Nat) (r:ByteArray) (a:vY) (W:World):Prop where
 o:W.heap[w.heap.size]?=some (yV uB)
 r:W.heap[w.heap.size+1]?=some (yIe r)
 a:W.heap[g]?=some (yV a)
 bel:ψ w W
 lt:w.heap.size+1<g
theorem TkB.next {w W:World} {g:Nat} {r:ByteArray} {a:vY} (h:TkB w g r a W) (r':ByteArray):TkB w g r' a (W.setCell (θ (w.heap.size+1) 0) (.string r')):=
 ⟨yA h.o (p:=(θ (w.heap.size+1) 0)) (by show w.heap.size≠w.heap.size+1;omega) _,by have:=yD h.r 0 (.string r');simpa using this,yA h.a (p:=(θ (w.heap.size+1) 0)) (by show g≠w.heap.size+1;have:=h.lt;omega) _,h.bel.setCell (p:=(θ (w.heap.size+1) 0)) σ _,h.lt⟩
theorem TkB.put {w W:World} {g:Nat} {r:ByteArray} {a:vY} (h:TkB w g r a W) (i:Nat) (v:Value) (a':vY) (e:(#[Value.string a.user,.string a.xP,.int .i64 a.rounds,.int .i64 a.jB,.string a.pub,.string a.xB,.string a.wrapped,.string a.old]:Array Value).setIfInBounds i v=#[.string a'.user,.string a'.xP,.int .i64 a'.rounds,.int .i64 a'.jB,.string a'.pub,.string a'.xB,.string a'.wrapped,.string a'.old]):TkB w g r a' (W.setCell (θ g i) v):=
 ⟨yA h.o (p:=θ g i) (by show w.heap.size≠g;have:=h.lt;omega) _,yA h.r (p:=θ g i) (by show w.heap.size+1≠g;have:=h.lt;omega) _,by have:=yD h.a i v;rw[e] at this;exact this,h.bel.setCell (p:=θ g i) (by show w.heap.size<=g;have:=h.lt;omega) _,h.lt⟩
theorem yB1 (s:ByteArray) (w:World) (hs:s.size<=1000000):
  Calls prog 58 #[.string s] w (pv (.tuple #[xB1 (if xCn s=true then xC5 s else uB),.int .i64 (if xCn s=true then 0 else 3)]) w):=by
 have HO:Hid ((w.alloc (yV uB)).heap[w.heap.size]?=some (yV uB)/\ψ w (w.alloc (yV uB))):=ι ⟨xJ _ _,φ w _⟩;have HF:Hid (xCn s=(!decide (s.size=0)&&!decide (s.size<xN3 s+111)&&uL (xC5 s))):=ι rfl
 by_cases h0:s.size=0
 ·have e0:xCn s=false:=by rw[HF.o,Bq h0];rfl
  rw[e0,Ag σ,Ag σ];have i6:(s.toList==[])=true:=by rw[Br];simp;exact Ef h0
  clear HF e0 h0 hs;go_enter func58,ntmps58;go_upto_region 2 with fail
  obtain⟨w1,hw1⟩:=eX (w.alloc (yV uB));rw[hw1] at HO;simp only[yV,uB] at hw1;rw[hw1]
  obtain⟨o0,y0,f0,o1,y1,f1,o2,y2,f2,o3,y3,f3,o4,y4,f4,o5,y5,f5,o6,y6,f6,o7,y7,f7,HB⟩:=xZd HO.o.1 HO.o.2 ω (.string ⟨#[]⟩) (.string ⟨#[]⟩) (.int .i64 0) (.int .i64 0) (.string ⟨#[]⟩) (.string ⟨#[]⟩) (.string ⟨#[]⟩) (.string ⟨#[]⟩) _ rfl;clear HO hw1;go_wp2
  refine Ak (v:=.tuple #[.agg #[.string ⟨#[]⟩,.string ⟨#[]⟩,.int .i64 0,.int .i64 0,.string ⟨#[]⟩,.string ⟨#[]⟩,.string ⟨#[]⟩,.string ⟨#[]⟩],.int .i64 3]) (by simp[results,results58,go_sem,f0,f1,f2,f3,f4,f5,f6,f7]) rfl ?_;exact⟨rfl,HB.o⟩
 ·have i6:(s.toList==[])=false:=by
   rw[Br];cases hx:(s.data.toList==[]) with
   |false=>rfl
   |true=>
    simp only[Gz] at hx;exact absurd (show s.data.size=0 by rw[<-Cu,hx];rfl) h0
  have ix:=λw=>zN (P:=prog) underlying9 s (0:Int) 0 rfl ω w;obtain⟨b0,b1⟩:=zD s 0;obtain⟨u,hu⟩:∃u:Nat,yU s 0=(u:Int):=⟨(yU s 0).toNat,ω⟩;have hun:xN3 s=u:=by unfold xN3;rw[hu];rfl
  rw[hu] at ix b0 b1;have hsz:=kZ s 1;have hr0:s.extract 1 s.size=yQ s 1:=rfl
  have HT:Hid (xC5 s=⟨wD (yQ s 1) u,wD (yQ (yQ s 1) u) 16,yU (wD (yQ (yQ (yQ s 1) u) 16) 1) 0,yU (wD (yQ (yQ (yQ (yQ s 1) u) 16) 1) 1) 0,wD (yQ (yQ (yQ (yQ (yQ s 1) u) 16) 1) 1) 32,
   wD (yQ (yQ (yQ (yQ (yQ (yQ s 1) u) 16) 1) 1) 32) 12,wD (yQ (yQ (yQ (yQ (yQ (yQ (yQ s 1) u) 16) 1) 1) 32) 12) 48,yQ (yQ (yQ (yQ (yQ (yQ (yQ (yQ s 1) u) 16) 1) 1) 32) 12) 48⟩):=ι (by
    unfold xC5 yI8;rw[hun])
  have h1s:¬((s.size:Int)<1):=ω;have h1t:(1:Int)<=(s.size:Int):=ω;generalize yQ s 1=r0 at hsz hr0 HT;have HSZ:=ι hsz;have hu0:¬((u:Int)<0):=ω;have huu:u<256:=ω;have hrz:(r0.size:Int)=(s.size:Int)-1:=ω;clear hu hsz
  by_cases hsh:s.size<u+111
  ·have e0:xCn s=false:=by rw[HF.o,hun,Bq hsh,Bool.not_true,Gq,Dy]
   rw[e0,Ag σ,Ag σ];have hshi:(r0.size:Int)<(u:Int)+16+2+32+12+48:=ω;clear HF e0 HT hun b0 b1 hsh hrz;go_enter func58,ntmps58;go_upto_region 6 with fail
   have HO2:=ι (show TkA w r0 ((w.alloc (yV uB)).alloc (yIe r0)) from⟨xN HO.o.1 _,zI _ _ _,HO.o.2.alloc HO.o.2.size _⟩);obtain⟨w1,hw1⟩:=eX ((w.alloc (yV uB)).alloc (yIe r0));rw[hw1] at HO2;simp only[yV,uB,yIe] at hw1;rw[hw1];clear hw1 HO
   obtain⟨o0,y0,f0,o1,y1,f1,o2,y2,f2,o3,y3,f3,o4,y4,f4,o5,y5,f5,o6,y6,f6,o7,y7,f7,HB⟩:=xZd HO2.o.o HO2.o.bel ω (.string ⟨#[]⟩) (.string ⟨#[]⟩) (.int .i64 0) (.int .i64 0) (.string ⟨#[]⟩) (.string ⟨#[]⟩) (.string ⟨#[]⟩) (.string ⟨#[]⟩) _ rfl;clear HO2;go_wp2
   refine Ak (v:=.tuple #[.agg #[.string ⟨#[]⟩,.string ⟨#[]⟩,.int .i64 0,.int .i64 0,.string ⟨#[]⟩,.string ⟨#[]⟩,.string ⟨#[]⟩,.string ⟨#[]⟩],.int .i64 3]) (by simp[results,results58,go_sem,f0,f1,f2,f3,f4,f5,f6,f7]) rfl ?_;exact⟨rfl,HB.o⟩
  ·have hshi:¬((r0.size:Int)<(u:Int)+16+2+32+12+48):=ω;have hrn:u+110<=r0.size:=by have:=HSZ.o;omega
   clear hrz;obtain⟨rv,hrv⟩:=eX (if xCn s=true then xC5 s else uB);obtain⟨re,hre⟩:∃re:Int,(if xCn s=true then(0:Int) else 3)=re:=⟨_,rfl⟩;rw[hrv,hre];have HV:=ι (Ai hrv hre);clear hrv hre;go_enter func58,ntmps58;go_upto_region 8 with fail
   have HA0:=ι (show TkA w r0 ((w.alloc (yV uB)).alloc (yIe r0)) from⟨xN HO.o.1 _,zI _ _ _,HO.o.2.alloc HO.o.2.size _⟩);obtain⟨w1,hw1⟩:=eX ((w.alloc (yV uB)).alloc (yIe r0));rw[hw1] at HA0;simp only[yV,uB,yIe] at hw1;rw[hw1];clear hw1 HO
   have HZ:Hid (u+110<=r0.size/\r0.size<=1000000):=ι ⟨hrn,by have:=HSZ.o;omega⟩;have HSH:=ι hsh;clear hrn hshi h1s h1t i6 ix hr0 hsh HSZ;obtain⟨p0,hp0⟩:=eX (wD r0 u);obtain⟨r1,hr1⟩:=eX (yQ r0 u)
   have HN:=ι (xCc (w.heap.size+1) u r0 _ HA0.o.r (by have:=HZ.o;omega));have HP0:Hid (p0.size=u):=ι (by rw[<-hp0];exact tQ _ _ (by have:=HZ.o;omega));have HZ2:Hid (110<=r1.size/\r1.size<=1000000):=ι (by have:=HZ.o;rw[<-hr1,kZ];omega);rw[hp0,hr1] at HN;simp only[hp0,hr1] at HT
   clear hp0 hr1 HZ;have HZ:=HZ2;clear HZ2;go_wp2_with fail
   refine HN.o.mono ?_;rintro e wn ⟨rfl,hwn⟩;have HA1:Hid (TkA w r1 wn):=ι (by rw[hwn];exact HA0.o.next r1);clear hwn HA0 HN;obtain⟨p1,hp1⟩:=eX (wD r1 16);obtain⟨r2,hr2⟩:=eX (yQ r1 16);have HN:=ι (xCc (w.heap.size+1) 16 r1 _ HA1.o.r (by have:=HZ.o;omega))
   have HP1:Hid (p1.size=16):=ι (by rw[<-hp1];exact tQ _ _ (by have:=HZ.o;omega));have HZ2:Hid (94<=r2.size/\r2.size<=1000000):=ι (by have:=HZ.o;rw[<-hr2,kZ];omega);rw[hp1,hr2] at HN;simp only[hp1,hr2] at HT;clear hp1 hr2 HZ;have HZ:=HZ2;clear HZ2;go_wp2_with fail
   refine HN.o.mono ?_;rintro e wm ⟨rfl,hwn⟩;have HA2:Hid (TkA w r2 wm):=ι (by rw[hwn];exact HA1.o.next r2);clear hwn HA1 HN
   have HB0:=ι (show TkB w wm.heap.size r2 ⟨p0,p1,0,0,⟨#[]⟩,⟨#[]⟩,⟨#[]⟩,⟨#[]⟩⟩ (wm.alloc (yV ⟨p0,p1,0,0,⟨#[]⟩,⟨#[]⟩,⟨#[]⟩,⟨#[]⟩⟩)) from⟨xN HA2.o.o _,xN HA2.o.r _,xJ _ _,HA2.o.bel.alloc HA2.o.bel.size _,xH HA2.o.r⟩);go_upto_region 9 with fail
   obtain⟨w3,hw3⟩:=eX (wm.alloc (yV ⟨p0,p1,0,0,⟨#[]⟩,⟨#[]⟩,⟨#[]⟩,⟨#[]⟩⟩));rw[hw3] at HB0;simp only[yV] at hw3;rw[hw3];clear hw3;obtain⟨g,hg⟩:=eX wm.heap.size;rw[hg] at HB0⊢;clear hg HA2;obtain⟨p2,hp2⟩:=eX (wD r2 1)
   obtain⟨r3,hr3⟩:=eX (yQ r2 1);have HN:=ι (xCc (w.heap.size+1) 1 r2 _ HB0.o.r (by have:=HZ.o;omega));have HP2:Hid (p2.size=1):=ι (by rw[<-hp2];exact tQ _ _ (by have:=HZ.o;omega));have HZ2:Hid (93<=r3.size/\r3.size<=1000000):=ι (by have:=HZ.o;rw[<-hr3,kZ];omega)
   rw[hp2,hr3] at HN;simp only[hp2,hr3] at HT;clear hp2 hr3 HZ;have HZ:=HZ2;clear HZ2;go_wp2_with fail
   refine HN.o.mono ?_;rintro e wn ⟨rfl,hwn⟩;have HC:Hid (TkB w g r3 ⟨p0,p1,0,0,⟨#[]⟩,⟨#[]⟩,⟨#[]⟩,⟨#[]⟩⟩ wn):=ι (by rw[hwn];exact HB0.o.next r3);clear hwn HB0 HN;have c2:=xA HC.o.a 2;have f2:=xG HC.o.a 2;simp only[gA,gB,gC] at c2
   have ix:=λw=>zN (P:=prog) underlying9 p2 (0:Int) 0 rfl (by have:=HP2.o;omega) w;have hpi:(p2.size:Int)=1:=by have:=HP2.o;omega
   obtain⟨q0,q1⟩:=zD p2 0;generalize yU p2 0=e2 at ix q0 q1 HT;go_upto_region 10 with fail
   have HB1:=ι (HC.o.put 2 (.int .i64 e2) ⟨p0,p1,e2,0,⟨#[]⟩,⟨#[]⟩,⟨#[]⟩,⟨#[]⟩⟩ rfl);clear c2 f2 HC ix q0 q1 hpi;generalize wn.setCell (θ g 2) (.int .i64 e2)=wk0 at HB1⊢;obtain⟨p3,hp3⟩:=eX (wD r3 1);obtain⟨r4,hr4⟩:=eX (yQ r3 1)
   have HN:=ι (xCc (w.heap.size+1) 1 r3 _ HB1.o.r (by have:=HZ.o;omega));have HP3:Hid (p3.size=1):=ι (by rw[<-hp3];exact tQ _ _ (by have:=HZ.o;omega));have HZ2:Hid (92<=r4.size/\r4.size<=1000000):=ι (by have:=HZ.o;rw[<-hr4,kZ];omega);rw[hp3,hr4] at HN;simp only[hp3,hr4] at HT
   clear hp3 hr4 HZ;have HZ:=HZ2;clear HZ2;go_wp2_with fail
   refine HN.o.mono ?_;rintro e wn ⟨rfl,hwn⟩;have HC:Hid (TkB w g r4 ⟨p0,p1,e2,0,⟨#[]⟩,⟨#[]⟩,⟨#[]⟩,⟨#[]⟩⟩ wn):=ι (by rw[hwn];exact HB1.o.next r4);clear hwn HB1 HN;have c3:=xA HC.o.a 3;have f3:=xG HC.o.a 3;simp only[gA,gB,gC] at c3
   have ix:=λw=>zN (P:=prog) underlying9 p3 (0:Int) 0 rfl (by have:=HP3.o;omega) w;have hpi:(p3.size:Int)=1:=by have:=HP3.o;omega
   obtain⟨q0,q1⟩:=zD p3 0;generalize yU p3 0=e3 at ix q0 q1 HT;go_upto_region 11 with fail
   have HB2:=ι (HC.o.put 3 (.int .i64 e3) ⟨p0,p1,e2,e3,⟨#[]⟩,⟨#[]⟩,⟨#[]⟩,⟨#[]⟩⟩ rfl);clear c3 f3 HC ix q0 q1 hpi;generalize wn.setCell (θ g 3) (.int .i64 e3)=wk1 at HB2⊢;obtain⟨p4,hp4⟩:=eX (wD r4 32);obtain⟨r5,hr5⟩:=eX (yQ r4 32)
   have HN:=ι (xCc (w.heap.size+1) 32 r4 _ HB2.o.r (by have:=HZ.o;omega));have HP4:Hid (p4.size=32):=ι (by rw[<-hp4];exact tQ _ _ (by have:=HZ.o;omega));have HZ2:Hid (60<=r5.size/\r5.size<=1000000):=ι (by have:=HZ.o;rw[<-hr5,kZ];omega);rw[hp4,hr5] at HN;simp only[hp4,hr5] at HT
   clear hp4 hr5 HZ;have HZ:=HZ2;clear HZ2;go_wp2_with fail
   refine HN.o.mono ?_;rintro e wn ⟨rfl,hwn⟩;have HC:Hid (TkB w g r5 ⟨p0,p1,e2,e3,⟨#[]⟩,⟨#[]⟩,⟨#[]⟩,⟨#[]⟩⟩ wn):=ι (by rw[hwn];exact HB2.o.next r5);clear hwn HB2 HN;have c4:=xA HC.o.a 4;have f4:=xG HC.o.a 4;simp only[gA,gB,gC] at c4;go_upto_region 12 with fail
   have HB3:=ι (HC.o.put 4 (.string p4) ⟨p0,p1,e2,e3,p4,⟨#[]⟩,⟨#[]⟩,⟨#[]⟩⟩ rfl);clear c4 f4 HC;generalize wn.setCell (θ g 4) (.string p4)=wk2 at HB3⊢;obtain⟨p5,hp5⟩:=eX (wD r5 12);obtain⟨r6,hr6⟩:=eX (yQ r5 12)
   have HN:=ι (xCc (w.heap.size+1) 12 r5 _ HB3.o.r (by have:=HZ.o;omega));have HP5:Hid (p5.size=12):=ι (by rw[<-hp5];exact tQ _ _ (by have:=HZ.o;omega));have HZ2:Hid (48<=r6.size/\r6.size<=1000000):=ι (by have:=HZ.o;rw[<-hr6,kZ];omega);rw[hp5,hr6] at HN;simp only[hp5,hr6] at HT
   clear hp5 hr6 HZ;have HZ:=HZ2;clear HZ2;go_wp2_with fail
   refine HN.o.mono ?_;rintro e wn ⟨rfl,hwn⟩;have HC:Hid (TkB w g r6 ⟨p0,p1,e2,e3,p4,⟨#[]⟩,⟨#[]⟩,⟨#[]⟩⟩ wn):=ι (by rw[hwn];exact HB3.o.next r6);clear hwn HB3 HN;have c5:=xA HC.o.a 5;have f5:=xG HC.o.a 5;simp only[gA,gB,gC] at c5;go_upto_region 13 with fail
   have HB4:=ι (HC.o.put 5 (.string p5) ⟨p0,p1,e2,e3,p4,p5,⟨#[]⟩,⟨#[]⟩⟩ rfl);clear c5 f5 HC;generalize wn.setCell (θ g 5) (.string p5)=wk3 at HB4⊢;obtain⟨p6,hp6⟩:=eX (wD r6 48);obtain⟨r7,hr7⟩:=eX (yQ r6 48)
   have HN:=ι (xCc (w.heap.size+1) 48 r6 _ HB4.o.r (by have:=HZ.o;omega));have HP6:Hid (p6.size=48):=ι (by rw[<-hp6];exact tQ _ _ (by have:=HZ.o;omega));have HZ2:Hid (0<=r7.size/\r7.size<=1000000):=ι (by have:=HZ.o;rw[<-hr7,kZ];omega);rw[hp6,hr7] at HN;simp only[hp6,hr7] at HT
   clear hp6 hr7 HZ;have HZ:=HZ2;clear HZ2;go_wp2_with fail
   refine HN.o.mono ?_;rintro e wn ⟨rfl,hwn⟩;have HC:Hid (TkB w g r7 ⟨p0,p1,e2,e3,p4,p5,⟨#[]⟩,⟨#[]⟩⟩ wn):=ι (by rw[hwn];exact HB4.o.next r7);clear hwn HB4 HN;have c6:=xA HC.o.a 6;have f6:=xG HC.o.a 6;simp only[gA,gB,gC] at c6;go_upto_region 14 with fail
   have HB5:=ι (HC.o.put 6 (.string p6) ⟨p0,p1,e2,e3,p4,p5,p6,⟨#[]⟩⟩ rfl);clear c6 f6 HC;generalize wn.setCell (θ g 6) (.string p6)=wk4 at HB5⊢;have c7:=xA HB5.o.a 7;have f7:=xG HB5.o.a 7;have cr:=xA HB5.o.r 0;simp only[gA,gB,gC] at c7 cr;go_upto_region 15 with fail
   have HB6:=ι (HB5.o.put 7 (.string r7) ⟨p0,p1,e2,e3,p4,p5,p6,r7⟩ rfl);clear c7 f7 cr HB5;generalize wk4.setCell (θ g 7) (.string r7)=w9 at HB6⊢;have HR:=ι (λW=>xGp ⟨p0,p1,e2,e3,p4,p5,p6,r7⟩ W (by have:=HP0.o;simp only;omega));rw[<-HT.o] at HR
   obtain⟨c0,c1,c2,c3,c4,c5,c6,c7⟩:=xYs HB6.o.a;rw[hun,Cq h0,Cq HSH.o,Bool.not_false,Ed,Ed] at HF;rw[HF.o] at HV;clear HF hun h0 HSH;cases hra:uL (xC5 s) with
   |false=>
    rw[hra] at HR;rw[hra,Ag σ,Ag σ] at HV;simp only[HT.o,xB1] at HR;clear hra HT;go_wp2_with fail
    refine cM (HR.o _) λwz hbz=>?_;have hoz:=xC HB6.o.o hbz (xH HB6.o.o);have hbb:=bT HB6.o.bel hbz
    obtain⟨o0,y0,f0,o1,y1,f1,o2,y2,f2,o3,y3,f3,o4,y4,f4,o5,y5,f5,o6,y6,f6,o7,y7,f7,HB⟩:=xZd hoz hbb ω (.string ⟨#[]⟩) (.string ⟨#[]⟩) (.int .i64 0) (.int .i64 0) (.string ⟨#[]⟩) (.string ⟨#[]⟩) (.string ⟨#[]⟩) (.string ⟨#[]⟩) _ rfl
    clear hoz hbb hbz HB6 HR c0 c1 c2 c3 c4 c5 c6 c7;go_wp2
    refine Ak (v:=.tuple #[.agg #[.string ⟨#[]⟩,.string ⟨#[]⟩,.int .i64 0,.int .i64 0,.string ⟨#[]⟩,.string ⟨#[]⟩,.string ⟨#[]⟩,.string ⟨#[]⟩],.int .i64 3]) (by simp[results,results58,go_sem,f0,f1,f2,f3,f4,f5,f6,f7]) rfl ?_
    exact⟨by rw[<-HV.o.1,<-HV.o.2];rfl,HB.o⟩
   |true=>
    rw[hra] at HR;rw[hra,Ah rfl,Ah rfl,HT.o] at HV;simp only[HT.o,xB1] at HR;clear hra HT;go_wp2_with fail
    clear c0 c1 c2 c3 c4 c5 c6 c7;refine cM (HR.o _) λwz hbz=>?_;have hoz:=xC HB6.o.o hbz (xH HB6.o.o);have haz:=xC HB6.o.a hbz (xH HB6.o.a);have hbb:=bT HB6.o.bel hbz;obtain⟨c0,c1,c2,c3,c4,c5,c6,c7⟩:=xYs haz
    obtain⟨o0,y0,f0,o1,y1,f1,o2,y2,f2,o3,y3,f3,o4,y4,f4,o5,y5,f5,o6,y6,f6,o7,y7,f7,HB⟩:=xZd hoz hbb ω (.string p0) (.string p1) (.int .i64 e2) (.int .i64 e3) (.string p4) (.string p5) (.string p6) (.string r7) _ rfl;clear hoz haz hbb hbz HB6 HR;go_wp2
    refine Ak (v:=.tuple #[.agg #[.string p0,.string p1,.int .i64 e2,.int .i64 e3,.string p4,.string p5,.string p6,.string r7],.int .i64 0]) (by simp[results,results58,go_sem,f0,f1,f2,f3,f4,f5,f6,f7]) rfl ?_;exact⟨by rw[<-HV.o.1,<-HV.o.2],HB.o⟩
end Go.Proofs.SH
namespace Mailsack
theorem xM3 (l:Bs) (c:UInt8):numOf (l++[c])=10*numOf l+(c.toNat-48):=by unfold numOf;rw[Gc];rfl
theorem xUv:∀(n:Nat) (l:Bs),l.length=n->(∀c∈l,xJx c=true)->numOf l<10^n
 |0,l,h,_=>by
  have:l=[]:=Cs h;subst this;simp[numOf]
 |n+1,l,h,hd=>by
  obtain⟨m,c,rfl⟩:∃m c,l=m++[c]:=⟨l.dropLast,l.getLast (by intro e;rw[e] at h;simp at h),(List.dropLast_concat_getLast _).symm⟩;have ih:=xUv n m (by simpa using h) λx hx=>hd x (List.mem_append_left _ hx);have hc:=hd c (List.mem_append_right _ (Bu.2 rfl))
  unfold xJx at hc;simp at hc;rw[xM3,Fs];omega
end Mailsack
namespace Go.Proofs.VA
open Go.RowKit Mailsack MM BB SH SV RK DS Go.Proofs.ST
theorem qW (k u:ByteArray) (w:World) (hk:k.size<=100) (hu:u.size<=1000000):Calls prog 20 #[.string k,.string u] w λe w'=>e=.returned (xR (vD k.data.toList u.data.toList))/\w'=w:=by
 have HE:Hid (xR (vD k.data.toList u.data.toList)=.string (k++⟨#[47]⟩++u)):=ι (by
  show Value.string _=Value.string _
  congr 1)
 have n1:¬(9223372036854775807<k.size+1):=ω;have n2:¬(9223372036854775807<(k++⟨#[47]⟩).size+u.size):=by rw[Aw];show ¬(_<k.size+1+u.size);omega
 clear hk hu;go_enter func20,ntmps20;go_wp2;go_ret;exact⟨by rw[HE.o];rfl,rfl⟩
def yJ5 (s:Bs) (w:World) (e:Ending) (w':World):Prop:=∃z,e=.returned (.tuple #[.int .i64 z,.bool (rO s)])/\(rO s=true->z=(numOf s:Int))/\w'=w
theorem yBi (s:Bs) (w:World) (hl:s.length<=1000000):Calls prog 56 #[xR s] w (yJ5 s w):=by
 have HP:Hid (rO s=(decide (1<=s.length)&&decide (s.length<=10)&&(s.getD 0 0 !=48)&&s.all xJx&&decide (numOf s<=4294967295))):=ι rfl
 have HQ:Hid (∀z b,rO s=b->(b=true->z=(numOf s:Int))->yJ5 s w (.returned (.tuple #[.int .i64 z,.bool b])) w):=ι (λz b h1 h2=>⟨z,by rw[h1],λh=>h2 (by rw[<-h1];exact h),rfl⟩)
 by_cases h0:s=[]
 ·subst h0;have HF:Hid (rO []=false):=ι rfl;go_enter func56,ntmps56;go_wp2;go_ret2;exact HQ.o 0 false HF.o (λh=>(by cases h))
 ·have hl0:1<=s.length:=by
   rcases s with _|⟨x,s⟩
   ·exact absurd rfl h0
   ·simp
  have e0:(s==[])=false:=by simpa using h0
  by_cases h10:10<s.length
  ·have i10:10<(s.length:Int):=ω;have HF:Hid (rO s=false):=ι (by rw[HP.o];simp;omega);clear h10;go_enter func56,ntmps56;go_wp2;go_ret2;exact HQ.o 0 false HF.o (λh=>(by cases h))
  ·have i10:¬(10<(s.length:Int)):=ω;have ix0:=λw=>zN (P:=prog) underlying9 ⟨s.toArray⟩ (0:Int) 0 rfl (by show 0<s.toArray.size;simp;omega) w;rw[xWg] at ix0;rw[show(⟨s.toArray⟩:ByteArray).data.toList=s from rfl] at ix0;have HB0:Hid (bN s 0=(s.getD 0 0).toNat):=ι rfl
   generalize bN s 0=b0 at ix0 HB0
   by_cases hz:b0=48
   ·have HF:Hid (rO s=false):=ι (by
     have e:s.getD 0 0=48:=by apply UInt8.toNat_inj.1;rw[<-HB0.o,hz];rfl
     rw[HP.o,e];simp)
    have z1:(b0:Int)=48:=ω;have z2:((b0:Int)==48)=true:=by simpa using z1
    clear hz;go_enter func56,ntmps56;go_wp2;go_ret2;exact HQ.o 0 false HF.o (λh=>(by cases h))
   ·have z1:¬((b0:Int)=48):=ω;have z2:((b0:Int)==48)=false:=by simpa using z1
    have HZ:Hid ((s.getD 0 0 !=48)=true):=ι (by
     simp only[bne_iff_ne,ne_eq];intro e;apply hz;rw[HB0.o,e];rfl)
    have HL:Hid (1<=s.length/\s.length<=10):=ι ⟨hl0,ω⟩;clear hz;go_enter func56,ntmps56;go_wp2_with fail
    clear ix0 z1 z2
    go_loopw [4,20] (λnv iv wr=>∃k:Nat,k<=s.length/\iv=.int .i64 k/\nv=.int .i64 (numOf (s.take k):Nat)/\wr=w/\Hid (∀c∈s.take k,xJx c=true)) (λ_ iv _=>s.length- (intOf iv).toNat)
    case atStart=>exact⟨0,Bc _,rfl,rfl,rfl,ι σ⟩
    case round=>
     obtain⟨k,hk,rfl,rfl,rfl,HD⟩:=hrel;have hnb:=xUv k (s.take k) (by rw[Ck];omega) HD.o;have hpw:10^k<=10^10:=Hg ω ω;have HN:Hid (numOf (s.take k)<10^10):=ι ω
     by_cases hlt:k<s.length
     ·obtain⟨x,hx⟩:∃x,s[k]?=some x:=⟨_,Af hlt⟩;have ixk:=λw=>zN (P:=prog) underlying9 ⟨s.toArray⟩ (k:Int) k rfl (by show k<s.toArray.size;simpa using hlt) w
      have hby:yU ⟨s.toArray⟩ k=(x.toNat:Int):=by
       unfold yU;show((s.getD k 0).toNat:Int)=_;rw[Aa,hx];rfl
      rw[hby] at ixk;have HTK:Hid (s.take (k+1)=s.take k++[x]):=ι (by rw[Cc,hx];rfl);have HXM:=ι (Bb hx);have hx256:=Ex x;have hnn:numOf (s.take k)<10000000000:=by have:=HN.o;omega
      have HSN:=ι (xM3 (s.take k) x);generalize numOf (s.take k)=m at hnn HSN
      by_cases hd:xJx x=true
      ·have hd2:=hd;unfold xJx at hd2;simp only[Au,Be] at hd2;obtain⟨d1,d2⟩:=hd2;have g1:¬((x.toNat:Int)<48):=ω;have g2:¬(57<(x.toNat:Int)):=ω;have g3:(0:Int)<=(x.toNat:Int)-48:=ω;have g4:(x.toNat:Int)-48<=9:=ω
       have HD2:Hid (∀c∈s.take (k+1),xJx c=true):=ι (by
        intro c hc;rw[HTK.o] at hc;rcases Em.1 hc with hc|hc
        ·exact HD.o c hc
        ·rw[Bu.1 hc];exact hd)
       have HNV:Hid ((numOf (s.take (k+1)):Int)=10*(m:Int)+((x.toNat:Int)-48)):=ι (by rw[HTK.o,HSN.o];omega);clear hx hby hd hnb hpw d1 d2 HD;go_wp2;exact⟨⟨k+1,ω,by go_num,by rw[HNV.o],trivial,HD2⟩,by simp[intOf];omega⟩
      ·have HF:Hid (rO s=false):=ι (by
        have:s.all xJx=false:=List.all_eq_false.2 ⟨x,HXM.o,hd⟩;rw[HP.o,this];simp)
       unfold xJx at hd;simp only[Au,Be] at hd
       by_cases d1:x.toNat<48
       ·have g1:(x.toNat:Int)<48:=ω;clear hx hby hd hnb hpw d1 HD;go_wp2;go_ret2;exact HQ.o 0 false HF.o (λh=>(by cases h))
       ·have g1:¬((x.toNat:Int)<48):=ω;have g2:57<(x.toNat:Int):=ω;clear hx hby hd hnb hpw d1 HD;go_wp2;go_ret2;exact HQ.o 0 false HF.o (λh=>(by cases h))
     ·obtain rfl:k=s.length:=ω;have HT:Hid (s.take s.length=s):=ι Cf;rw[HT.o];rw[HT.o] at HN HD;have HA:Hid (s.all xJx=true):=ι (Bv.2 HD.o);have hnn:numOf s<10000000000:=by have:=HN.o;omega
      have HPE:Hid (rO s=decide (numOf s<=4294967295)):=ι (by rw[HP.o,HZ.o,HA.o,Bq HL.o.1,Bq HL.o.2];simp);obtain⟨m,hm⟩:=eX (numOf s);have HM:=ι hm;rw[hm] at HPE hnn⊢;clear hnb hpw hm HN HT
      by_cases hg:m<=4294967295
      ·have gi:(m:Int)<=4294967295:=ω;rw[Bq hg] at HPE;clear hg;go_wp2;go_ret2;exact HQ.o _ true HPE.o (λ_=>by rw[HM.o])
      ·have gi:¬((m:Int)<=4294967295):=ω;rw[Cq hg] at HPE;clear hg;go_wp2;go_ret2;exact HQ.o _ false HPE.o (λh=>(by cases h))
end Go.Proofs.VA
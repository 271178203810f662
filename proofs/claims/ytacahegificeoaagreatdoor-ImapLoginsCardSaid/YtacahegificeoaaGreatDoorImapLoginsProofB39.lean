/- Contracts of functions. Conditions: as stated. -/
import Derived.Test.YtacahegificeoaaGreatDoorImapLoginsProofB38
set_option maxHeartbeats 8000000
set_option maxRecDepth 100000
namespace Mailsack
def xJi (u xI xE:ByteArray) (x:yD) (oth:List Ch):List Ch:=xRr u xI xE (bsA (xLa x))::oth
def xJj (d:Dk) (u xI xE:ByteArray) (x:yD) (oth:List Ch):Int:=if zI x=true then xB5 d (xJi u xI xE x oth) else 1
def keepD (d:Dk) (u xI xE:ByteArray) (x:yD) (oth:List Ch):Dk:=if zI x=true then xDd d (xJi u xI xE x oth) else⟨[],[]⟩
theorem yDm (x:yD):(xLa x).length<=100000:=by
 unfold xLa;split
 ·rename_i h
  obtain⟨h1,h2,h3,h4⟩:=xAn h;unfold yA2;have a:=kU (L:=x.boxes) yCn (c:=400) (λb hb=>xGv (h3 b hb)) x.boxes.length;have b:=kU (L:=x.subs) rW (c:=17) (λb hb=>by rw[tL];have:=h4 b hb;omega) x.subs.length;rw[List.take_length] at a b;simp only[List.length_append,uN];omega
 ·simp
end Mailsack
namespace Go.Proofs.VA
open Go.RowKit Mailsack MM BB SH SV RK DS IX Go.Proofs.ST Go.Proofs.SE
theorem xK3 (c:Ch):(chF c).length=3:=rfl
theorem yF8 (x:Ch):∀u∈chF x,u.oneCell'=true:=by
 intro u hu;simp only[chF,List.mem_cons,List.not_mem_nil,or_false] at hu;rcases hu with rfl|rfl|rfl<;>rfl
theorem infoCh:(Tryz.prog.info? 113).map (λi=>(i.zero,i.size,i.bytes))=some (some (.agg #[.string ⟨#[]⟩,.string ⟨#[]⟩,.bool false]),3,40):=by kernel_rfl
theorem tyCh:xYp Tryz.prog 105 113 3 40 chF:=by
 obtain⟨i,hi,hz,hs,hb⟩:=vM infoCh;exact⟨Tryz.underlying105,⟨i,_,hi,hz,hs,hb,rfl⟩,ω,ω,xK3,yF8⟩
theorem chLit (c:Ch) (w:World) {base:Nat} (hb:base<=w.heap.size):xV 113 3 chF (w.alloc (.cells #[xO c.name,xO c.data,.bool c.gone] 113)) base (.slice (some ⟨w.heap.size,0,none⟩) 1 1) [c]:=
 ⟨rfl,.inr ⟨w.heap.size,1,_,rfl,hb,xL _ _,Nat.le_refl _,by unfold maxLen;omega,rfl,rfl⟩⟩
structure KpM (w:World) (va vb:Value) (so:Obj) (bv sv:Value) (gv:Int) (W:World):Prop where
 d:W.heap[w.heap.size]?=some (xX va vb)
 s:W.heap[w.heap.size+1]?=some so
 x:W.heap[w.heap.size+2]?=some (ixO bv sv gv)
 o:W.heap[w.heap.size+3]?=some vB
 bel:Below w.heap.size w W
theorem KpM.below {w W W':World} {va vb:Value} {so:Obj} {bv sv:Value} {gv:Int} (h:KpM w va vb so bv sv gv W) (hb:Below W.heap.size W W'):KpM w va vb so bv sv gv W':=
 ⟨xB h.d hb (xG h.d),xB h.s hb (xG h.s),xB h.x hb (xG h.x),xB h.o hb (xG h.o),h.bel.trans (hb.mono h.bel.size)⟩
theorem yAv (w:World) (va vb:Value) (so:Obj) (bv sv:Value) (gv:Int):KpM w va vb so bv sv gv ((((w.alloc (xX va vb)).alloc so).alloc (ixO bv sv gv)).alloc vB):=by
 have hb:=((((Below.refl w.heap.size w).alloc ν (xX va vb)).alloc σ so).alloc (by simp;omega) (ixO bv sv gv)).alloc (by simp;omega) vB;have h1:=xL ((w.alloc (xX va vb)).alloc so) (ixO bv sv gv);have h2:=xL (((w.alloc (xX va vb)).alloc so).alloc (ixO bv sv gv)) vB
 simp only[World.size_alloc] at h1 h2;exact⟨xK (xK (zG _ _ _) _) _,xK (xK (yX _ _ _) _) _,xK h1 _,h2,hb⟩
structure KpJ (w w5:World) (D:Dk) (er:Int) (c:Ch) (oth:List Ch) (L:Nat->Bool) (α:Nat->Value) (W:World):Prop where
 bel:Below w.heap.size w W
 st:L 8=false->Below w5.heap.size w5 W
 s:L 2=true->∃g,α 2=.slice (some ⟨g,0,none⟩) 1 1/\(L 4=false->xV 113 3 chF W w5.heap.size (.slice (some ⟨g,0,none⟩) 1 1) [c])
 p:L 4=true->∃v,α 4=v/\(L 5=false->RdR 3 chF W W.heap.size v (c::oth))
 q:L 5=true->∃va vb,α 5=.tuple #[.agg #[va,vb],.int .i64 er]/\RdD W W.heap.size va vb D/\(L 6=true->α 6=.agg #[va,vb])/\(L 8=true->W.heap[w.heap.size+3]?=some (xX va vb))
theorem KpJ.congr {w w5:World} {D:Dk} {er:Int} {c:Ch} {oth:List Ch} {L L':Nat->Bool} {α α':Nat->Value} {W:World} (h:KpJ w w5 D er c oth L α W) (hl:∀i,i=8∨i=2∨i=4∨i=5∨i=6->L i=L' i) (ha:∀i,i=2∨i=4∨i=5∨i=6->L i=true->α i=α' i):KpJ w w5 D er c oth L' α' W:=by
 have l2:=hl 2 σ;have l4:=hl 4 σ;have l5:=hl 5 σ;have l6:=hl 6 σ;have l8:=hl 8 σ;refine⟨h.bel,λe=>h.st (l8.trans e),λe=>?_,λe=>?_,λe=>?_⟩
 ·rw[<-ha 2 σ (l2.trans e),<-l4];exact h.s (l2.trans e)
 ·rw[<-ha 4 σ (l4.trans e),<-l5];exact h.p (l4.trans e)
 ·obtain⟨va,vb,h1,h2,h3,h4⟩:=h.q (l5.trans e);exact⟨va,vb,by rw[<-ha 5 σ (l5.trans e)];exact h1,h2,λe6=>by rw[<-ha 6 σ (l6.trans e6)];exact h3 (l6.trans e6),λe8=>h4 (l8.trans e8)⟩
theorem yAw (va vb:Value) (d:Dk) (u xI old xE:ByteArray) (ep gv:Int) (A3 A4:Option Addr) (n3 k3 n4 k4:Nat) (bv sv lv:Value) (x:yD) (oth:List Ch) (w:World) (h:RdD w w.heap.size va vb d) (hx:xHk w w.heap.size bv sv x) (hl:RdR 3 chF w w.heap.size lv oth)
  (hxl:x.boxes.length<=100000) (hxm:∀b∈x.boxes,b.yB.length<=100000) (hxs:x.subs.length<=100000) (ho:oth.length<=400) (hc:d.cache.length<=10000) (hu:u.size<=1000) (hp:xI.size<=1000000) (hn:xE.size=12) (hT:wL w):
  Calls Tryz.prog 43 #[.agg #[va,vb],xTv u xI old ep (.slice A3 n3 k3) (.slice A4 n4 k4) gv,.agg #[bv,sv,.int .i64 x.given],.string xE,lv] w λe w'=>∃va' vb',e=.returned (.tuple #[.agg #[va',vb'],.int .i64 (xJj d u xI xE x oth)])/\RdD w' w'.heap.size va' vb' (keepD d u xI xE x oth)/\Below w.heap.size w w':=by
 obtain⟨A1,c1,A2,c2,rfl,rfl⟩:=yE h;obtain⟨Ab,cb,rfl,hcb,_⟩:=hx.boxes;obtain⟨As,cs,rfl,hcs,_⟩:=hx.subs;obtain⟨Al,cl,rfl,hcl,_⟩:=id hl
 have H0:=ι (yAv w (.slice A1 d.secs.length c1) (.slice A2 d.cache.length c2) (vO u xI old ep (.slice A3 n3 k3) (.slice A4 n4 k4) gv) (.slice Ab x.boxes.length cb) (.slice As x.subs.length cs) x.given)
 have HPU:=ι (λW (hb:Below w.heap.size w W)=>xG1 _ _ x W ((hx.below hb ν).more hb.size) (λb hb=>by have:=hxm b hb;omega) ω ω);rw[show xO (xLa x)=.string (bsA (xLa x)) from rfl] at HPU;have hbz:(bsA (xLa x)).size<=1000000:=by rw[yS];have:=yDm x;omega
 have HSE:=ι (λW (hb:Below w.heap.size w W)=>xRp u xI xE (bsA (xLa x)) W hu hp hn hbz (hT.below hb ν))
 have HAP:=ι (λW v (hb:Below w.heap.size w W) (hv:RdR 3 chF W W.heap.size v (xJi u xI xE x oth))=>xYg (.slice A1 d.secs.length c1) (.slice A2 d.cache.length c2) v d (xJi u xI xE x oth) W ((h.below hb ν).more hb.size) hv (by show oth.length+1<=500;omega) hc (hT.below hb ν))
 have HL:Hid (xJi u xI xE x oth=xRr u xI xE (bsA (xLa x))::oth):=ι rfl;have HOT:=ι hl;have HE:Hid (xJj d u xI xE x oth=if zI x=true then xB5 d (xJi u xI xE x oth) else 1):=ι rfl;have HD:Hid (keepD d u xI xE x oth=if zI x=true then xDd d (xJi u xI xE x oth) else⟨[],[]⟩):=ι rfl
 have HPE:Hid (yC8 x=if zI x=true then 0 else 1):=ι rfl;generalize xJj d u xI xE x oth=ke at HE⊢;generalize keepD d u xI xE x oth=kd at HD⊢;generalize hkl:xJi u xI xE x oth=kl at HAP HL HE HD;clear hkl;generalize xB5 d kl=ae at HAP HE;generalize xDd d kl=pd at HAP HD
 generalize xRr u xI xE (bsA (xLa x))=cs' at HSE HL;obtain⟨cn,cd,cg⟩:=cs';simp only[chV] at HSE;generalize bsA (xLa x)=pn at HSE HPU hbz;generalize yC8 x=pe at HPU HPE;clear h hx hl hxl hxm hxs hc hu hp hn hT hbz;go_enter Tryz.func43,Tryz.ntmps43;go_upto_region 1 with fail
 obtain⟨w1,hw1⟩:∃w1,(((w.alloc (xX (.slice A1 d.secs.length c1) (.slice A2 d.cache.length c2))).alloc (vO u xI old ep (.slice A3 n3 k3) (.slice A4 n4 k4) gv)).alloc (ixO (.slice Ab x.boxes.length cb) (.slice As x.subs.length cs) x.given)).alloc vB=w1:=⟨_,rfl⟩;rw[hw1] at H0
 simp only[vO,xX,ixO,vB] at hw1;rw[hw1];clear hw1;have hb:=H0.o.x;obtain⟨e0,e1,e2⟩:=xH1 hb;clear hb;go_wp2_with fail
 refine(HPU.o _ H0.o.bel).mono ?_;rintro e w2 ⟨rfl,hb2⟩;have H2:=ι (H0.o.below hb2);clear H0 HPU hb2 e0 e1 e2;cases hir:zI x with
 |false=>
  rw[hir,if_neg σ] at HE HD HPE;rw[HPE.o];have hob:=H2.o.o;have hbb:=H2.o.bel;simp only[vB] at hob;obtain⟨o0,y0,f0,o1,y1,f1,HB⟩:=xMe hob hbb ω (.slice none 0 0) (.slice none 0 0) _ rfl;clear hob hbb H2 HAP HSE hir;go_wp2
  refine bodyPost_ret (v:=.tuple #[.agg #[.slice none 0 0,.slice none 0 0],.int .i64 1]) (by simp[results,Tryz.results43,go_sem,f0,f1]) rfl ?_
  exact⟨_,_,by rw[HE.o],by rw[HD.o];exact⟨⟨none,0,rfl,Nat.le_refl _,λh=>absurd h δ⟩,⟨none,0,rfl,Nat.le_refl _,λh=>absurd h δ⟩,Nat.zero_le _,Nat.zero_le _⟩,HB.o⟩
 |true=>
  rw[hir,if_pos rfl] at HE HD HPE;rw[HPE.o];clear hir HPE;have hb:=H2.o.s;simp only[vO] at hb;obtain⟨e0,e1⟩:=zQ hb;clear hb;go_wp2_with fail
  refine(HSE.o _ H2.o.bel).mono ?_;rintro e w3 ⟨rfl,hb3⟩;have H3:=ι (H2.o.below hb3);clear H2 HSE hb3 e0 e1;go_upto_region 7 with fail
  have H5:=ι (And.intro (H3.o.below ((Below.refl w3.heap.size w3).alloc ν (.cells #[xO cn,xO cd,.bool cg] 113))) (xL w3 (.cells #[xO cn,xO cd,.bool cg] 113)));clear H3;obtain⟨w5,hw5⟩:∃w5,w3.alloc (.cells #[xO cn,xO cd,.bool cg] 113)=w5:=⟨_,rfl⟩;rw[hw5] at H5;simp only[xO] at hw5
  rw[hw5];clear hw5;generalize w3.heap.size=mb at H5⊢
  refine RG.uB [8] [2,4,5,6] (λL α W=>Hid (KpJ w w5 pd ae ⟨cn,cd,cg⟩ oth L α W)) (λL L' α α' W hl ha h=>ι (h.o.congr (λi hi=>hl i (by simp;omega)) (λi hi=>ha i (by simp;omega)))) κ κ κ (ι ⟨H5.o.1.bel.drew,λ_=>(Below.refl _ _).drew,λe=>(by cases e),λe=>(by cases e),λe=>(by cases e)⟩) ?_
  apply RG.uA
  ·rfl
  ·rfl
  ·intro α L w9 h0 hcl xN hw9;have hx:=xB H5.o.1.d (hw9.o.st (hcl.not 10 (i:=8) h0 κ)) (xG H5.o.1.d);simp only[xX] at hx;obtain⟨s0,s1⟩:=zQ hx;clear hx;repeat go_step
   with_reducible exact RG.xD hw9
  ·intro α;rfl
  apply RG.uA
  ·rfl
  ·rfl
  ·intro α L w9 h0 hcl xN hw9;have hx:=xB H5.o.2 (hw9.o.st (hcl.not 10 (i:=8) h0 κ)) (xG H5.o.2);have s0:=xA hx 0;have s1:=xA hx 1;have s2:=xA hx 2;simp only[gA,gB,gC,xO] at s0 s1 s2;clear hx;repeat go_step
   with_reducible exact RG.xD hw9
  ·intro α;rfl
  apply RG.jC
  ·rfl
  ·intro α L w9 h0 hcl xN hw9;have e4:L 4=false:=hcl.not 10 (i:=4) h0 κ;have e5:L 5=false:=hcl.not 10 (i:=5) h0 κ;have e8:L 8=false:=hcl.not 10 (i:=8) h0 κ;have hb5:=hw9.o.st e8;have HAL:=ι ((Below.refl w9.heap.size w9).alloc ν (.cells #[xO cn,xO cd,.bool cg] 113))
   refine⟨.slice (some ⟨w9.heap.size,0,none⟩) 1 1,λbv hbv=>?_⟩;repeat go_step
   rw[<-hbv];with_reducible refine RG.xD ?_
   refine ι ⟨hw9.o.bel.trans (HAL.o.mono hw9.o.bel.size),λ_=>hb5.trans (HAL.o.mono hb5.size),λ_=>⟨w9.heap.size,(RG.zF _ _ _).trans hbv,λ_=>chLit ⟨cn,cd,cg⟩ w9 hb5.size⟩,λe=>absurd (show L 4=true by simpa using e) (by rw[e4];simp),λe=>absurd (show L 5=true by simpa using e) (by rw[e5];simp)⟩
  ·intro b α;rfl
  refine RG.vS ?_;apply RG.qL
  ·rfl
  ·intro α L w9 h0 hcl xN hw9
   have f2:L 2=true:=by
    have:=xN.yes 10 (i:=4) (j:=2) σ κ;simpa using this
   have e5:L 5=false:=hcl.not 10 (i:=5) h0 κ;have e8:L 8=false:=hcl.not 10 (i:=8) h0 κ;have hb5:=hw9.o.st e8;obtain⟨gs,n1,n2⟩:=hw9.o.s f2;have HO:=ι (n2 h0);have N1:=ι n1;clear n1 n2;have HRS:=ι (HOT.o.below (H5.o.1.bel.trans (hb5.mono H5.o.1.bel.size)) ν)
   refine zY tyCh rfl _ _ rfl N1.o rfl HO.o HRS.o (by simp;omega) hb5.size ?_;intro v' w10 h8;refine⟨rfl,_,rfl,?_⟩
   exact ι ⟨h8.bel HO.o H5.o.1.bel.size hw9.o.bel hw9.o.bel.size,λ_=>h8.bel HO.o ν hb5 hb5.size,λ_=>⟨gs,N1.o,λe=>by simp at e⟩,λ_=>⟨v',RG.zF _ _ _,λ_=>h8.own.rd xK3⟩,λe=>absurd (show L 5=true by simpa using e) (by rw[e5];simp)⟩
  ·intro b α;rfl
  apply RG.qL
  ·rfl
  ·intro α L w9 h0 hcl xN hw9
   have f4:L 4=true:=by
    have:=xN.yes 10 (i:=5) (j:=4) σ κ;simpa using this
   have e6:L 6=false:=hcl.not 10 (i:=6) h0 κ;have e8:L 8=false:=hcl.not 10 (i:=8) h0 κ;have hb5:=hw9.o.st e8;obtain⟨v,q1,q2⟩:=hw9.o.p f4;have Q1:=ι q1;have Q2:=ι (q2 h0);rw[HL.o.symm] at Q2;clear q2;rw[show α (0+1+1+1+1)=_ from q1];clear q1;repeat go_step
   refine(HAP.o w9 v hw9.o.bel Q2.o).mono ?_;rintro e w10 ⟨va',vb',rfl,hr,hb⟩;have HR:=ι hr;clear hr;simp only[];repeat go_step
   refine⟨rfl,_,rfl,?_⟩
   refine ι ⟨hw9.o.bel.trans (hb.mono hw9.o.bel.size),λ_=>hb5.trans (hb.mono hb5.size),λe=>?_,λe=>⟨v,(RG.vP _ _ _ δ).trans Q1.o,λe=>by simp at e⟩,λ_=>⟨va',vb',RG.zF _ _ _,HR.o,λe=>absurd (show L 6=true by simpa using e) (by rw[e6];simp),λe=>absurd (show L 8=true by simpa using e) (by rw[e8];simp)⟩⟩
   obtain⟨g,n1,n2⟩:=hw9.o.s (by simpa using e);exact⟨g,n1,λe=>absurd (show L 4=false by simpa using e) (by rw[f4];simp)⟩
  ·intro b α;rfl
  apply RG.qL
  ·rfl
  ·intro α L w9 h0 hcl xN hw9
   have f5:L 5=true:=by
    have:=xN.yes 10 (i:=6) (j:=5) σ κ;simpa using this
   have e8:L 8=false:=hcl.not 10 (i:=8) h0 κ;obtain⟨va',vb',q1,q2,_,_⟩:=hw9.o.q f5;have Q1:=ι q1;rw[show α (0+1+1+1+1+1)=_ from q1];clear q1;repeat go_step
   refine⟨rfl,_,rfl,?_⟩;exact ι ⟨hw9.o.bel,λ_=>hw9.o.st e8,λe=>hw9.o.s (by simpa using e),λe=>hw9.o.p (by simpa using e),λ_=>⟨va',vb',Q1.o,q2,λ_=>RG.zF _ _ _,λe=>absurd (show L 8=true by simpa using e) (by rw[e8];simp)⟩⟩
  ·intro b α;rfl
  apply RG.uA (v:=.int .i64 ae)
  ·rfl
  ·rfl
  ·intro α L w9 h0 hcl xN hw9
   have f5:L 5=true:=by
    have:=xN.yes 10 (i:=7) (j:=5) σ κ;simpa using this
   obtain⟨va',vb',q1,q2,_,_⟩:=hw9.o.q f5;have Q1:=ι q1;rw[show α (0+1+1+1+1+1)=_ from Q1.o];clear q1 q2;repeat go_step
   rw[<-show α (0+1+1+1+1+1)=_ from Q1.o];with_reducible exact RG.xD hw9
  ·intro α;rfl
  apply RG.rU (v:=undef)
  ·rfl
  ·rfl
  ·intro α L w9 h0 hcl xN hw9
   have f5:L 5=true:=by
    have:=xN.yes 10 (i:=8) (j:=5) σ κ;simpa using this
   have f6:L 6=true:=by
    have:=xN.yes 10 (i:=8) (j:=6) σ κ;simpa using this
   have f4:L 4=true:=by
    have:=xN.yes 10 (i:=8) (j:=4) σ κ;simpa using this
   obtain⟨va',vb',q1,q2,q3,_⟩:=hw9.o.q f5;obtain⟨A5,k5,A6,k6,rfl,rfl⟩:=yE q2;have hx:=xB H5.o.1.o (hw9.o.st h0) (xG H5.o.1.o);have HS:=ι (xXv hx q2);have Q1:=ι q1;have Q6:=ι (q3 f6)
   have hx2:=yU (b:=w.heap.size+3) (l:=[.slice A5 pd.secs.length k5,.slice A6 pd.cache.length k6]) hx rfl;simp only[xU,Nat.reduceAdd] at hx2;have HX:=ι hx2;have hbb:=hw9.o.bel;simp only[vB] at hx
   obtain⟨o0,y0,f0,o1,y1,f1,HB⟩:=xMe hx hbb ω (.slice A5 pd.secs.length k5) (.slice A6 pd.cache.length k6) _ rfl;rw[show α (0+1+1+1+1+1+1)=_ from Q6.o];clear hx hx2 hbb q1 q2 q3;repeat go_step
   rw[<-show α (0+1+1+1+1+1+1)=_ from Q6.o];with_reducible refine RG.xD ?_
   refine ι ⟨HB.o,λe=>by simp at e,λe=>?_,λe=>?_,λ_=>⟨_,_,Q1.o,HS.o,λ_=>Q6.o,λ_=>HX.o⟩⟩
   ·obtain⟨g,n1,n2⟩:=hw9.o.s (by simpa using e);exact⟨g,n1,λe=>absurd (show L 4=false by simpa using e) (by rw[f4];simp)⟩
   ·obtain⟨v,n1,n2⟩:=hw9.o.p (by simpa using e);exact⟨v,n1,λe=>absurd (show L 5=false by simpa using e) (by rw[f5];simp)⟩
  ·intro α;rfl
  refine RG.vS ?_;refine RG.pE (λα w6 hw6=>?_);obtain⟨va',vb',q1,q2,q6,q8⟩:=hw6.o.q rfl;obtain⟨A5,k5,A6,k6,rfl,rfl⟩:=yE q2;have H6:=ι (And.intro q2 hw6.o.bel);have hx:=q8 rfl;simp only[xX] at hx;obtain⟨f0,f1⟩:=zQ hx;simp only[Nat.zero_add,Nat.reduceAdd];clear hw6 q1 q2 q6 q8 hx
  go_wp2;refine bodyPost_ret (v:=.tuple #[.agg #[.slice A5 pd.secs.length k5,.slice A6 pd.cache.length k6],.int .i64 ae]) (by simp[results,Tryz.results43,go_sem,f0,f1]) rfl ?_;exact⟨_,_,by rw[HE.o],by rw[HD.o];exact H6.o.1,H6.o.2⟩
end Go.Proofs.VA
namespace Mailsack
def inB:Bs:=[73,78,66,79,88]
def mgA (T:Int->Int) (x:yD) (n:Int):yD:=xK7 x inB n (T n) 32
def mgI (T:Int->Int) (l:List Int) (x:yD):yD:=l.foldl (mgA T) x
def mgN (T:Int->Int):Nat->List Int->yD->Nat
 |0,_,_=>0
 |_+1,[],_=>0
 |b+1,n::l,x=>if xMm x inB n (T n) 32=0 then mgN T b l (mgA T x n)+1 else 0
theorem yAj {T:Int->Int} {l:List Int} {k:Nat} {n:Int} (h:l[k]?=some n) (x:yD):mgI T (l.take (k+1)) x=mgA T (mgI T (l.take k) x) n:=by
 unfold mgI;rw[List.take_add_one,h,List.foldl_append]
 rfl
theorem yAi {T:Int->Int} {l:List Int} {k:Nat} {n:Int} (h:l[k]?=some n) (hk:k<10) (x:yD):mgN T (10-k) (l.drop k) x=if xMm x inB n (T n) 32=0 then mgN T (10- (k+1)) (l.drop (k+1)) (mgA T x n)+1 else 0:=by
 obtain⟨hl,rfl⟩:=List.getElem?_eq_some_iff.1 h;rw[List.drop_eq_getElem_cons hl,show 10-k=(10- (k+1))+1 by omega,mgN]
theorem yE1 {T:Int->Int} {l:List Int} {k:Nat} (h:l.length<=k) (x:yD):mgN T (10-k) (l.drop k) x=0:=by
 rw[List.drop_of_length_le h];cases 10-k<;>rfl
def xHn (x:yD):Prop:=x.boxes.length<=100000/\(∀b∈x.boxes,b.yB.length<=100000)/\x.subs.length<=100000
theorem xHn.right {x:yD} (h:zI x=true):xHn x:=by
 obtain⟨h1,h2,h3,h4⟩:=xAn h;exact⟨ω,λb hb=>by have:=(h3 b hb).2;omega,ω⟩
theorem xYh {x:yD} {n:Bs} {ob sz fl:Int} (h:xMm x n ob sz fl=0):zI x=true:=by
 cases hr:zI x with
 |true=>rfl
 |false=>
  unfold xMm at h;rw[hr] at h;simp at h
theorem xHn.app {x:yD} {n:Bs} {ob sz fl:Int} (h:xMm x n ob sz fl=0):xHn (xK7 x n ob sz fl)/\(xK7 x n ob sz fl).subs=x.subs:=by
 have hr:=xYh h;obtain⟨h1,h2,h3,h4⟩:=xAn hr;unfold xK7;rw[if_pos h];refine⟨⟨by rw[List.length_set];omega,λb hb=>?_,by show x.subs.length<=_;omega⟩,rfl⟩;rcases List.mem_or_eq_of_mem_set hb with hb|rfl
 ·have:=(h3 b hb).2;omega
 ·show((xTe x n).yB++[_]).length<=_;rw[List.length_append]
  have:(xTe x n).yB.length<=30:=by
   unfold xTe;rw[List.getD_eq_getElem?_getD];cases e:x.boxes[(xD5 x n).toNat]? with
   |none=>simp
   |some b=>exact(h3 b (List.mem_of_getElem? e)).2
  simp;omega
theorem xW1 {hd n:Bs} {z:Int} (h:z∈numberOf hd n):0<=z/\z<=4294967295:=by
 unfold numberOf at h;split at h
 ·split at h
  ·rename_i h2
   unfold kT at h2;simp only[Bool.and_eq_true,decide_eq_true_eq] at h2;simp only[List.mem_cons,List.not_mem_nil,or_false] at h;subst h;have:=h2.2;omega
  ·cases h
 ·cases h
theorem xSg {d:Dk} {k u:Bs} {z:Int} (h:z∈qM d k u):0<=z/\z<=4294967295:=by
 unfold qM xEu at h;rw[List.mem_mergeSort] at h;obtain⟨n,_,hn⟩:=List.mem_flatMap.1 h;exact xW1 hn
def mgT (d:Dk) (u xI old:ByteArray) (ep:Int) (n:Int):Int:=((xTy d u xI old ep n).size:Int)
def mgL (d:Dk) (u xI old:ByteArray) (ep:Int) (x:yD):List Int:=(qM d [113] u.data.toList).take (mgN (mgT d u xI old ep) 10 (qM d [113] u.data.toList) x)
def mgG (u:ByteArray) (l:List Int):List Ch:=l.map λn=>⟨xSh [113] u.data.toList n,[],true⟩
def mgX (d:Dk) (u xI old:ByteArray) (ep:Int) (x:yD):yD:=mgI (mgT d u xI old ep) (mgL d u xI old ep x) x
def xO1 (d:Dk) (u xI old:ByteArray) (ep:Int) (x:yD) (xE:ByteArray):Bool:=decide (mgL d u xI old ep x≠[])&&decide (xJj d u xI xE (mgX d u xI old ep x) (mgG u (mgL d u xI old ep x))=0)
def xYz (d:Dk) (u xI old:ByteArray) (ep:Int) (x:yD) (xE:ByteArray):yD:=if xO1 d u xI old ep x xE=true then mgX d u xI old ep x else x
def xO0 (d:Dk) (u xI old:ByteArray) (ep:Int) (x:yD) (xE:ByteArray):Dk:=if xO1 d u xI old ep x xE=true then keepD d u xI xE (mgX d u xI old ep x) (mgG u (mgL d u xI old ep x)) else d
theorem yAk {u:ByteArray} {l:List Int} {k:Nat} {n:Int} (h:l[k]?=some n):mgG u (l.take (k+1))=mgG u (l.take k)++[⟨xSh [113] u.data.toList n,[],true⟩]:=by
 unfold mgG;rw[List.take_add_one,h,List.map_append]
 rfl
theorem xG0:∀(l:List Op) {d:Dk},yZ d=true->yZ (vR d l)=true
 |[],_,h=>h
 |o::l,d,h=>by
  show yZ (vR (kC d o) l)=true;refine xG0 l ?_;unfold kC;split
  ·exact rY h
  ·split
   ·rename_i h2
    simp only[Bool.and_eq_true] at h2;exact xRv h h2.2
   ·exact h
theorem xNi {d:Dk} {l:List Ch} (h:xB5 d l=0):yZ (xDd d l)=true:=by
 have hw:wN d l=0:=by
  unfold xB5 at h;split at h
  ·assumption
  ·exact absurd h (by assumption)
 have hc:yZ d=true:=by
  cases hc:vY d with
  |true=>
   unfold vY at hc;simp only[Bool.and_eq_true] at hc;exact hc.2
  |false=>unfold wN at hw;rw[hc] at hw;simp at hw
 unfold xDd;unfold xB5 at h;rw[if_pos hw] at h⊢;split
 ·exact rY hc
 ·rename_i h0
  rw[if_neg h0] at h;unfold xB2;rw[if_pos h];exact xG0 _ hc
theorem xLu {d:Dk} {u xI xE:ByteArray} {x:yD} {oth:List Ch} (h:xJj d u xI xE x oth=0):∀s∈(keepD d u xI xE x oth).secs,s≠[]:=by
 unfold xJj at h;unfold keepD;split at h
 ·rename_i hr
  rw[if_pos hr];intro s hs e;have:=(xCs.1 (xNi h)).2.2.1 s hs;rw[e] at this;cases this
 ·cases h
theorem yE0 {d:Dk} {u xI old xE:ByteArray} {ep:Int} {x:yD} (h:xO1 d u xI old ep x xE=true):∀s∈(xO0 d u xI old ep x xE).secs,s≠[]:=by
 unfold xO0;rw[if_pos h];unfold xO1 at h;simp only[Bool.and_eq_true,decide_eq_true_eq] at h;exact xLu h.2
end Mailsack
namespace Go.Proofs.VA
open Go.RowKit Mailsack MM BB SH SV RK DS IX Go.Proofs.ST Go.Proofs.SE
theorem wP {g:Nat}:∀(l:List Value) (i:Nat) (W:World) (b o:Nat),(xU g i l W).cell? ⟨b,o,none⟩=W.cell? ⟨b,o,none⟩∨b=g/\i<=o/\o<i+l.length
 |[],_,_,_,_=>.inl rfl
 |a::l,i,W,b,o=>by
  unfold xU;rcases wP l (i+1) (W.setCell ⟨g,i,none⟩ a) b o with h|⟨h1,h2,h3⟩
  ·by_cases e:b=g/\o=i
   ·exact .inr ⟨e.1,ω,by simp;omega⟩
   ·exact .inl (h.trans (World.cell?_setCell_other _ _ _ _ (by
     intro q;injection q with q1 q2;exact e ⟨by first|exact q1|exact q1.symm,by first|exact q2|exact q2.symm⟩)))
  ·exact .inr ⟨h1,ω,by simp;omega⟩
def yFi (W W':World) (g:Nat):Prop:=∀b o,W'.cell? ⟨b,o,none⟩=W.cell? ⟨b,o,none⟩∨b=g/\∀l:Bs,l≠[]->W.cell? ⟨b,o,none⟩≠some (xO l)
theorem xZy {W W':World} {B g:Nat} {v:Value} {xs:List Bs} (h:RdS W B v xs) (hs:∀s∈xs,s≠[]) (hk:yFi W W' g):RdS W' B v xs:=by
 obtain⟨A,c,h1,h2,h3⟩:=h;refine⟨A,c,h1,h2,λhn=>?_⟩;obtain⟨b,off,h4,h5,h6⟩:=h3 hn;refine⟨b,off,h4,h5,λj x hx=>?_⟩;rcases hk b (off+j) with e|⟨_,e⟩
 ·exact e.trans (h6 j x hx)
 ·exact absurd (h6 j x hx) (e x (hs x (List.mem_of_getElem? hx)))
def NoWr (W:World) (g:Nat):Prop:=∀(o:Nat) a l,W.cell? ⟨g,o,none⟩=some (.int .i64 a)->W.cell? ⟨g,o+1,none⟩=some (xO l)->False
theorem xA2 {W W':World} {B g:Nat} {va vb:Value} {D:Dk} (h:RdD W B va vb D) (hs:∀s∈D.secs,s≠[]) (hk:yFi W W' g) (hr:NoWr W g):RdD W' B va vb D:=by
 refine⟨xZy h.s hs hk,?_,h.ls,h.lc⟩;obtain⟨A,c,h1,h2,h3⟩:=h.c;refine⟨A,c,h1,h2,λhn=>?_⟩;obtain⟨b,off,h4,h5,h6⟩:=h3 hn;refine⟨b,off,h4,h5,λj m hm=>?_⟩;obtain⟨k1,k2⟩:=h6 j m hm
 have hne:b≠g:=by
  rintro rfl;exact hr _ _ _ k1 k2
 have hq:∀o,W'.cell? ⟨b,o,none⟩=W.cell? ⟨b,o,none⟩:=λo=>(hk b o).resolve_right λe=>hne e.1;exact⟨(hq _).trans k1,(hq _).trans k2⟩
theorem xTm (bv sv:Value) (x:yD) (n:Bs) (ob sz fl:Int) (w:World) (h:uT 0 w bv sv x) (hl:xHn x):
  Calls Tryz.prog 41 #[.agg #[bv,sv,.int .i64 x.given],xO n,.int .i64 ob,.int .i64 sz,.int .i64 fl] w λe w'=>∃bv' sv',e=.returned (.tuple #[.agg #[bv',sv',.int .i64 (xK7 x n ob sz fl).given],.int .i64 (xZ4 x n ob sz fl),.int .i64 (xMm x n ob sz fl)])/\uT 0 w' bv' sv' (xK7 x n ob sz fl)/\Below w.heap.size w w':=by
 cases hr:zI x&&qI ob sz fl with
 |true=>
  simp only[Bool.and_eq_true] at hr;exact xTj bv sv x n ob sz fl w 0 (Nat.zero_le _) h hr.1 hr.2
 |false=>
  refine(xTk bv sv x n ob sz fl w h.rd hl.1 hl.2.1 hl.2.2 hr).mono ?_;rintro e w' ⟨rfl,hb⟩;have he:xMm x n ob sz fl=1:=by unfold xMm;rw[if_pos hr]
  have h1:xK7 x n ob sz fl=⟨[],[],0⟩:=by unfold xK7;rw[he,if_neg δ]
  have h2:xZ4 x n ob sz fl=0:=by unfold xZ4;rw[he,if_neg δ]
  exact⟨_,_,by rw[h1,h2,he],by rw[h1];exact⟨⟨[],rfl,xV.nil _ _,λ_ h=>nomatch h⟩,xV.nil _ _⟩,hb⟩
theorem xG3 {α β:Type} {e1 e2:TypeId} {k1 k2:Nat} {f1:α->List Value} {f2:β->List Value} {W:World} {b1 b2:Nat} {v1 v2:Value} {l1:List α} {l2:List β} (h1:xV e1 k1 f1 W b1 v1 l1) (h2:xV e2 k2 f2 W b2 v2 l2) (he:e1≠e2):v1.ownBlock=none∨v1.ownBlock≠v2.ownBlock:=by
 cases hv:v1.ownBlock with
 |none=>exact .inl rfl
 |some g=>
  refine .inr λe=>?_;obtain⟨c1,q1⟩:=xV.own h1 hv;obtain⟨c2,q2⟩:=xV.own h2 e.symm;rw[q1] at q2;injection q2 with q2;injection q2 with _ q2;exact he q2
theorem uT.app {base b2:Nat} {W W':World} {bv sv tv:Value} {x:yD} {l:List Ch} (h:uT base W bv sv x) (ho:xV 113 3 chF W b2 tv l) (hg:W.grownBy W' tv.ownBlock):uT base W' bv sv x:=by
 obtain⟨bl,e,h1,h2⟩:=h.bo;exact⟨⟨bl,e,h1.grown hg (xG3 h1 ho δ),λp hp=>(h2 p hp).grown hg (xG3 (h2 p hp) ho δ)⟩,h.su.grown hg (xG3 h.su ho δ)⟩
structure MgP (w:World) (b0:Nat) (va vb:Value) (so:Obj) (x:yD) (bv sv tv:Value) (oth:List Ch) (W:World):Prop where
 d:W.heap[w.heap.size]?=some (xX va vb)
 s:W.heap[w.heap.size+1]?=some so
 o1:W.heap[w.heap.size+2]?=some vJ
 o2:W.heap[w.heap.size+3]?=some vB
 xb:W.heap[w.heap.size+4]?=some (ixO bv sv x.given)
 rd:uT 0 W bv sv x
 own:xV 113 3 chF W b0 tv oth
 hb0:w.heap.size+5<=b0
 bel:Below w.heap.size w W
theorem MgP.below {w W W':World} {b0:Nat} {va vb:Value} {so:Obj} {x:yD} {bv sv tv:Value} {oth:List Ch} (h:MgP w b0 va vb so x bv sv tv oth W) (hb:Below W.heap.size W W'):MgP w b0 va vb so x bv sv tv oth W':=
 ⟨xB h.d hb (xG h.d),xB h.s hb (xG h.s),xB h.o1 hb (xG h.o1),xB h.o2 hb (xG h.o2),xB h.xb hb (xG h.xb),h.rd.below hb,h.own.below hb,h.hb0,h.bel.trans (hb.mono h.bel.size)⟩
theorem MgP.put {w W:World} {b0:Nat} {va vb:Value} {so:Obj} {x x':yD} {bv sv bv' sv' tv:Value} {oth:List Ch} (h:MgP w b0 va vb so x bv sv tv oth W) (hx:uT 0 W bv' sv' x'):MgP w b0 va vb so x' bv' sv' tv oth (xU (w.heap.size+4) 0 [bv',sv',.int .i64 x'.given] W):=
 ⟨xM ω _ 0 W h.d,xM ω _ 0 W h.s,xM ω _ 0 W h.o1,xM ω _ 0 W h.o2,yU h.xb rfl,hx.set h.xb δ δ δ _ 0,xV.xU h.own _ 0 (by have:=h.hb0;omega),h.hb0,xZ ω _ 0 W h.bel⟩
theorem MgP.app {w W W':World} {b0:Nat} {va vb:Value} {so:Obj} {x:yD} {bv sv tv tv':Value} {oth m:List Ch} (h:MgP w b0 va vb so x bv sv tv oth W) (h8:qP 113 3 chF W W' b0 tv tv' m):MgP w b0 va vb so x bv sv tv' m W':=
 ⟨h8.keep h.d (h.own.far (by have:=h.hb0;omega)),h8.keep h.s (h.own.far (by have:=h.hb0;omega)),h8.keep h.o1 (h.own.far (by have:=h.hb0;omega)),h8.keep h.o2 (h.own.far (by have:=h.hb0;omega)),h8.keep h.xb (h.own.far (by have:=h.hb0;omega)),uT.app h.rd h.own h8.grown,h8.own,h.hb0,h8.bel h.own (by have:=h.hb0;omega) h.bel h.bel.size⟩
structure Mid (lo:Nat) (w3 W:World):Prop where
 sz:w3.heap.size<=W.heap.size
 c:∀b o,lo<=b->b<w3.heap.size->W.cell? ⟨b,o,none⟩=w3.cell? ⟨b,o,none⟩
theorem Mid.below {lo:Nat} {w3 W W':World} (h:Mid lo w3 W) (hb:Below W.heap.size W W'):Mid lo w3 W':=
 ⟨Nat.le_trans h.sz hb.size,λb o h1 h2=>(hb.cell (p:=⟨b,o,none⟩) (Nat.lt_of_lt_of_le h2 h.sz)).trans (h.c b o h1 h2)⟩
theorem Mid.belowW {lo:Nat} {w3 W W':World} (h:Mid lo w3 W) (hb:Below w3.heap.size W W'):Mid lo w3 W':=
 ⟨Nat.le_trans h.sz hb.size,λb o h1 h2=>(hb.cell (p:=⟨b,o,none⟩) h2).trans (h.c b o h1 h2)⟩
theorem MgP.rebase {w W:World} {b0 b1:Nat} {va vb:Value} {so:Obj} {x:yD} {bv sv:Value} (h:MgP w b0 va vb so x bv sv (.slice none 0 0) [] W) (hb:w.heap.size+5<=b1):MgP w b1 va vb so x bv sv (.slice none 0 0) [] W:=
 ⟨h.d,h.s,h.o1,h.o2,h.xb,h.rd,xV.nil _ _,hb,h.bel⟩
theorem Mid.set {lo g:Nat} {w3 W:World} (h:Mid lo w3 W) (hg:g<lo) (l:List Value) (i:Nat):Mid lo w3 (xU g i l W):=
 ⟨Nat.le_trans h.sz (xZ (B:=0) (Nat.zero_le g) l i W (Below.refl 0 W)).size,λb o h1 h2=>by
  rcases wP (g:=g) l i W b o with e|⟨e,_⟩
  ·exact e.trans (h.c b o h1 h2)
  ·omega⟩
theorem xIt {s:Bs} (e:Value.string ⟨#[]⟩=xO s):s=[]:=by
 unfold xO at e;injection e with e;injection e with e;have:=congrArg Array.toList e;simpa using this.symm
theorem xMi {W:World} {g:Nat} (h:W.heap[g]?=some vJ) (l:List Value):yFi W (xU g 0 l W) g:=by
 intro b o;rcases wP (g:=g) l 0 W b o with e|⟨rfl,_,_⟩
 ·exact .inl e
 ·refine .inr ⟨rfl,λs hs e=>?_⟩;rw[xA h] at e;rcases o with _|_|_|_|_|_|_|o
  ·exact hs (xIt (by simpa using e))
  ·exact hs (xIt (by simpa using e))
  ·exact hs (xIt (by simpa using e))
  all_goals simp[xO] at e
theorem xF7 {W:World} {g:Nat} {u p o:ByteArray} {ep gv:Int} {A1 A2:Option Addr} {n1 c1 n2 c2:Nat} (h:W.heap[g]?=some (vO u p o ep (.slice A1 n1 c1) (.slice A2 n2 c2) gv)):NoWr W g:=by
 intro i a l h1 h2;rw[xA h] at h1 h2;rcases i with _|_|_|_|_|_|_|i<;>simp[xO] at h1 h2
theorem yBr {W:World} {g:Nat} {u p o:ByteArray} {ep gv:Int} {A1 A2:Option Addr} {n1 c1 n2 c2:Nat} (h:W.heap[g]?=some (vO u p o ep (.slice A1 n1 c1) (.slice A2 n2 c2) gv)) (a b c:Value):yFi W (xU g 4 [a,b,c] W) g:=by
 intro b o;rcases wP (g:=g) _ 4 W b o with e|⟨rfl,h1,h2⟩
 ·exact .inl e
 ·refine .inr ⟨rfl,λs hs e=>?_⟩;rw[xA h] at e;rcases o with _|_|_|_|_|_|_|o
  ·omega
  ·omega
  ·omega
  ·omega
  all_goals simp[xO] at e
theorem xLh {W:World} {g:Nat} (h:W.heap[g]?=some vB):NoWr W g:=by
 intro i a l h1 h2;rw[xA h] at h1 h2;rcases i with _|_|i<;>simp[xO] at h1 h2
theorem xMj {W:World} {g:Nat} (h:W.heap[g]?=some vB) (l:List Value):yFi W (xU g 0 l W) g:=by
 intro b o;rcases wP (g:=g) l 0 W b o with e|⟨rfl,_,_⟩
 ·exact .inl e
 ·refine .inr ⟨rfl,λs hs e=>?_⟩;rw[xA h] at e;rcases o with _|_|o<;>simp[xO] at e
structure MgQ (w:World) (gd:Nat) (va vb:Value) (so:Obj) (bv sv:Value) (x:yD) (D:Dk) (b1 b2:Bool) (W:World):Prop where
 d:W.heap[gd]?=some (xX va vb)
 s:W.heap[w.heap.size+1]?=some so
 o1:W.heap[w.heap.size+2]?=some (if b1=true then so else vJ)
 o2:W.heap[w.heap.size+3]?=some (if b2=true then xX va vb else vB)
 ix:uT 0 W bv sv x
 rd:(∀s∈D.secs,s≠[])->RdD W W.heap.size va vb D
 bel:Below w.heap.size w W
section
variable {w W:World} {gd:Nat} {va vb bv sv:Value} {so:Obj} {x:yD} {D:Dk} {b1 b2:Bool}
theorem MgQ.drew (h:MgQ w gd va vb so bv sv x D b1 b2 W):MgQ w gd va vb so bv sv x D b1 b2 W.drew:=
 ⟨h.d,h.s,h.o1,h.o2,h.ix.below (Below.refl _ W).drew,λhs=>(h.rd hs).below (Below.refl _ W).drew ν,h.bel.drew⟩
theorem MgQ.kE {l:List Value} (h:MgQ w gd va vb so bv sv x D false b2 W) (hl:l.length=7) (e:so=.cells l.toArray 30 (0,0)) (hg:gd≠w.heap.size+2):MgQ w gd va vb so bv sv x D true b2 (xU (w.heap.size+2) 0 l W):=by
 have h1:=h.o1;rw[if_neg σ] at h1;have hsz:=(xZ (b:=w.heap.size+2) (B:=0) (Nat.zero_le _) l 0 W (Below.refl 0 W)).size
 refine⟨xM hg l 0 W h.d,xM ω l 0 W h.s,by rw[if_pos rfl,e];exact yU h1 hl,xM ω l 0 W h.o2,h.ix.set h1 δ δ δ l 0,λhs=>(xA2 (h.rd hs) hs (xMi h1 l) (xF7 h1)).more hsz,xZ ω l 0 W h.bel⟩
theorem MgQ.xRy (h:MgQ w gd va vb so bv sv x D b1 false W) (hg:gd≠w.heap.size+3):MgQ w gd va vb so bv sv x D b1 true (xU (w.heap.size+3) 0 [va,vb] W):=by
 have h1:=h.o2;rw[if_neg σ] at h1;have hsz:=(xZ (b:=w.heap.size+3) (B:=0) (Nat.zero_le _) [va,vb] 0 W (Below.refl 0 W)).size
 refine⟨xM hg _ 0 W h.d,xM ω _ 0 W h.s,xM ω _ 0 W h.o1,by rw[if_pos rfl];exact yU h1 rfl,h.ix.set h1 δ δ δ _ 0,λhs=>(xA2 (h.rd hs) hs (xMj h1 _) (xLh h1)).more hsz,xZ ω _ 0 W h.bel⟩
end
end Go.Proofs.VA
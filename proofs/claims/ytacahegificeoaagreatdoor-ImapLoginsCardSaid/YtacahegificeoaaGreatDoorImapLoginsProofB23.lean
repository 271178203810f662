/- Contracts of functions. Conditions: as stated. -/
import Derived.Test.YtacahegificeoaaGreatDoorImapLoginsProofB22
set_option maxHeartbeats 8000000
set_option maxRecDepth 100000
namespace Go.Proofs.DS
open Go.RowKit Mailsack MM BB SH SV RK
abbrev wrF (x:Wr):List Value:=[.int .i64 x.at_,xO x.data]
theorem xDg (x:Wr):(wrF x).length=2:=rfl
theorem yCx (x:Wr):∀u∈wrF x,u.oneCell'=true:=by
 intro u hu;simp only[wrF,List.mem_cons,List.not_mem_nil,or_false] at hu;rcases hu with rfl|rfl<;>rfl
theorem infoWr:(Tryz.prog.info? 118).map (λi=>(i.zero,i.size,i.bytes))=some (some (.agg #[.int .i64 0,.string ⟨#[]⟩]),2,24):=by kernel_rfl
theorem tyWr:xYp Tryz.prog 23 118 2 24 wrF:=by
 obtain⟨i,hi,hz,hs,hb⟩:=vM infoWr;exact⟨Tryz.underlying23,⟨i,_,hi,hz,hs,hb,rfl⟩,ω,ω,xDg,yCx⟩
theorem yC7 {w:World} {B:Nat} {v:Value} {l:List Wr} (h:RdR 2 wrF w B v l):RdW w B v l:=by
 obtain⟨A,c,h1,h2,h3⟩:=h;refine⟨A,c,h1,h2,λhn=>?_⟩;obtain⟨b,off,h4,h5,h6⟩:=h3 hn;exact⟨b,off,h4,h5,λj x hx=>⟨h6 j x hx 0 _ rfl,h6 j x hx 1 _ rfl⟩⟩
theorem rdW_to {w:World} {B:Nat} {v:Value} {l:List Wr} (h:RdW w B v l):RdR 2 wrF w B v l:=by
 obtain⟨A,c,h1,h2,h3⟩:=h;refine⟨A,c,h1,h2,λhn=>?_⟩;obtain⟨b,off,h4,h5,h6⟩:=h3 hn;refine⟨b,off,h4,h5,λj x hx i u hu=>?_⟩;have hi:=(List.getElem?_eq_some_iff.1 hu).1;simp at hi;rcases(show i=0∨i=1 by omega) with rfl|rfl
 ·injection hu with hu;subst hu;exact(h6 j x hx).1
 ·injection hu with hu;subst hu;exact(h6 j x hx).2
structure PuM (w:World) (va vb:Value) (x:Wr) (W:World):Prop where
 d:W.heap[w.heap.size]?=some (xX va vb)
 x:W.heap[w.heap.size+1]?=some (.cells #[.int .i64 x.at_,xO x.data] 118 (0,0))
 o:W.heap[w.heap.size+1+1]?=some (xX (.slice none 0 0) (.slice none 0 0))
 bel:Below w.heap.size w W
theorem PuM.below {w W W':World} {va vb:Value} {x:Wr} (h:PuM w va vb x W) (hb:Below W.heap.size W W'):PuM w va vb x W':=
 ⟨xB h.d hb (xG h.d),xB h.x hb (xG h.x),xB h.o hb (xG h.o),h.bel.trans (hb.mono h.bel.size)⟩
theorem xG1 (va vb:Value) (d:Dk) (x:Wr) (w:World) (h:RdD w w.heap.size va vb d) (hc:d.cache.length+1<=1000000):
  Calls Tryz.prog 356 #[.agg #[va,vb],.agg #[.int .i64 x.at_,xO x.data]] w λe w'=>∃va' vb',e=.returned (.tuple #[.agg #[va',vb'],.int .i64 (if (yZ d&&tF x d.secs.length)=true then 0 else 1)])/\
   RdD w' w'.heap.size va' vb' (if (yZ d&&tF x d.secs.length)=true then yA1 d x else⟨[],[]⟩)/\Below w.heap.size w w':=by
 have HRT:=ι (λW (hb:Below w.heap.size w W)=>wE va vb d W ((h.below hb ν).more hb.size));have HFT:=ι (λW=>xQe x d.secs.length W);have HD:=ι h
 have H0:Hid (PuM w va vb x (((w.alloc (xX va vb)).alloc (.cells #[.int .i64 x.at_,xO x.data] 118)).alloc (xX (.slice none 0 0) (.slice none 0 0)))):=ι (by
  refine⟨xK (zG w _ _) _,xK (yX w _ _) _,?_,(((Below.refl w.heap.size w).alloc ν _).alloc σ _).alloc (by simp;omega) _⟩;have:=xL ((w.alloc (xX va vb)).alloc (.cells #[.int .i64 x.at_,xO x.data] 118)) (xX (.slice none 0 0) (.slice none 0 0));simpa using this)
 have hsl:∃A1 c1,va=.slice A1 d.secs.length c1:=by
  obtain⟨A1,c1,e,_⟩:=h.s;exact⟨A1,c1,e⟩
 obtain⟨A1,c1,rfl⟩:=hsl
 have hsl2:∃A2 c2,vb=.slice A2 d.cache.length c2:=by
  obtain⟨A2,c2,e,_⟩:=h.c;exact⟨A2,c2,e⟩
 obtain⟨A2,c2,rfl⟩:=hsl2;obtain⟨sn,hsn⟩:∃sn,d.secs.length=sn:=⟨_,rfl⟩;obtain⟨cn,hcn⟩:∃cn,d.cache.length=cn:=⟨_,rfl⟩;rw[hsn] at HRT HFT H0 HD⊢;rw[hcn] at HRT H0 HD hc⊢;have HLS:=ι (And.intro hsn hcn);clear h hsn hcn;cases hr:yZ d with
 |false=>
  rw[hr] at HRT;rw[Bool.false_and,if_neg σ,if_neg σ];clear hr HFT HD HLS;go_enter Tryz.func356,Tryz.ntmps356;go_wp2_with fail
  refine(HRT.o _ H0.o.bel).mono ?_;rintro e w1 ⟨rfl,hb1⟩;have H1:=ι (H0.o.below hb1);clear H0 hb1 HRT;obtain⟨o0,y0,f0,o1,y1,f1,HB⟩:=xMe H1.o.o H1.o.bel ω (.slice none 0 0) (.slice none 0 0) _ rfl;clear H1;go_wp2
  refine bodyPost_ret (v:=.tuple #[.agg #[.slice none 0 0,.slice none 0 0],.int .i64 1]) (by simp[results,Tryz.results356,go_sem,f0,f1]) rfl ?_;exact⟨_,_,rfl,⟨⟨_,_,rfl,Nat.le_refl _,λh=>by simp at h⟩,RdW.xPs _ _,σ,σ⟩,HB.o⟩
 |true=>
  rw[hr] at HRT;rw[Bool.true_and];cases hf:tF x sn with
  |false=>
   rw[hf] at HFT;rw[if_neg σ,if_neg σ];clear hr hf HD HLS;go_enter Tryz.func356,Tryz.ntmps356;go_wp2_with fail
   refine(HRT.o _ H0.o.bel).mono ?_;rintro e w1 ⟨rfl,hb1⟩;have H1:=ι (H0.o.below hb1);clear H0 hb1 HRT;obtain⟨d0,d1⟩:=zQ H1.o.d;obtain⟨x0,x1⟩:=zQ H1.o.x;go_wp2_with fail
   clear d0 d1 x0 x1;refine(HFT.o _).mono ?_;rintro e w2 ⟨rfl,hb2⟩;have H2:=ι (H1.o.below hb2);clear H1 hb2 HFT;obtain⟨o0,y0,f0,o1,y1,f1,HB⟩:=xMe H2.o.o H2.o.bel ω (.slice none 0 0) (.slice none 0 0) _ rfl;clear H2;go_wp2
   refine bodyPost_ret (v:=.tuple #[.agg #[.slice none 0 0,.slice none 0 0],.int .i64 1]) (by simp[results,Tryz.results356,go_sem,f0,f1]) rfl ?_;exact⟨_,_,rfl,⟨⟨_,_,rfl,Nat.le_refl _,λh=>by simp at h⟩,RdW.xPs _ _,σ,σ⟩,HB.o⟩
  |true=>
   rw[hf] at HFT;rw[if_pos rfl,if_pos rfl];clear hr hf;go_enter Tryz.func356,Tryz.ntmps356;go_wp2_with fail
   refine(HRT.o _ H0.o.bel).mono ?_;rintro e w1 ⟨rfl,hb1⟩;have H1:=ι (H0.o.below hb1);clear H0 hb1 HRT;obtain⟨d0,d1⟩:=zQ H1.o.d;obtain⟨x0,x1⟩:=zQ H1.o.x;go_wp2_with fail
   clear d0 d1 x0 x1;refine(HFT.o _).mono ?_;rintro e w2 ⟨rfl,hb2⟩;have H2:=ι (H1.o.below hb2);clear H1 hb2 HFT;obtain⟨d0,d1⟩:=zQ H2.o.d;obtain⟨z,hzz,hmk⟩:=madeR tyWr w2 (cn+1) ω;rw[show((cn+1:Nat):Int)=(cn:Int)+1 by omega] at hmk;have H2L:=ι (xG H2.o.o)
   have HO3:Hid (xV 118 2 wrF (w2.alloc (.cells z 118)) (w.heap.size+1+1+1) (.slice (some ⟨w2.heap.size,0,none⟩) 0 (cn+1)) []):=ι (xV.room z w2 (cn+1) H2L.o ω hzz);have H3:=ι (H2.o.below ((Below.refl _ w2).alloc ν (.cells z 118)));go_upto_region 4 with fail
   clear hmk hzz d0 d1;generalize w2.alloc (.cells z 118)=w3 at HO3 H3⊢;generalize Value.slice (some ⟨w2.heap.size,0,none⟩) 0 (cn+1)=v3 at HO3⊢;have H3L:=ι (xG H3.o.o);have HRD3:=ι ((rdW_to HD.o.c).below H3.o.bel ν);obtain⟨d0,d1⟩:=zQ H3.o.d
   go_upto_region 5 with (at_builtin;refine zY tyWr rfl _ _ rfl rfl rfl HO3.o HRD3.o (by have:=HLS.o.2;simp;omega) (by have:=H3L.o;omega) ?_;intro v5 w5 h5;have HA5:=ι h5;clear h5)
   clear d0 d1;have H5:Hid (PuM w (.slice A1 sn c1) (.slice A2 cn c2) x w5):=ι ⟨HA5.o.keep H3.o.d (HO3.o.far ω),HA5.o.keep H3.o.x (HO3.o.far ω),HA5.o.keep H3.o.o (HO3.o.far ω),HA5.o.bel HO3.o ω H3.o.bel H3.o.bel.size⟩
   have HO5:Hid (xV 118 2 wrF w5 (w.heap.size+1+1+1) v5 d.cache):=ι HA5.o.own;clear HA5 HO3 H3 HRD3;obtain⟨x0,x1⟩:=zQ H5.o.x
   go_upto_region 6 with (at_builtin;refine zY tyWr rfl _ _ rfl rfl rfl (HO5.o.alloc _) (RdR.lit (m:=[x]) xDg _ _ rfl) (by have:=HLS.o.2;simp;omega) (by have:=xG H5.o.o;simp;omega) ?_;intro v6 w6 h6;have HA6:Hid (qP 118 2 wrF (w5.alloc (.cells #[.int .i64 x.at_,xO x.data] 118)) w6 (w.heap.size+1+1+1) v5 v6 (d.cache++[x])):=ι h6;clear h6)
   clear x0 x1;obtain⟨A6,c6,hv6,hc6⟩:=HA6.o.own.form;have hl6:(d.cache++[x]).length=cn+1:=by simp[HLS.o.2]
   rw[hl6] at hv6;have q0:=HA6.o.keep (xK H5.o.d _) (HO5.o.far ω);have q1:=HA6.o.keep (xK H5.o.o _) (HO5.o.far ω);have q2:=HA6.o.bel (w0:=w) (B:=w.heap.size) (HO5.o.alloc _) ω (H5.o.bel.alloc H5.o.bel.size _) (by have:=H5.o.bel.size;simp;omega);have HO6:=ι HA6.o.own;subst hv6
   clear HA6 hl6 hc6;obtain⟨d0,d1⟩:=zQ q0;obtain⟨o0,y0,f0,o1,y1,f1,HB⟩:=xMe q1 q2 ω (.slice A1 sn c1) (.slice A6 (cn+1) c6) _ rfl;clear q0 q1 q2 H5 HO5 H2L H3L;go_wp2
   refine bodyPost_ret (v:=.tuple #[.agg #[.slice A1 sn c1,.slice A6 (cn+1) c6],.int .i64 0]) (by simp[results,Tryz.results356,go_sem,f0,f1]) rfl ?_;refine⟨_,_,rfl,⟨?_,?_,?_,?_⟩,HB.o⟩
   ·exact(HD.o.s.below HB.o ν).more HB.o.size
   ·have h6:=(HO6.o.xAm (p:=⟨w.heap.size+1+1,0,none⟩) (.slice A1 sn c1) (HO6.o.far σ)).xAm (p:=⟨w.heap.size+1+1,1,none⟩) (.slice A6 (cn+1) c6) (HO6.o.far σ);exact yC7 (h6.rd xDg)
   ·exact HD.o.ls
   ·show(d.cache++[x]).length<=_;simp[HLS.o.2];omega
end Go.Proofs.DS
namespace Mailsack
theorem xT0 (d:Dk):(yG d).secs.length=d.secs.length/\(yG d).cache.length<=d.cache.length:=by
 unfold yG;split
 ·exact⟨qW _ _ _ _,Nat.zero_le _⟩
 ·exact⟨rfl,Nat.le_refl _⟩
theorem xNf (d:Dk) (o:Op):(kC d o).secs.length=d.secs.length/\(kC d o).cache.length<=d.cache.length+1:=by
 unfold kC;split
 ·have:=xT0 d;omega
 ·split
  ·simp[yA1]
  ·simp
theorem xVj {l:List Op} {k:Nat} {o:Op} (h:l[k]?=some o) (d:Dk):vR d (l.take (k+1))=kC (vR d (l.take k)) o:=by
 unfold vR;rw[List.take_add_one,h,List.foldl_append]
 rfl
theorem xL2 (d:Dk):∀l:List Op,(vR d l).secs.length=d.secs.length/\(vR d l).cache.length<=d.cache.length+l.length
 |[]=>⟨rfl,Nat.le_refl _⟩
 |o::l=>by
  have h1:=xNf d o;have h2:=xL2 (kC d o) l;show(vR (kC d o) l).secs.length=_/\(vR (kC d o) l).cache.length<=_;simp only[List.length_cons];omega
end Mailsack
namespace Go.Proofs.DS
open Go.RowKit Mailsack MM BB SH SV RK
abbrev opF (o:Mailsack.Op):List Value:=[.bool o.flush,.int .i64 o.w.at_,xO o.w.data]
theorem xDr (o:Mailsack.Op):(opF o).length=3:=rfl
theorem yDt (x:Mailsack.Op):∀u∈opF x,u.oneCell'=true:=by
 intro u hu;simp only[opF,List.mem_cons,List.not_mem_nil,or_false] at hu;rcases hu with rfl|rfl|rfl<;>rfl
theorem infoOp:(Tryz.prog.info? 419).map (λi=>(i.zero,i.size,i.bytes))=some (some (.agg #[.bool false,.int .i64 0,.string ⟨#[]⟩]),3,32):=by kernel_rfl
theorem tyOp:xYp Tryz.prog 346 419 3 32 opF:=by
 obtain⟨i,hi,hz,hs,hb⟩:=vM infoOp;exact⟨Tryz.underlying346,⟨i,_,hi,hz,hs,hb,rfl⟩,ω,ω,xDr,yDt⟩
def xTp (W:World) (g:Nat):Prop:=∀(i:Nat) u,W.cell? ⟨g,i,none⟩=some u->(∀l,u≠xO l)/\∀z,u≠.int .i64 z
theorem vH {W:World} {g:Nat} {A1 A2:Option Addr} {n1 n2 c1 c2:Nat} (h:W.heap[g]?=some (xX (.slice A1 n1 c1) (.slice A2 n2 c2))):xTp W g:=by
 intro i u hu;rw[xA h i] at hu;rcases i with _|_|i
 ·simp at hu;subst hu;exact⟨λl e=>(by cases e),λz e=>(by cases e)⟩
 ·simp at hu;subst hu;exact⟨λl e=>(by cases e),λz e=>(by cases e)⟩
 ·simp at hu
theorem yDj {W:World} {B:Nat} {v:Value} {xs:List Bs} (h:RdS W B v xs) {p:Addr} (hg:xTp W p.block) (u:Value):RdS (W.setCell p u) B v xs:=by
 obtain⟨A,c,h1,h2,h3⟩:=h;refine⟨A,c,h1,h2,λhn=>?_⟩;obtain⟨b,off,h4,h5,h6⟩:=h3 hn;refine⟨b,off,h4,h5,λj x hx=>?_⟩;have h7:=h6 j x hx
 by_cases e:p.block=b
 ·subst e;exact absurd rfl ((hg _ _ h7).1 x)
 ·rw[<-h7];exact World.cell?_setCell_other _ _ _ _ (by rintro rfl;exact e rfl)
theorem yDi {W:World} {B:Nat} {v:Value} {xs:List Wr} (h:RdW W B v xs) {p:Addr} (hg:xTp W p.block) (u:Value):RdW (W.setCell p u) B v xs:=by
 obtain⟨A,c,h1,h2,h3⟩:=h;refine⟨A,c,h1,h2,λhn=>?_⟩;obtain⟨b,off,h4,h5,h6⟩:=h3 hn;refine⟨b,off,h4,h5,λj x hx=>?_⟩;obtain⟨h7,h8⟩:=h6 j x hx
 by_cases e:p.block=b
 ·subst e;exact absurd rfl ((hg _ _ h7).2 _)
 ·exact⟨by rw[<-h7];exact World.cell?_setCell_other _ _ _ _ (by rintro rfl;exact e rfl),by rw[<-h8];exact World.cell?_setCell_other _ _ _ _ (by rintro rfl;exact e rfl)⟩
theorem RdD.far {W:World} {B:Nat} {va vb:Value} {D:Dk} (h:RdD W B va vb D) {p:Addr} (hg:xTp W p.block) (u:Value):RdD (W.setCell p u) B va vb D:=⟨yDj h.s hg u,yDi h.c hg u,h.ls,h.lc⟩
structure RnM (w:World) (D:Dk) (va vb:Value) (W:World):Prop where
 d:W.heap[w.heap.size]?=some (xX va vb)
 o:W.heap[w.heap.size+1]?=some (xX (.slice none 0 0) (.slice none 0 0))
 rd:RdD W W.heap.size va vb D
 bel:Below w.heap.size w W
theorem RnM.below {w W W':World} {va vb:Value} {D:Dk} (h:RnM w D va vb W) (hb:Below W.heap.size W W'):RnM w D va vb W':=
 ⟨xB h.d hb (xG h.d),xB h.o hb (xG h.o),(h.rd.below hb ν).more hb.size,h.bel.trans (hb.mono h.bel.size)⟩
theorem yE {w:World} {B:Nat} {va vb:Value} {D:Dk} (h:RdD w B va vb D):∃A1 c1 A2 c2,va=.slice A1 D.secs.length c1/\vb=.slice A2 D.cache.length c2:=by
 obtain⟨A1,c1,e1,_⟩:=h.s;obtain⟨A2,c2,e2,_⟩:=h.c;exact⟨A1,c1,A2,c2,e1,e2⟩
theorem RnM.put {w W:World} {va vb ua ub:Value} {D D':Dk} (h:RnM w D va vb W) (hr:RdD W W.heap.size ua ub D'):RnM w D' ua ub ((W.setCell ⟨w.heap.size,0,none⟩ ua).setCell ⟨w.heap.size,1,none⟩ ub):=by
 have e1:=xY (xY h.d 0 ua) 1 ub;have e0:=xY h.d 0 ua;have e2:=yA (yA h.o (p:=⟨w.heap.size,0,none⟩) (by show w.heap.size+1≠w.heap.size;omega) ua) (p:=⟨w.heap.size,1,none⟩) (by show w.heap.size+1≠w.heap.size;omega) ub;obtain⟨A1,c1,A2,c2,rfl,rfl⟩:=yE h.rd
 obtain⟨A3,c3,A4,c4,rfl,rfl⟩:=yE hr;have n0:=vH h.d
 have n1:xTp (W.setCell ⟨w.heap.size,0,none⟩ (.slice A3 D'.secs.length c3)) w.heap.size:=by
  simp only[List.setIfInBounds_toArray,List.set_cons_zero] at e0;exact vH e0
 refine⟨by simpa using e1,e2,?_,(h.bel.setCell (p:=⟨w.heap.size,0,none⟩) ν _).setCell (p:=⟨w.heap.size,1,none⟩) ν _⟩;have:=RdD.far (RdD.far hr (p:=⟨w.heap.size,0,none⟩) n0 (.slice A3 D'.secs.length c3)) (p:=⟨w.heap.size,1,none⟩) n1 (.slice A4 D'.cache.length c4)
 simpa[size_set] using this
theorem yDf (va vb lv:Value) (d:Dk) (l:List Mailsack.Op) (m:Int) (w:World) (h:RdD w w.heap.size va vb d) (hl:RdR 3 opF w w.heap.size lv l) (hc:d.cache.length+l.length<=100000):
  Calls Tryz.prog 274 #[.agg #[va,vb],lv,.int .i64 m] w λe w'=>∃va' vb',e=.returned (.agg #[va',vb'])/\RdD w' w'.heap.size va' vb' (vR d (l.take m.toNat))/\Below w.heap.size w w':=by
 obtain⟨A1,c1,A2,c2,rfl,rfl⟩:=yE h;obtain⟨A3,c3,rfl,hc3,hl3⟩:=hl
 have H0:Hid (RnM w (vR d (l.take 0)) (.slice A1 d.secs.length c1) (.slice A2 d.cache.length c2) ((w.alloc (xX (.slice A1 d.secs.length c1) (.slice A2 d.cache.length c2))).alloc (xX (.slice none 0 0) (.slice none 0 0)))):=ι (by
  have hb:=((Below.refl w.heap.size w).alloc ν (xX (.slice A1 d.secs.length c1) (.slice A2 d.cache.length c2))).alloc σ (xX (.slice none 0 0) (.slice none 0 0));exact⟨zG _ _ _,yX _ _ _,(h.below hb ν).more hb.size,hb⟩)
 have HL:=ι hl3;have HC:=ι hc;have hlb:l.length<=100000:=by omega
 clear h hl3 hc3 hc;go_enter Tryz.func274,Tryz.ntmps274;go_wp2_with fail
 generalize (w.alloc (xX (.slice A1 d.secs.length c1) (.slice A2 d.cache.length c2))).alloc (xX (.slice none 0 0) (.slice none 0 0))=w1 at H0⊢
 go_loopw [13] (λiv wr=>∃(k:Nat) (ua ub:Value),k<=l.length/\iv=.int .i64 k/\Hid (k<=m.toNat)/\Hid (RnM w (vR d (l.take k)) ua ub wr)) (λiv _=>l.length- (intOf iv).toNat)
 case atStart=>exact⟨0,_,_,Nat.zero_le _,rfl,ι (Nat.zero_le _),H0⟩
 case round=>
  obtain⟨k,ua,ub,hk,rfl,HK,HI⟩:=hrel;clear H0
  by_cases hlt:k<l.length
  ·obtain⟨x,hx⟩:∃x,l[k]?=some x:=⟨_,List.getElem?_eq_getElem hlt⟩;obtain⟨b,off,rfl,hb,hcell⟩:=HL.o ω;have q:=λi u hu=>(HI.o.bel.cell (p:=⟨b,off+k*3+i,none⟩) hb).trans (hcell k x hx i u hu);have q0:wr.cell? ⟨b,off+k*3,none⟩=some (.bool x.flush):=q 0 _ rfl
   have q1:wr.cell? ⟨b,off+k*3+1,none⟩=some (.int .i64 x.w.at_):=q 1 _ rfl;have q2:wr.cell? ⟨b,off+k*3+2,none⟩=some (xO x.w.data):=q 2 _ rfl;have HX:=ι (xVj hx d);have HZ:=ι (xL2 d (l.take k))
   have HW:=ι (HI.o.below ((Below.refl _ wr).alloc ν (.cells #[.bool x.flush,.int .i64 x.w.at_,xO x.w.data] 419)));have hbw:=xL wr (.cells #[.bool x.flush,.int .i64 x.w.at_,xO x.w.data] 419);obtain⟨x0,x1,x2⟩:=xH1 hbw;clear hcell q hx hbw
   by_cases hm:m<=(k:Int)
   ·have HE:Hid (vR d (l.take k)=vR d (l.take m.toNat)):=ι (by rw[show k=m.toNat by have:=HK.o;omega]);clear HX HZ HK HI;go_upto_region 11 with fail
    have HI:=HW;clear HW q0 q1 q2 x0 x1 x2;generalize wr.alloc (.cells #[.bool x.flush,.int .i64 x.w.at_,xO x.w.data] 419)=wz at HI⊢;obtain⟨A4,c4,A5,c5,rfl,rfl⟩:=yE HI.o.rd
    have HR:Hid (RdD ((wz.setCell ⟨w.heap.size+1,0,none⟩ (.slice A4 (vR d (l.take k)).secs.length c4)).setCell ⟨w.heap.size+1,1,none⟩ (.slice A5 (vR d (l.take k)).cache.length c5)) wz.heap.size (.slice A4 (vR d (l.take k)).secs.length c4) (.slice A5 (vR d (l.take k)).cache.length c5) (vR d (l.take k))):=ι (by
     have e0:=xY HI.o.o 0 (.slice A4 (vR d (l.take k)).secs.length c4);simp only[List.setIfInBounds_toArray,List.set_cons_zero] at e0;exact RdD.far (RdD.far HI.o.rd (p:=⟨w.heap.size+1,0,none⟩) (vH HI.o.o) _) (p:=⟨w.heap.size+1,1,none⟩) (vH e0) _)
    generalize vR d (l.take k)=D at HR HE HI⊢;obtain⟨d0,d1⟩:=zQ HI.o.d;obtain⟨o0,y0,f0,o1,y1,f1,HB⟩:=xMe HI.o.o HI.o.bel ω (.slice A4 D.secs.length c4) (.slice A5 D.cache.length c5) _ rfl;clear HI HL HC;go_wp2
    refine bodyPost_ret (v:=.agg #[.slice A4 D.secs.length c4,.slice A5 D.cache.length c5]) (by simp[results,Tryz.results274,go_sem,f0,f1]) rfl ?_;rw[<-HE.o];exact⟨_,_,rfl,by simpa[size_set] using HR.o,HB.o⟩
   ·have HK2:Hid (k+1<=m.toNat):=ι ω;clear HI HK;obtain⟨A4,c4,A5,c5,rfl,rfl⟩:=yE HW.o.rd;obtain⟨d0,d1⟩:=zQ HW.o.d;have y0:=xC HW.o.d 0;have y1:=xC HW.o.d 1;generalize vR d (l.take k)=D at HX HZ HW d0 d1 y0 y1⊢;cases hf:x.flush with
    |true=>
     have HS:Hid (kC D x=yG D):=ι (by unfold kC;rw[hf,if_pos rfl]);rw[hf] at HW d0 d1 q0 x0 x1 x2 y0 y1;clear hf;have HF:=ι (xGb _ _ D _ HW.o.rd);go_wp2_with fail
     clear q0 q1 q2 x0 x1 x2 d0 d1 y0 y1;refine HF.o.mono ?_;rintro e w2 ⟨ua,ub,rfl,hr,_,hb⟩;obtain⟨A6,c6,A7,c7,rfl,rfl⟩:=yE hr;have h2:=HW.o.below hb;have HP:=ι (h2.put hr);obtain⟨d0,d1⟩:=zQ h2.d;have y0:=xC h2.d 0;have y1:=xC h2.d 1;clear hr hb h2 HF HW;go_wp2
     exact⟨⟨k+1,_,_,ω,by go_num,HK2,by rw[HX.o,HS.o];exact HP⟩,by simp[intOf];omega⟩
    |false=>
     rw[hf] at HW d0 d1 q0 x0 x1 x2 y0 y1;have HPT:=ι (xG1 _ _ D x.w _ HW.o.rd (by have:=HZ.o;have:=HC.o;simp only[List.length_take] at *;omega));cases hp:(yZ D&&tF x.w D.secs.length) with
     |true=>
      have HS:Hid (kC D x=yA1 D x.w):=ι (by unfold kC;rw[hf,if_neg σ,hp,if_pos rfl]);rw[hp,if_pos rfl,if_pos rfl] at HPT;clear hf hp;go_wp2_with fail
      clear q0 q1 q2 x0 x1 x2 d0 d1 y0 y1;refine HPT.o.mono ?_;rintro e w2 ⟨ua,ub,rfl,hr,hb⟩;obtain⟨A6,c6,A7,c7,rfl,rfl⟩:=yE hr;have h2:=HW.o.below hb
      have ha:=(Below.refl w2.heap.size w2).alloc ν (xX (.slice A6 (yA1 D x.w).secs.length c6) (.slice A7 (yA1 D x.w).cache.length c7));have h3:=h2.below ha;have HP:=ι (h3.put ((hr.below ha ν).more ha.size))
      have hn:=xL w2 (xX (.slice A6 (yA1 D x.w).secs.length c6) (.slice A7 (yA1 D x.w).cache.length c7));obtain⟨d0,d1⟩:=zQ h3.d;obtain⟨e0,e1⟩:=zQ hn;have y0:=xC h3.d 0;have y1:=xC h3.d 1;clear hr hb h2 HPT HW ha h3 hn;go_wp2
      exact⟨⟨k+1,_,_,ω,by go_num,HK2,by rw[HX.o,HS.o];exact HP⟩,by simp[intOf];omega⟩
     |false=>
      have HS:Hid (kC D x=D):=ι (by unfold kC;rw[hf,if_neg σ,hp,if_neg σ]);rw[hp,if_neg σ,if_neg σ] at HPT;clear hf hp;go_wp2_with fail
      clear q0 q1 q2 x0 x1 x2 d0 d1 y0 y1;refine HPT.o.mono ?_;rintro e w2 ⟨ua,ub,rfl,hr,hb⟩;obtain⟨A6,c6,A7,c7,rfl,rfl⟩:=yE hr;have h2:=HW.o.below hb
      have HP:=ι (h2.below ((Below.refl w2.heap.size w2).alloc ν (xX (.slice A6 (⟨[],[]⟩:Dk).secs.length c6) (.slice A7 (⟨[],[]⟩:Dk).cache.length c7))));clear hr hb h2 HPT HW;go_wp2;exact⟨⟨k+1,_,_,ω,by go_num,HK2,by rw[HX.o,HS.o];exact HP⟩,by simp[intOf];omega⟩
  ·obtain rfl:k=l.length:=by omega
   have HE:Hid (vR d (l.take l.length)=vR d (l.take m.toNat)):=ι (by
    have:=HK.o;rw[List.take_length,List.take_of_length_le this])
   clear HK;go_upto_region 11 with fail
   obtain⟨k,hk⟩:∃k,l.length=k:=⟨_,rfl⟩;rw[hk] at HI HE⊢;clear hk;obtain⟨wz,hwz⟩:∃wz,wz=wr:=⟨_,rfl⟩;rw[<-hwz] at HI⊢;clear hwz;obtain⟨A4,c4,A5,c5,rfl,rfl⟩:=yE HI.o.rd
   have HR:Hid (RdD ((wz.setCell ⟨w.heap.size+1,0,none⟩ (.slice A4 (vR d (l.take k)).secs.length c4)).setCell ⟨w.heap.size+1,1,none⟩ (.slice A5 (vR d (l.take k)).cache.length c5)) wz.heap.size (.slice A4 (vR d (l.take k)).secs.length c4) (.slice A5 (vR d (l.take k)).cache.length c5) (vR d (l.take k))):=ι (by
    have e0:=xY HI.o.o 0 (.slice A4 (vR d (l.take k)).secs.length c4);simp only[List.setIfInBounds_toArray,List.set_cons_zero] at e0;exact RdD.far (RdD.far HI.o.rd (p:=⟨w.heap.size+1,0,none⟩) (vH HI.o.o) _) (p:=⟨w.heap.size+1,1,none⟩) (vH e0) _)
   generalize vR d (l.take k)=D at HR HE HI⊢;obtain⟨d0,d1⟩:=zQ HI.o.d;obtain⟨o0,y0,f0,o1,y1,f1,HB⟩:=xMe HI.o.o HI.o.bel ω (.slice A4 D.secs.length c4) (.slice A5 D.cache.length c5) _ rfl;clear HI HL HC;go_wp2
   refine bodyPost_ret (v:=.agg #[.slice A4 D.secs.length c4,.slice A5 D.cache.length c5]) (by simp[results,Tryz.results274,go_sem,f0,f1]) rfl ?_;rw[<-HE.o];exact⟨_,_,rfl,by simpa[size_set] using HR.o,HB.o⟩
end Go.Proofs.DS
namespace Go.Proofs.BU
open Go.RowKit MM
def ByT (b:Nat) (w w':World):Prop:=∀i o,w.heap[i]?=some o->i≠b->(∀cs fr,o≠.cells cs 5 fr)->w'.heap[i]?=some o
theorem xHe (B b:Nat) (bs:List Value) (w:World) (h:Lib.IsBuilder 81 5 B b bs w):
  Calls Tryz.prog 233 #[.pointer (some ⟨b,0,none⟩)] w λe w'=>e=.returned (.tuple #[])/\(Lib.BuilderAt 81 5 B b (.pointer (some ⟨b,0,none⟩)) bs w'/\Below B w w'/\∀i,i≠b->w'.heap[i]?=w.heap[i]?):=by
 rcases h with h|h
 ·refine(xB0 b w h.cell0 h.shape h.frozen0).mono ?_;rintro e w' ⟨rfl,rfl⟩;exact⟨rfl,h.used _,(Below.refl B w).setCell (p:=⟨b,0,none⟩) h.1 _,λi hi=>Below.heap_setCell w ⟨b,0,none⟩ _ i hi⟩
 ·refine(xBx b w h.cell0).mono ?_;rintro e w' ⟨rfl,rfl⟩;exact⟨rfl,h,Below.refl B _,λ_ _=>rfl⟩
theorem xAd (B b:Nat) (l:List UInt8) (s:ByteArray) (w:World) (h:Bld B b l w) (hl:l.length+s.size<=1000000000) (hB:B<=w.heap.size):
  Calls Tryz.prog 159 #[.pointer (some ⟨b,0,none⟩),.string s] w λe w'=>e=.returned (.tuple #[.int .i64 s.size,.nilIface])/\Bld B b (l++s.data.toList) w'/\Below B w w'/\ByT b w w':=by
 obtain⟨i0,hi,hz0,hz1,hz2⟩:=info_parts xLz;have Hl:=ι (xGr l);go_enter Tryz.func159,Tryz.ntmps159;go_wp2_with fail
 refine(xHe B b _ _ h).mono ?_;rintro e w1 ⟨rfl,⟨hBb,v,hbk,hown,hne⟩,hb1,hby⟩;have yCq:=ι hown;have Hne:=ι hne;have Hbk:=ι hbk;have Hby:=ι hby
 have k1:w1.cell? ⟨b,1,none⟩=some v:=xA hbk 1;have hlt:=xG hbk;have HB1:=ι hb1;have hz:=hb1.size;clear hown hne hbk hb1 hby
 go_wp2_with (at_builtin;refine Lib.wpList_append_own_string _ rfl _ _ 79 9 rfl B 5 i0 Tryz.underlying79 Tryz.underlying9 hi hz0 hz1 hz2 _ _ _ rfl yCq.o s rfl ?c3 ?c4 ?c5 ?_)
 case c3=>have:=Hl.o;unfold maxLen;omega
 case c4=>have:=Hl.o;omega
 case c5=>omega
 intro v' w2 hown' hgrow _;have pk:=ι (wG Hbk.o hgrow (λe=>Hne.o e.symm));have k2:w2.cell? ⟨b,1,none⟩=some v:=xA pk.o 1;have y2:w2.frozen? ⟨b,1,none⟩=false:=xC pk.o 1
 obtain⟨ao,n',cap,rfl⟩:∃ao n' cap,v'=.slice ao n' cap:=by
  rcases hown'.2 with ⟨hv,_⟩|⟨g,cap,cur,hv,_⟩
  ·exact⟨_,_,_,hv⟩
  ·exact⟨_,_,_,hv⟩
 have xP0:=ι hown';have xMr:=ι hgrow;clear hown' hgrow;go_wp2;go_ret2;refine⟨rfl,.inr ?_,?_,λi o ho hib hty=>?_⟩
 ·refine Lib.BuilderAt.put (T:=81) (e:=5) hBb pk.o (bs':=Lib.byteCells (l++s.data.toList)) ?_ δ;rw[xEp,List.length_append];have:=xP0.o;simpa[Lib.strCells,Lib.byteCells,Lib.strCells_length] using this
 ·refine Below.setCell ?_ (p:=⟨b,1,none⟩) hBb _;exact HB1.o.grown xMr.o ω (λk hk=>(World.ownsRow.lt yCq.o k hk).1)
 ·have h1:w1.heap[i]?=some o:=(Hby.o i hib).trans ho;refine yA (wG h1 xMr.o (λe=>?_)) (p:=⟨b,1,none⟩) hib _;rcases yCq.o.2 with ⟨hv,_⟩|⟨g,cap,cur,hv,_,hg,_⟩
  ·rw[hv] at e;simp[Value.ownBlock] at e
  ·rw[hv] at e;have e':i=g:=by simpa[Value.ownBlock] using e
   subst e';rw[hg] at h1;injection h1 with h1;exact hty _ _ h1.symm
end Go.Proofs.BU
namespace Mailsack
theorem xYm {l:List Wr} {k:Nat} {x:Wr} (h:l[k]?=some x):xIi (l.take (k+1))=xIi (l.take k)++(xGm x.at_++x.data):=by
 unfold xIi;rw[List.take_add_one,h,List.map_append,List.flatten_append];simp[xXs]
theorem xK9 {n:Nat}:∀(l:List Wr),l.all (xOd n)=true->(xIi l).length=128*l.length
 |[],_=>rfl
 |x::l,h=>by
  rw[List.all_cons,Bool.and_eq_true] at h;have ih:=xK9 l h.2
  have hx:x.data.length=64:=by
   have:=h.1;unfold xOd at this;simp at this;exact this.2
  unfold xIi at ih⊢;rw[List.map_cons,List.flatten_cons,List.length_append,ih,List.length_cons];simp[xXs,xMb,hx];omega
theorem xWt {l:List Wr} {k:Nat} {x:Wr} (h:l[k]?=some x):qJ 0 (l.take (k+1))=qJ 0 (l.take k)++[wOp (1+2*(k:Int)) (xGm x.at_),wOp (2+2*(k:Int)) x.data]:=by
 have hk:=(List.getElem?_eq_some_iff.1 h).1;rw[List.take_add_one,h];show qJ 0 (l.take k++[x])=_;rw[xLx,List.length_take,Nat.zero_add,show min k l.length=k by omega]
theorem xO2 {l:List Wr} {k:Nat} {x:Wr} (h:l[k]?=some x):(l.take (k+1)).map (λx=>(⟨false,x⟩:Op))=(l.take k).map (λx=>(⟨false,x⟩:Op))++[⟨false,x⟩]:=by
 rw[List.take_add_one,h,List.map_append]
 rfl
end Mailsack
namespace Go.Proofs.DS
open Go.RowKit Mailsack MM BB SH SV RK BU
theorem xV.neT {α:Type} {e:TypeId} {k:Nat} {f:α->List Value} {w:World} {base:Nat} {v:Value} {l:List α} (h:xV e k f w base v l) {g:Nat} {cs:Array Value} {T:TypeId} {fr:Nat×Nat} (hb:w.heap[g]?=some (.cells cs T fr)) (hT:T≠e):v.ownBlock≠some g:=by
 rcases h.2 with ⟨h1,_⟩|⟨g',cap,cur,h1,_,h3,_⟩
 ·rw[h1];intro e;cases e
 ·rw[h1];intro e2;have:g'=g:=by simpa[Value.ownBlock] using e2
  subst this;rw[h3] at hb;injection hb with hb;injection hb with _ hb;exact hT hb.symm
theorem xV.own {α:Type} {e:TypeId} {k:Nat} {f:α->List Value} {w:World} {base:Nat} {v:Value} {l:List α} (h:xV e k f w base v l) {g:Nat} (hg:v.ownBlock=some g):∃cs,w.heap[g]?=some (.cells cs e (0,0)):=by
 rcases h.2 with ⟨h1,_⟩|⟨g',cap,cur,h1,_,h3,_⟩
 ·rw[h1] at hg;cases hg
 ·rw[h1] at hg;have:g'=g:=by simpa[Value.ownBlock] using hg
  subst this;exact⟨_,h3⟩
theorem xV.byT {α:Type} {e:TypeId} {k:Nat} {f:α->List Value} {w w':World} {base:Nat} {v:Value} {l:List α} (h:xV e k f w base v l) {b:Nat} {cs:Array Value} {fr:Nat×Nat} (ht:ByT b w w') (hb:w.heap[b]?=some (.cells cs 81 fr)) (h1:81≠e) (h2:e≠5):xV e k f w' base v l:=by
 have hne:=xV.neT h hb h1;refine⟨h.1,?_⟩;rcases h.2 with hn|⟨g,cap,cur,k1,k2,k3,k4⟩
 ·exact .inl hn
 ·refine .inr ⟨g,cap,cur,k1,k2,ht g _ k3 (λe=>hne (by rw[k1,e];rfl)) (λcs fr e2=>?_),k4⟩;injection e2 with _ e2;exact h2 e2
theorem byT_of {b:Nat} {w w':World} (h:Lib.OthersKept 5 (some b) w w'):ByT b w w':=λi o ho hi ht=>h i o ho (λe=>hi (by injection e)) ht
theorem Bld.blk {B b:Nat} {l:Bs} {w:World} (h:Bld B b l w):∃cs,w.heap[b]?=some (.cells cs 81 (0,0)):=by
 rcases h with ⟨_,v,h,_⟩|⟨_,v,h,_⟩
 ·exact⟨_,h⟩
 ·exact⟨_,h⟩
theorem Bld.keep {B b:Nat} {l:Bs} {w w':World} (h:Bld B b l w) (hk:∀g o,w.heap[g]?=some o->(g=b∨∃cs fr,o=.cells cs 5 fr)->w'.heap[g]?=some o):Bld B b l w':=by
 have key:∀p,Lib.BuilderAt 81 5 B b p (Lib.byteCells l) w->Lib.BuilderAt 81 5 B b p (Lib.byteCells l) w':=by
  rintro p ⟨h1,v,h2,h3,h4⟩;refine⟨h1,v,hk _ _ h2 (.inl rfl),⟨h3.1,?_⟩,h4⟩;rcases h3.2 with hn|⟨g,cap,cur,k1,k2,k3,k4⟩
  ·exact .inl hn
  ·exact .inr ⟨g,cap,cur,k1,k2,hk _ _ k3 (.inr ⟨_,_,rfl⟩),k4⟩
 rcases h with h|h
 ·exact .inl (key _ h)
 ·exact .inr (key _ h)
structure PlM (w:World) (b:Nat) (va vb:Value) (bs:Bs) (W:World):Prop where
 d:W.heap[w.heap.size]?=some (xX va vb)
 bl:Bld b b bs W
 lo:w.heap.size<b
 bel:Below w.heap.size w W
section
variable {w W W':World} {b:Nat} {va vb:Value} {bs bs':Bs}
theorem PlM.below (h:PlM w b va vb bs W) (hb:Below W.heap.size W W'):PlM w b va vb bs W':=
 ⟨xB h.d hb (xG h.d),Bld.keep h.bl λ_ _ ho _=>xB ho hb (xG ho),h.lo,h.bel.trans (hb.mono h.bel.size)⟩
theorem PlM.app (h:PlM w b va vb bs W) {v v':Value} {l l':List Mailsack.Op} (ho:xV 419 3 opF W (w.heap.size+1) v l) (ha:qP 419 3 opF W W' (w.heap.size+1) v v' l'):PlM w b va vb bs W':=by
 obtain⟨cs,hbk⟩:=Bld.blk h.bl;refine⟨ha.keep h.d (ho.far ω),Bld.keep h.bl λg o hg hor=>ha.keep hg ?_,h.lo,ha.bel ho ω h.bel h.bel.size⟩;rcases hor with rfl|⟨cs2,fr,rfl⟩
 ·exact xV.neT ho hbk δ
 ·exact xV.neT ho hg δ
end
theorem PlM.write {w W W':World} {b:Nat} {va vb:Value} {bs bs':Bs} (h:PlM w b va vb bs W) (hl:Bld b b bs' W') (hb:Below b W W'):PlM w b va vb bs' W':=
 ⟨xB h.d hb h.lo,hl,h.lo,h.bel.trans (hb.mono (Nat.le_of_lt h.lo))⟩
structure PlX (w:World) (b:Nat) (va vb:Value) (bs:Bs) (xb:Nat) (x:Wr) (ov:Value) (ops:List Mailsack.Op) (W:World):Prop where
 m:PlM w b va vb bs W
 x:W.heap[xb]?=some (.cells #[.int .i64 x.at_,xO x.data] 118 (0,0))
 o:xV 419 3 opF W (w.heap.size+1) ov ops
section
variable {w W W':World} {b xb:Nat} {va vb ov:Value} {bs bs':Bs} {x:Wr} {ops:List Mailsack.Op}
theorem PlX.below (h:PlX w b va vb bs xb x ov ops W) (hb:Below W.heap.size W W'):PlX w b va vb bs xb x ov ops W':=⟨h.m.below hb,xB h.x hb (xG h.x),h.o.below hb⟩
theorem PlX.drew (h:PlX w b va vb bs xb x ov ops W):PlX w b va vb bs xb x ov ops W.drew:=h.below (Below.refl _ W).drew
theorem PlX.write (h:PlX w b va vb bs xb x ov ops W) (hl:Bld b b bs' W') (hb:Below b W W') (ht:ByT b W W'):PlX w b va vb bs' xb x ov ops W':=by
 obtain⟨cs,hbk⟩:=Bld.blk h.m.bl;refine⟨h.m.write hl hb,ht xb _ h.x (λe=>?_) (λcs fr e=>?_),xV.byT h.o ht hbk δ δ⟩
 ·subst e;have:=h.x;rw[hbk] at this;injection this with this;injection this with _ this;exact absurd this δ
 ·injection e with _ e;exact absurd e δ
end
theorem kX {P:Program} {w w':World} {ops:Array Oper} {rest:List Oper} {o:Oper} {a:Act} {Q:Exit->Act->World->Prop} {t:TypeId} {v vx v':Value} (hgd:o.guard=none) (s x:Operand)
  (ho:o.op=.call {callee:=.builtin .append,args:=#[s,x],argTypes:=#[t,t]}) (hs:a.eval s=v) (hx:a.eval x=vx)
  (hr:(Builtin.append_ #[t,t] o.type #[v,vx]).run P w=.ok v' w')
  (h:wpList P ops Q rest (a.put o.dst v') w'):wpList P ops Q (o::rest) a w:=by
 refine wpList_plain hgd λK hK=>?_;unfold Oper.wp;simp[execOp,ho,resolve,invoke,builtin,hs,hx,hr,Result.andThen];exact hK _ _ h
theorem xHy {d:Dk} {l:List Wr} (h:xBs d=false∨l.length=0):vW d l=1:=by unfold vW;rw[if_pos h]
end Go.Proofs.DS
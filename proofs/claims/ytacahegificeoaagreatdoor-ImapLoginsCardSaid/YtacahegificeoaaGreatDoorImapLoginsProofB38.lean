/- What index.Append returns, at arguments that are right. Conditions: the slices read as the index; lengths. -/
import Derived.Test.YtacahegificeoaaGreatDoorImapLoginsProofB37
set_option maxHeartbeats 8000000
set_option maxRecDepth 100000
namespace Mailsack
theorem xWz {α:Type} (p:α->Bool):∀l:List α,-1<=jE p l
 |[]=>by rw[jE];omega
 |x::l=>by
  have:=xWz p l;rw[jE];split
  ·omega
  ·split<;>omega
theorem xM2 {α:Type} (p:α->Bool):∀(l:List α),0<=jE p l->∃x,l[(jE p l).toNat]?=some x/\p x=true
 |[],h=>by rw[jE] at h;omega
 |x::l,h=>by
  rw[jE] at h⊢
  by_cases hx:p x=true
  ·rw[if_pos hx];exact⟨x,rfl,hx⟩
  ·rw[if_neg hx] at h⊢
   by_cases hn:jE p l<0
   ·rw[if_pos hn] at h;omega
   ·rw[if_neg hn];obtain⟨y,h1,h2⟩:=xM2 p l ω;exact⟨y,by rw[show(jE p l+1).toNat=(jE p l).toNat+1 by omega];simpa using h1,h2⟩
theorem xRw {x:yD} (h:zI x=true):∀b∈x.boxes,1<=b.next/\b.next<=4294967295:=by
 unfold zI at h;simp only[Bool.and_eq_true,decide_eq_true_eq] at h;intro b hb;have:=xE9 h.1.1.2 b hb;unfold rQ xNp at this;simp only[Bool.and_eq_true,decide_eq_true_eq] at this;exact this.1.1.2
theorem xUx (l:List jV) (k:Nat):uL (l.take k)<=uL l:=by
 have e:=List.take_append_drop k l;have:uL (l.take k++l.drop k)=uL (l.take k)+uL (l.drop k):=by unfold uL;rw[List.map_append,List.sum_append]
 rw[e] at this;omega
theorem xVm {x:yD} (h:zI x=true):uL x.boxes<=30:=by
 unfold zI at h;simp only[Bool.and_eq_true,decide_eq_true_eq] at h;exact h.2
end Mailsack
namespace Go.Proofs.IX
open Go.RowKit Mailsack MM BB SH SV RK DS Go.Proofs.ST
theorem vG.rows {w:World} {B:Nat} {v:Value} {L:List uH} (h:vG w B v L):RdR 4 maF w B v L:=by
 obtain⟨A,c,h1,h2,h3⟩:=h;refine⟨A,c,h1,h2,λhn=>?_⟩;obtain⟨b,off,h4,h5,h6⟩:=h3 hn;refine⟨b,off,h4,h5,λj x hx i u hu=>?_⟩;obtain⟨k0,k1,k2,k3⟩:=h6 j x hx
 match i,hu with
 |0,hu=>simp at hu;subst hu;exact k0
 |1,hu=>simp at hu;subst hu;exact k1
 |2,hu=>simp at hu;subst hu;exact k2
 |3,hu=>simp at hu;subst hu;exact k3
 |n+4,hu=>simp at hu
theorem xV.typ {α:Type} {e:TypeId} {k:Nat} {f:α->List Value} {w:World} {base:Nat} {v:Value} {l:List α} (h:xV e k f w base v l) {g:Nat} (hv:v.ownBlock=some g):∃cs,w.heap[g]?=some (.cells cs e (0,0)):=by
 rcases h.2 with ⟨rfl,_⟩|⟨g',cap,cur,rfl,h2,h3,h4⟩
 ·cases hv
 ·have:g'=g:=by simpa[Value.ownBlock] using hv
  subst this;exact⟨_,h3⟩
structure ApJ (w w5:World) (sv:Value) (gv:Int) (mo:uH) (bl:List wW) (at_:Nat) (p:wW) (L:Nat->Bool) (α:Nat->Value) (W:World):Prop where
 bel:Below w.heap.size w W
 st:L 13=false->Below w5.heap.size w5 W
 o:W.heap[w.heap.size+1]?=some (ixO (.slice none 0 0) (.slice none 0 0) 0)
 c:L 8=true->∃A k,α 8=.slice A p.b.yB.length k/\(L 11=false->xV 122 4 maF W w5.heap.size (.slice A p.b.yB.length k) p.b.yB)
 s:L 10=true->∃g,α 10=.slice (some ⟨g,0,none⟩) 1 1/\(L 11=false->RdR 4 maF W W.heap.size (.slice (some ⟨g,0,none⟩) 1 1) [mo])
 p:L 11=true->∃A k,α 11=.slice A (p.b.yB.length+1) k/\xV 122 4 maF W w5.heap.size (.slice A (p.b.yB.length+1) k) (p.b.yB++[mo])/\(L 12=true->∃g j,α 12=.agg #[.slice (some ⟨g,0,none⟩) bl.length j,sv,.int .i64 gv]/\xV 68 4 bxF W w5.heap.size (.slice (some ⟨g,0,none⟩) bl.length j) (bl.set at_ ⟨⟨p.b.name,p.b.validity,p.b.next,p.b.yB++[mo]⟩,A,k⟩)/\(L 13=true->W.heap[w.heap.size]?=some (ixO (.slice (some ⟨g,0,none⟩) bl.length j) sv gv)))
theorem ApJ.congr {w w5:World} {sv:Value} {gv:Int} {mo:uH} {bl:List wW} {at_:Nat} {p:wW} {L L':Nat->Bool} {α α':Nat->Value} {W:World} (h:ApJ w w5 sv gv mo bl at_ p L α W) (hl:∀i,i=13∨i=8∨i=10∨i=11∨i=12->L i=L' i) (ha:∀i,i=8∨i=10∨i=11∨i=12->L i=true->α i=α' i):ApJ w w5 sv gv mo bl at_ p L' α' W:=by
 have l8:=hl 8 σ;have l10:=hl 10 σ;have l11:=hl 11 σ;have l12:=hl 12 σ;have l13:=hl 13 σ;refine⟨h.bel,λe=>h.st (l13.trans e),h.o,λe=>?_,λe=>?_,λe=>?_⟩
 ·rw[<-ha 8 σ (l8.trans e),<-l11];exact h.c (l8.trans e)
 ·rw[<-ha 10 σ (l10.trans e),<-l11];exact h.s (l10.trans e)
 ·obtain⟨A,k,h1,h2,h3⟩:=h.p (l11.trans e);refine⟨A,k,by rw[<-ha 11 σ (l11.trans e)];exact h1,h2,λe12=>?_⟩;obtain⟨g,j,h4,h5,h6⟩:=h3 (l12.trans e12);exact⟨g,j,by rw[<-ha 12 σ (l12.trans e12)];exact h4,h5,λe13=>h6 (l13.trans e13)⟩
def xR2 (x:yD) (n:Bs) (ob sz fl:Int) (w:World) (bl:List wW) (sv:Value) (e:Ending) (w':World):Prop:=
 ∃bv' sv',e=.returned (.tuple #[.agg #[bv',sv',.int .i64 (xK7 x n ob sz fl).given],.int .i64 (xZ4 x n ob sz fl),.int .i64 (xMm x n ob sz fl)])/\xHk w' w'.heap.size bv' sv' (xK7 x n ob sz fl)/\Below w.heap.size w w'/\∀base,base<=w.heap.size->(∀p∈bl,xV 122 4 maF w base p.mv p.b.yB)->xV 9 1 txF w base sv x.subs->uT base w' bv' sv' (xK7 x n ob sz fl)
theorem xVp (w:World):xHk w w.heap.size (.slice none 0 0) (.slice none 0 0) ⟨[],[],0⟩:=
 ⟨⟨none,0,rfl,Nat.le_refl _,λh=>absurd h δ⟩,⟨none,0,rfl,Nat.le_refl _,λh=>absurd h δ⟩⟩
theorem xR2.bad {x:yD} {n:Bs} {ob sz fl:Int} {w w':World} {er:Int} {bl:List wW} {sv:Value} (he:xMm x n ob sz fl=er) (hn:er≠0) (hb:Below w.heap.size w w'):xR2 x n ob sz fl w bl sv (.returned (.tuple #[.agg #[.slice none 0 0,.slice none 0 0,.int .i64 0],.int .i64 0,.int .i64 er])) w':=by
 have h1:xK7 x n ob sz fl=⟨[],[],0⟩:=by unfold xK7;rw[he,if_neg hn]
 have h2:xZ4 x n ob sz fl=0:=by unfold xZ4;rw[he,if_neg hn]
 exact⟨_,_,by rw[h1,h2,he],by rw[h1];exact xVp _,hb,λbase _ _ _=>by rw[h1];exact⟨⟨[],rfl,xV.nil _ _,λ_ h=>nomatch h⟩,xV.nil _ _⟩⟩
theorem xOv (bv sv:Value) (x:yD) (n:Bs) (ob sz fl:Int) (w:World) (h:xHk w w.heap.size bv sv x) (bl:List wW) (hbl:x.boxes=bl.map (·.b)) (hrd:RdR 4 bxF w w.heap.size bv bl) (hms:∀p∈bl,vG w w.heap.size p.mv p.b.yB) (hr:zI x=true) (hk:qI ob sz fl=true):
  Calls Tryz.prog 41 #[.agg #[bv,sv,.int .i64 x.given],xO n,.int .i64 ob,.int .i64 sz,.int .i64 fl] w (xR2 x n ob sz fl w bl sv):=by
 obtain⟨l1,l2,l3,_⟩:=xAn hr;have HTO:=ι (xVm hr);have HL3:=ι l3;have HNX:=ι (xRw hr);have HM:=ι (xQu w bv sv x.given);have HRT:=ι (λW (hb:Below w.heap.size w W)=>wE bv sv x W ((h.below hb ν).more hb.size) (λb hb=>by have:=(l3 b hb).2;omega) ω ω);have HML:=ι (λW=>rZ ob sz fl W)
 have HFD:=ι (λW (hb:Below w.heap.size w W)=>xFe bv sv x n W ((h.below hb ν).more hb.size) ω);rw[hr] at HRT;rw[hk] at HML
 have HE:Hid (xMm x n ob sz fl=if xD5 x n<0 then 6 else if 30<=uL x.boxes then 9 else if 4294967295<=(xTe x n).next then 5 else 0):=ι (by unfold xMm;rw[hr,hk,if_neg δ]);have HBAD:=ι (λer (he:xMm x n ob sz fl=er) hn w' hb=>xR2.bad (w:=w) (w':=w') (bl:=bl) (sv:=sv) he hn hb)
 have HGE:Hid (-1<=xD5 x n):=ι (xWz _ _)
 have HSM:Hid (0<=xD5 x n->∃b,x.boxes[(xD5 x n).toNat]?=some b/\xTe x n=b):=ι (λh0=>by
  obtain⟨b,h1,h2⟩:=xM2 (λb:jV=>b.name==n) x.boxes h0
  exact⟨b,h1,by
   unfold xTe;rw[List.getD_eq_getElem?_getD];show(x.boxes[(xD5 x n).toNat]?).getD _=b;rw[show x.boxes[(xD5 x n).toNat]?=some b from h1]
   rfl⟩)
 have HX:=ι h;have HBL:=ι hbl;have HMS:=ι hms;have HRD:=ι hrd;obtain⟨A1,c1,rfl,hc1,_⟩:=id hrd;obtain⟨A2,c2,rfl,hc2,_⟩:=h.subs;have hlen:bl.length=x.boxes.length:=by rw[hbl,List.length_map]
 have hl6:bl.length<=6:=by omega
 generalize hfi:xD5 x n=fi at HFD HE HGE HSM;have HFI:=ι hfi;clear h hr hk l1 l2 l3 hbl hms hrd hfi hlen;go_enter Tryz.func41,Tryz.ntmps41;go_upto_region 1 with fail
 obtain⟨w1,hw1⟩:∃w1,(w.alloc (ixO (.slice A1 bl.length c1) (.slice A2 x.subs.length c2) x.given)).alloc (ixO (.slice none 0 0) (.slice none 0 0) 0)=w1:=⟨_,rfl⟩;rw[hw1] at HM;simp only[ixO] at hw1;rw[hw1];clear hw1;have hx:=HM.o.x;obtain⟨s0,s1,s2⟩:=xH1 hx;clear hx;go_wp2_with fail
 refine(HRT.o _ HM.o.bel).mono ?_;rintro e w2 ⟨rfl,hb2⟩;have HM:=ι (HM.o.below hb2);clear hb2 HRT s0 s1 s2;go_wp2_with fail
 refine(HML.o _).mono ?_;rintro e w3 ⟨rfl,hw3⟩;rw[hw3];clear hw3 w3 HML;have hx:=HM.o.x;obtain⟨s0,s1,s2⟩:=xH1 hx;clear hx;go_wp2_with fail
 refine(HFD.o _ HM.o.bel).mono ?_;rintro e w3 ⟨rfl,hb3⟩;have HM:=ι (HM.o.below hb3);clear hb3 HFD s0 s1 s2
 by_cases hneg:fi<0
 ·rw[if_pos hneg] at HE;have HQ:=ι (HBAD.o 6 HE.o δ);clear HBAD HSM HGE HX HBL HMS HRD HE HFI;go_upto_region 5 with fail
  have hob:=HM.o.o;have hbb:=HM.o.bel;obtain⟨o0,y0,f0,o1,y1,f1,o2,y2,f2,HB⟩:=xMd hob hbb ω (.slice none 0 0) (.slice none 0 0) (.int .i64 0) _ rfl;clear hob hbb HM;go_wp2
  refine bodyPost_ret (v:=.tuple #[.agg #[.slice none 0 0,.slice none 0 0,.int .i64 0],.int .i64 0,.int .i64 6]) (by simp[results,Tryz.results41,go_sem,f0,f1,f2]) rfl ?_;exact HQ.o _ HB.o
 ·rw[if_neg hneg] at HE;obtain⟨at_,rfl⟩:∃a:Nat,fi=(a:Int):=⟨fi.toNat,ω⟩;obtain⟨b,hb1,hb2⟩:=HSM.o ω;rw[Int.toNat_natCast] at hb1;rw[hb2] at HE;have HBX:=ι hb2;have HB1:=ι hb1;clear HSM HGE hb1 hb2;have hx:=HM.o.x;obtain⟨s0,s1,s2⟩:=xH1 hx;clear hx;go_wp2_with fail
  clear s0 s1 s2;have HTT:Hid (∀k q,bl[k]?=some q->uL (x.boxes.take (k+1))=uL (x.boxes.take k)+q.b.yB.length):=ι (λk q hq=>xFp (by rw[HBL.o,List.getElem?_map,hq];rfl))
  have HT6:Hid (∀k,uL (x.boxes.take k)<=100000):=ι (λk=>by
   have:=xUx x.boxes k;have:=HTO.o;omega)
  go_loopw [14,39] (λtv iv wr=>∃k:Nat,k<=bl.length/\iv=.int .i64 k/\tv=.int .i64 (uL (x.boxes.take k):Nat)/\Hid (ApM w (.slice A1 bl.length c1) (.slice A2 x.subs.length c2) x.given wr)) (λ_ iv _=>bl.length- (intOf iv).toNat)
  case atStart=>exact⟨0,Nat.zero_le _,rfl,rfl,HM⟩
  case round=>
   obtain⟨k,hk,rfl,rfl,HM⟩:=hrel
   by_cases hlt:k<bl.length
   ·obtain⟨q,hq⟩:∃q,bl[k]?=some q:=⟨_,List.getElem?_eq_getElem hlt⟩;obtain⟨A,c,e,_,h3⟩:=HRD.o;injection e with e _ e2;subst e e2;obtain⟨g,off,rfl,hg,h6⟩:=h3 ω;have qq:=λi u hu=>(HM.o.bel.cell (p:=⟨g,off+k*4+i,none⟩) hg).trans (h6 k q hq i u hu)
    have q0:wr.cell? ⟨g,off+k*4,none⟩=some (xO q.b.name):=qq 0 _ rfl;have q1:wr.cell? ⟨g,off+k*4+1,none⟩=some (.int .i64 q.b.validity):=qq 1 _ rfl;have q2:wr.cell? ⟨g,off+k*4+2,none⟩=some (.int .i64 q.b.next):=qq 2 _ rfl
    have q3:wr.cell? ⟨g,off+k*4+3,none⟩=some (.slice q.A q.b.yB.length q.c):=qq 3 _ rfl;have hB:=xL wr (.cells #[xO q.b.name,.int .i64 q.b.validity,.int .i64 q.b.next,.slice q.A q.b.yB.length q.c] 68);have r3:=xA hB 3;simp only[gA,gB,gC] at r3
    have HM2:=ι (HM.o.below ((Below.refl wr.heap.size wr).alloc ν (.cells #[xO q.b.name,.int .i64 q.b.validity,.int .i64 q.b.next,.slice q.A q.b.yB.length q.c] 68)));have HTK:=ι (HTT.o k q hq);have htk:=HT6.o (k+1);rw[HTK.o] at htk;clear hB qq h6 hq
    generalize uL (x.boxes.take k)=tk at HTK htk;generalize q.b.yB.length=qm at q3 r3 HM2 HTK htk;go_wp2;exact⟨⟨k+1,ω,by go_num,by rw[HTK.o];go_num,HM2⟩,by simp[intOf];omega⟩
   ·obtain rfl:k=bl.length:=by omega
    rw[show x.boxes.take bl.length=x.boxes by rw[HBL.o,<-List.length_map (f:=λq:wW=>q.b)];exact List.take_length];have hto:=HTO.o;clear HTT HT6
    by_cases h30:30<=uL x.boxes
    ·rw[if_pos h30] at HE;have HQ:=ι (HBAD.o 9 HE.o δ);have yEs:(30:Int)<=((uL x.boxes:Nat):Int):=by omega
     generalize uL x.boxes=tot at yEs hto⊢;clear HBAD HX HBL HMS HRD HE HFI h30 HB1 HBX hlt;go_upto_region 13 with fail
     have hob:=HM.o.o;have hbb:=HM.o.bel;obtain⟨o0,y0,f0,o1,y1,f1,o2,y2,f2,HB⟩:=xMd hob hbb ω (.slice none 0 0) (.slice none 0 0) (.int .i64 0) _ rfl;clear hob hbb HM;go_wp2
     refine bodyPost_ret (v:=.tuple #[.agg #[.slice none 0 0,.slice none 0 0,.int .i64 0],.int .i64 0,.int .i64 9]) (by simp[results,Tryz.results41,go_sem,f0,f1,f2]) rfl ?_;exact HQ.o _ HB.o
    ·rw[if_neg h30] at HE;have yEs:¬(30:Int)<=((uL x.boxes:Nat):Int):=by omega
     generalize uL x.boxes=tot at yEs hto⊢
     obtain⟨p,hp,rfl⟩:∃p,bl[at_]?=some p/\p.b=b:=by
      have:=HB1.o;rw[HBL.o,List.getElem?_map] at this;obtain⟨p,h1,h2⟩:=Option.map_eq_some_iff.1 this;exact⟨p,h1,h2⟩
     have hat:=(List.getElem?_eq_some_iff.1 hp).1;obtain⟨A,c,e,_,h3⟩:=HRD.o;injection e with e _ e2;subst e e2;obtain⟨g,off,rfl,hg,h6⟩:=h3 ω
     have q2:wr.cell? ⟨g,off+at_*4+2,none⟩=some (.int .i64 p.b.next):=by
      exact(HM.o.bel.cell (p:=⟨g,off+at_*4+2,none⟩) hg).trans (h6 at_ p hp 2 _ rfl)
     have Q3:Hid (wr.cell? ⟨g,off+at_*4+3,none⟩=some (.slice p.A p.b.yB.length p.c)):=ι ((HM.o.bel.cell (p:=⟨g,off+at_*4+3,none⟩) hg).trans (h6 at_ p hp 3 _ rfl))
     have HML30:Hid (p.b.yB.length<=30):=ι (HL3.o p.b (by rw[HBL.o];exact List.mem_map_of_mem (List.mem_of_getElem? hp))).2;have hnx1:1<=p.b.next:=(HNX.o p.b (by rw[HBL.o];exact List.mem_map_of_mem (List.mem_of_getElem? hp))).1;have HP:=ι hp
     have HPM:=ι (HMS.o p (List.mem_of_getElem? hp)).rows;have hx:=HM.o.x;obtain⟨s0,s1,s2⟩:=xH1 hx;clear hx h6 hp h30 hlt
     by_cases hnx:4294967295<=p.b.next
     ·rw[if_pos hnx] at HE;have HQ:=ι (HBAD.o 5 HE.o δ);clear HBAD HX HBL HMS HRD HE HFI HB1 HBX HPM HP;generalize p.b.next=pn at hnx q2;go_upto_region 16 with fail
      have hob:=HM.o.o;have hbb:=HM.o.bel;obtain⟨o0,y0,f0,o1,y1,f1,o2,y2,f2,HB⟩:=xMd hob hbb ω (.slice none 0 0) (.slice none 0 0) (.int .i64 0) _ rfl;clear hob hbb HM;go_wp2
      refine bodyPost_ret (v:=.tuple #[.agg #[.slice none 0 0,.slice none 0 0,.int .i64 0],.int .i64 0,.int .i64 5]) (by simp[results,Tryz.results41,go_sem,f0,f1,f2]) rfl ?_;exact HQ.o _ HB.o
     ·rw[if_neg hnx] at HE;clear HBAD
      have q3:(wr.alloc (.cells #[.int .i64 p.b.next,.int .i64 fl,.int .i64 ob,.int .i64 sz] 122)).cell? ⟨g,off+at_*4+3,none⟩=some (.slice p.A p.b.yB.length p.c):=(((Below.refl wr.heap.size wr).alloc ν _).cell (p:=⟨g,off+at_*4+3,none⟩) (Nat.lt_of_lt_of_le hg HM.o.bel.size)).trans Q3.o
      have HM5:=ι (And.intro (HM.o.below ((Below.refl wr.heap.size wr).alloc ν (.cells #[.int .i64 p.b.next,.int .i64 fl,.int .i64 ob,.int .i64 sz] 122))) (xL wr (.cells #[.int .i64 p.b.next,.int .i64 fl,.int .i64 ob,.int .i64 sz] 122)));go_upto_region 18 with fail
      obtain⟨w5,hw5⟩:∃w5,wr.alloc (.cells #[.int .i64 p.b.next,.int .i64 fl,.int .i64 ob,.int .i64 sz] 122)=w5:=⟨_,rfl⟩;rw[hw5] at HM5 q3;rw[hw5];clear hw5 s0 s1 s2 q2;have hg5:g<w5.heap.size:=Nat.lt_of_lt_of_le hg HM5.o.1.bel.size;have HG5:=ι (And.intro hg5 q3)
      clear hg5 q3 Q3;generalize wr.heap.size=mb at HM5⊢
      refine RG.uB [13] [8,10,11,12] (λL α W=>Hid (ApJ w w5 (.slice A2 x.subs.length c2) x.given ⟨p.b.next,fl,ob,sz⟩ bl at_ p L α W)) (λL L' α α' W hl ha h=>ι (h.o.congr (λi hi=>hl i (by simp;omega)) (λi hi=>ha i (by simp;omega)))) κ κ κ (ι ⟨HM5.o.1.bel.drew,λ_=>(Below.refl _ _).drew,HM5.o.1.o,λe=>(by cases e),λe=>(by cases e),λe=>(by cases e)⟩) ?_
      iterate 8
       apply RG.uA
       ·rfl
       ·rfl
       ·intro α L w9 h0 hcl xN hw9;have hb5:=hw9.o.st (hcl.not 14 (i:=13) h0 κ);have hx:=xB HM5.o.1.x hb5 (xG HM5.o.1.x);have s0:=xA hx 0;have s1:=xA hx 1;have s2:=xA hx 2;have hm:=xB HM5.o.2 hb5 (xG HM5.o.2);have m0:=xA hm 0;have m1:=xA hm 1;have m2:=xA hm 2
        have m3:=xA hm 3;simp only[gA,gB,gC] at s0 s1 s2 m0 m1 m2 m3;have q3:=(hb5.cell (p:=⟨g,off+at_*4+3,none⟩) HG5.o.1).trans HG5.o.2;clear hx hm hb5;repeat go_step
        with_reducible exact RG.xD hw9
       ·intro α;rfl
      apply RG.qL
      ·rfl
      ·intro α L w9 h0 hcl xN hw9;have e13:L 13=false:=hcl.not 14 (i:=13) h0 κ;have e11:L 11=false:=hcl.not 14 (i:=11) h0 κ;have hb5:=hw9.o.st e13;have HRM:=ι (HPM.o.below (HM5.o.1.bel.trans (hb5.mono HM5.o.1.bel.size)) ν);repeat go_step
       refine(xT8 _ p.b.yB w9 _ (Nat.le_trans HM5.o.1.bel.size hb5.size) HRM.o (by have:=HML30.o;omega)).mono ?_;rintro e w10 ⟨v',rfl,hov,hbv⟩;obtain⟨A',k',rfl,_⟩:=hov.form;simp only[];repeat go_step
       refine⟨rfl,_,rfl,?_⟩;refine ι ⟨hw9.o.bel.trans (hbv.mono hw9.o.bel.size),λ_=>hb5.trans (hbv.mono hb5.size),xB hw9.o.o hbv (xG hw9.o.o),λ_=>⟨A',k',RG.zF _ _ _,λ_=>hov.less hb5.size⟩,λe=>?_,λe=>absurd (show L 11=true by simpa using e) (by rw[e11];simp)⟩
       obtain⟨gs,n1,n2⟩:=hw9.o.s (by simpa using e);exact⟨gs,n1,λ_=>((n2 e11).below hbv ν).more hbv.size⟩
      ·intro b α;rfl
      apply RG.uA
      ·rfl
      ·rfl
      ·intro α L w9 h0 hcl xN hw9;have hb5:=hw9.o.st (hcl.not 14 (i:=13) h0 κ);have hx:=xB HM5.o.1.x hb5 (xG HM5.o.1.x);have s0:=xA hx 0;have s1:=xA hx 1;have s2:=xA hx 2;have hm:=xB HM5.o.2 hb5 (xG HM5.o.2);have m0:=xA hm 0;have m1:=xA hm 1;have m2:=xA hm 2
       have m3:=xA hm 3;simp only[gA,gB,gC] at s0 s1 s2 m0 m1 m2 m3;clear hx hm hb5;repeat go_step
       with_reducible exact RG.xD hw9
      ·intro α;rfl
      apply RG.jC
      ·rfl
      ·intro α L w9 h0 hcl xN hw9;have e13:L 13=false:=hcl.not 14 (i:=13) h0 κ;have e11:L 11=false:=hcl.not 14 (i:=11) h0 κ;have hb5:=hw9.o.st e13;have hal:=(Below.refl w9.heap.size w9).alloc ν (.cells #[.int .i64 p.b.next,.int .i64 fl,.int .i64 ob,.int .i64 sz] 122)
       have HAL:=ι hal;have HRL:=ι (RdR.lit (m:=[(⟨p.b.next,fl,ob,sz⟩:uH)]) (e:=122) xC7 w9 #[.int .i64 p.b.next,.int .i64 fl,.int .i64 ob,.int .i64 sz] rfl);clear hal;refine⟨.slice (some ⟨w9.heap.size,0,none⟩) 1 1,λbv hbv=>?_⟩;repeat go_step
       rw[<-hbv];with_reducible refine RG.xD ?_
       refine ι ⟨hw9.o.bel.trans (HAL.o.mono hw9.o.bel.size),λ_=>hb5.trans (HAL.o.mono hb5.size),xB hw9.o.o HAL.o (xG hw9.o.o),λe=>?_,λ_=>⟨w9.heap.size,(RG.zF _ _ _).trans hbv,λ_=>HRL.o.more σ⟩,λe=>absurd (show L 11=true by simpa using e) (by rw[e11];simp)⟩
       obtain⟨A,k,n1,n2⟩:=hw9.o.c (by simpa using e);exact⟨A,k,n1,λ_=>(n2 e11).below HAL.o⟩
      ·intro b α;rfl
      apply RG.qL
      ·rfl
      ·intro α L w9 h0 hcl xN hw9
       have f8:L 8=true:=by
        have:=xN.yes 14 (i:=11) (j:=8) σ κ;simpa using this
       have f10:L 10=true:=by
        have:=xN.yes 14 (i:=11) (j:=10) σ κ;simpa using this
       have e13:L 13=false:=hcl.not 14 (i:=13) h0 κ;have e12:L 12=false:=hcl.not 14 (i:=12) h0 κ;have hb5:=hw9.o.st e13;obtain⟨A,k,q1,q2⟩:=hw9.o.c f8;obtain⟨gs,n1,n2⟩:=hw9.o.s f10;have HO:=ι (q2 h0);have HRS:=ι (n2 h0);have Q1:=ι q1;have N1:=ι n1;clear q1 q2 n1 n2
       refine zY tyMa rfl _ _ rfl Q1.o N1.o HO.o HRS.o (by have:=HML30.o;simp;omega) hb5.size ?_;intro v' w10 h8;obtain⟨A',k',hv',_⟩:=h8.own.form;rw[show(p.b.yB++[(⟨p.b.next,fl,ob,sz⟩:uH)]).length=p.b.yB.length+1 by simp] at hv';subst hv';refine⟨rfl,_,rfl,?_⟩
       have hnw:∀o:Nat,o<w5.heap.size->∀ob',w9.heap[o]?=some ob'->w10.heap[o]?=some ob':=λo ho ob' h=>h8.keep h (HO.o.far ho)
       exact ι ⟨h8.bel HO.o (Nat.le_of_lt (Nat.lt_of_lt_of_le (xG HM5.o.1.x) ν)) hw9.o.bel hw9.o.bel.size,λ_=>h8.bel HO.o ν hb5 hb5.size,hnw _ (xG HM5.o.1.o) _ hw9.o.o,λe=>⟨A,k,Q1.o,λe=>by simp at e⟩,λe=>⟨gs,N1.o,λe=>by simp at e⟩,λ_=>⟨A',k',RG.zF _ _ _,h8.own,λe=>absurd (show L 12=true by simpa using e) (by rw[e12];simp)⟩⟩
      ·intro b α;rfl
      apply RG.qL
      ·rfl
      ·intro α L w9 h0 hcl xN hw9
       have f11:L 11=true:=by
        have:=xN.yes 14 (i:=12) (j:=11) σ κ;simpa using this
       have e13:L 13=false:=hcl.not 14 (i:=13) h0 κ;have hb5:=hw9.o.st e13;obtain⟨A,k,q1,q2,_⟩:=hw9.o.p f11;have HO:=ι q2;have Q1:=ι q1;have HRB:=ι ((HRD.o.below (HM5.o.1.bel.trans (hb5.mono HM5.o.1.bel.size)) ν).more (Nat.le_trans HM5.o.1.bel.size hb5.size))
       have hwi:=xZc (.slice (some ⟨g,off,none⟩) bl.length c1) (.slice A2 x.subs.length c2) bl x.given at_ p (p.b.yB++[⟨p.b.next,fl,ob,sz⟩]) A k w9 HRB.o ω A2 x.subs.length c2 rfl HP.o;rw[show(p.b.yB++[(⟨p.b.next,fl,ob,sz⟩:uH)]).length=p.b.yB.length+1 by simp] at hwi
       have HWI:=ι hwi;clear q1 q2 hwi;rw[show α (0+1+1+1+1+1+1+1+1+1+1+1)=_ from Q1.o];repeat go_step
       refine HWI.o.mono ?_;rintro e w10 ⟨gg,j,rfl,hbo,hbw⟩;have HBO:=ι hbo;clear hbo;simp only[];repeat go_step
       refine⟨rfl,_,rfl,?_⟩
       refine ι ⟨hw9.o.bel.trans (hbw.mono hw9.o.bel.size),λ_=>hb5.trans (hbw.mono hb5.size),xB hw9.o.o hbw (xG hw9.o.o),λe=>?_,λe=>?_,λ_=>⟨A,k,(RG.vP _ _ _ δ).trans Q1.o,HO.o.below hbw,λ_=>⟨gg,j,RG.zF _ _ _,HBO.o.less hb5.size,λe=>absurd (show L 13=true by simpa using e) (by rw[e13];simp)⟩⟩⟩
       ·obtain⟨A',k',n1,_⟩:=hw9.o.c (by simpa using e);exact⟨A',k',n1,λe=>absurd (show L 11=false by simpa using e) (by rw[f11];simp)⟩
       ·obtain⟨gs,n1,_⟩:=hw9.o.s (by simpa using e);exact⟨gs,n1,λe=>absurd (show L 11=false by simpa using e) (by rw[f11];simp)⟩
      ·intro b α;rfl
      apply RG.rU (v:=undef)
      ·rfl
      ·rfl
      ·intro α L w9 h0 hcl xN hw9
       have f11:L 11=true:=by
        have:=xN.yes 14 (i:=13) (j:=11) σ κ;simpa using this
       have f12:L 12=true:=by
        have:=xN.yes 14 (i:=13) (j:=12) σ κ;simpa using this
       have hb5:=hw9.o.st h0;obtain⟨A,k,q1,q2,q3⟩:=hw9.o.p f11;obtain⟨gg,j,r1,r2,_⟩:=q3 f12;have hx:=xB HM5.o.1.x hb5 (xG HM5.o.1.x)
       have hne:∀(ty:TypeId) (q:Nat) cs,ty≠28->w9.heap[q]?=some (.cells cs ty (0,0))->q≠w.heap.size:=λty q cs hty hq e=>by
        subst e;rw[hx] at hq;injection hq with hq;injection hq with _ hq;exact hty hq.symm
       have hs:=yU (b:=w.heap.size) (l:=[.slice (some ⟨gg,0,none⟩) bl.length j,.slice A2 x.subs.length c2,.int .i64 x.given]) hx rfl
       have hB:=xZ (b:=w.heap.size) (B:=w.heap.size) ν [.slice (some ⟨gg,0,none⟩) bl.length j,.slice A2 x.subs.length c2,.int .i64 x.given] 0 _ hw9.o.bel
       have ho:=xM (b:=w.heap.size) (show w.heap.size+1≠w.heap.size by omega) [.slice (some ⟨gg,0,none⟩) bl.length j,.slice A2 x.subs.length c2,.int .i64 x.given] 0 _ hw9.o.o
       have HOM:=xV.rE q2 (λq cs hq=>xM (b:=w.heap.size) (hne _ q cs δ hq) [.slice (some ⟨gg,0,none⟩) bl.length j,.slice A2 x.subs.length c2,.int .i64 x.given] 0 _ hq)
       have HOB:=xV.rE r2 (λq cs hq=>xM (b:=w.heap.size) (hne _ q cs δ hq) [.slice (some ⟨gg,0,none⟩) bl.length j,.slice A2 x.subs.length c2,.int .i64 x.given] 0 _ hq);simp only[xU,Nat.reduceAdd] at hs hB ho HOM HOB;have o0:=xA hx 0;have y0:=xC hx 0;have o1:=xA hx 1
       have y1:=xC hx 1;have o2:=xA hx 2;have y2:=xC hx 2;simp only[gA,gB,gC] at o0 o1 o2;have HS:=ι hs;have HB:=ι hB;have HO:=ι ho;have HM7:=ι HOM;have HB7:=ι HOB;have Q1:=ι q1;have R1:=ι r1;clear hs hB ho HOM HOB q1 q2 q3 r1 r2 hx hne
       rw[show α (0+1+1+1+1+1+1+1+1+1+1+1+1)=_ from R1.o];repeat go_step
       rw[<-show α (0+1+1+1+1+1+1+1+1+1+1+1+1)=_ from R1.o];with_reducible refine RG.xD ?_
       refine ι ⟨HB.o,λe=>by simp at e,HO.o,λe=>?_,λe=>?_,λ_=>⟨A,k,Q1.o,HM7.o,λ_=>⟨gg,j,R1.o,HB7.o,λ_=>HS.o⟩⟩⟩
       ·obtain⟨A',k',n1,_⟩:=hw9.o.c (by simpa using e);exact⟨A',k',n1,λe=>absurd (show L 11=false by simpa using e) (by rw[f11];simp)⟩
       ·obtain⟨gs,n1,_⟩:=hw9.o.s (by simpa using e);exact⟨gs,n1,λe=>absurd (show L 11=false by simpa using e) (by rw[f11];simp)⟩
      ·intro α;rfl
      refine RG.pE (λα w6 hw6=>?_);obtain⟨Ac,kc,c1',_⟩:=hw6.o.c rfl;obtain⟨gs,c2',_⟩:=hw6.o.s rfl;obtain⟨A,k,q1,q2,q3⟩:=hw6.o.p rfl;obtain⟨gg,j,r1,r2,r3⟩:=q3 rfl;simp only[Nat.zero_add,Nat.reduceAdd]
      rw[show α 8=_ from c1',show α 10=_ from c2',show α 11=_ from q1,show α 12=_ from r1];have H6:=ι (And.intro q2 (And.intro r2 (And.intro (r3 rfl) (And.intro hw6.o.o hw6.o.bel))));clear hw6 q1 q2 q3 r1 r2 r3 c1' c2'
      have hpn:(bl.set at_ (⟨⟨p.b.name,p.b.validity,p.b.next,p.b.yB++[⟨p.b.next,fl,ob,sz⟩]⟩,A,k⟩:wW))[at_]?=some ⟨⟨p.b.name,p.b.validity,p.b.next,p.b.yB++[⟨p.b.next,fl,ob,sz⟩]⟩,A,k⟩:=List.getElem?_set_self (by have:=(List.getElem?_eq_some_iff.1 HP.o).1;exact this)
      obtain⟨z2,zf,zg,_⟩:=xV.cellAt pQ H6.o.2.1 (g:=gg) rfl (j:=at_) (i:=2) hpn rfl;have zf:=zf (at_*4+2)
      have HPUT:=ι (xV.put pQ H6.o.2.1 (g:=gg) rfl (j:=at_) (i:=2) (x':=(⟨⟨p.b.name,p.b.validity,p.b.next+1,p.b.yB++[⟨p.b.next,fl,ob,sz⟩]⟩,A,k⟩:wW)) (u:=.int .i64 (p.b.next+1)) hpn ω rfl);rw[List.set_set] at HPUT;have hx:=H6.o.2.2.1;have s0:=xQn hx;have hsz:=HM5.o.1.o
      have hsz2:=xG hsz;have HFX:=ι (yA H6.o.2.2.1 (p:=⟨gg,at_*4+2,none⟩) (by show w.heap.size≠gg;omega) (.int .i64 (p.b.next+1)));have HFO:=ι (yA H6.o.2.2.2.1 (p:=⟨gg,at_*4+2,none⟩) (by show w.heap.size+1≠gg;omega) (.int .i64 (p.b.next+1)))
      have HFB:=ι (H6.o.2.2.2.2.setCell (p:=⟨gg,at_*4+2,none⟩) (by show w.heap.size<=gg;omega) (.int .i64 (p.b.next+1)));obtain⟨csb,hcb⟩:=xV.typ H6.o.2.1 (g:=gg) rfl
      have HFM:=ι (xV.rE H6.o.1 (λq cs hq=>yA hq (p:=⟨gg,at_*4+2,none⟩) (λe=>by
       have e:q=gg:=e;subst e;rw[hcb] at hq;injection hq with hq;injection hq with _ hq;exact absurd hq δ) (.int .i64 (p.b.next+1))))
      have hat2:¬(bl.length<=at_):=by omega
      clear hsz hsz2 hx hpn zg hcb;go_upto_region 20 with fail
      obtain⟨w7,hw7⟩:∃w7,w6.setCell ⟨gg,at_*4+2,none⟩ (.int .i64 (p.b.next+1))=w7:=⟨_,rfl⟩;rw[hw7] at HPUT HFX HFO HFB HFM⊢;clear hw7 s0 z2 zf H6;have hx:=HFX.o;obtain⟨s0,s1,s2⟩:=xH1 hx;have hob:=HFO.o;have hbb:=HFB.o
      have hne:∀(ty:TypeId) (q:Nat) cs,ty≠28->w7.heap[q]?=some (.cells cs ty (0,0))->q≠w.heap.size+1:=λty q cs hty hq e=>by
       subst e;rw[hob] at hq;injection hq with hq;injection hq with _ hq;exact hty hq.symm
      have HOM:=xV.rE HFM.o (λq cs hq=>xM (b:=w.heap.size+1) (hne _ q cs δ hq) [.slice (some ⟨gg,0,none⟩) bl.length j,.slice A2 x.subs.length c2,.int .i64 x.given] 0 _ hq)
      have HOB:=xV.rE HPUT.o (λq cs hq=>xM (b:=w.heap.size+1) (hne _ q cs δ hq) [.slice (some ⟨gg,0,none⟩) bl.length j,.slice A2 x.subs.length c2,.int .i64 x.given] 0 _ hq);simp only[xU,Nat.reduceAdd] at HOM HOB;have HM8:=ι HOM;have HB8:=ι HOB;clear HOM HOB hne hx
      obtain⟨o0,y0,f0,o1,y1,f1,o2,y2,f2,HB⟩:=xMd hob hbb ω (.slice (some ⟨gg,0,none⟩) bl.length j) (.slice A2 x.subs.length c2) (.int .i64 x.given) _ rfl;have HZ5:Hid (w.heap.size<=w5.heap.size):=ι HM5.o.1.bel.size;clear hob hbb HPUT HFX HFO HFB HFM HM HM5
      have HAI:Hid (xK7 x n ob sz fl=⟨x.boxes.set at_ ⟨p.b.name,p.b.validity,p.b.next+1,p.b.yB++[⟨p.b.next,fl,ob,sz⟩]⟩,x.subs,x.given⟩):=ι (by unfold xK7;rw[HE.o,if_pos rfl,HFI.o,HBX.o];rfl)
      have HAU:Hid (xZ4 x n ob sz fl=p.b.next):=ι (by unfold xZ4;rw[HE.o,if_pos rfl,HBX.o]);go_wp2
      refine bodyPost_ret (v:=.tuple #[.agg #[.slice (some ⟨gg,0,none⟩) bl.length j,.slice A2 x.subs.length c2,.int .i64 x.given],.int .i64 p.b.next,.int .i64 0]) (by simp[results,Tryz.results41,go_sem,f0,f1,f2]) rfl ?_
      have hbe:x.boxes.set at_ ⟨p.b.name,p.b.validity,p.b.next+1,p.b.yB++[⟨p.b.next,fl,ob,sz⟩]⟩=(bl.set at_ (⟨⟨p.b.name,p.b.validity,p.b.next+1,p.b.yB++[⟨p.b.next,fl,ob,sz⟩]⟩,A,k⟩:wW)).map (·.b):=by rw[List.map_set,<-HBL.o]
      refine⟨_,_,by rw[HAI.o,HAU.o,HE.o],?_,HB.o,λbase hbase hom hos=>?_⟩
      ·rw[HAI.o];refine⟨?_,?_⟩
       ·have hbx:=xK4 (HB8.o.rd pQ) (λq hq=>by
         rcases List.mem_or_eq_of_mem_set hq with hq|rfl
         ·exact((HMS.o q hq).below HB.o ν).more HB.o.size
         ·have:=xFa (HM8.o.rd xC7);show vG _ _ (.slice A (p.b.yB++[(⟨p.b.next,fl,ob,sz⟩:uH)]).length k) _;rw[show(p.b.yB++[(⟨p.b.next,fl,ob,sz⟩:uH)]).length=p.b.yB.length+1 by simp];exact this)
        rw[<-hbe] at hbx;exact hbx
       ·exact(HX.o.subs.below HB.o ν).more HB.o.size
      ·rw[HAI.o];refine⟨⟨_,hbe,by rw[show(Value.slice (some ⟨gg,0,none⟩) bl.length j)=Value.slice (some ⟨gg,0,none⟩) bl.length j from rfl];exact HB8.o.less (Nat.le_trans hbase HZ5.o),λq hq=>?_⟩,hos.below HB.o⟩;rcases List.mem_or_eq_of_mem_set hq with hq|rfl
       ·exact(hom q hq).below HB.o
       ·show xV _ _ _ _ _ (.slice A (p.b.yB++[(⟨p.b.next,fl,ob,sz⟩:uH)]).length k) _;rw[show(p.b.yB++[(⟨p.b.next,fl,ob,sz⟩:uH)]).length=p.b.yB.length+1 by simp];exact HM8.o.less (Nat.le_trans hbase HZ5.o)
theorem xTj (bv sv:Value) (x:yD) (n:Bs) (ob sz fl:Int) (w:World) (base:Nat) (hbase:base<=w.heap.size) (h:uT base w bv sv x) (hr:zI x=true) (hk:qI ob sz fl=true):
  Calls Tryz.prog 41 #[.agg #[bv,sv,.int .i64 x.given],xO n,.int .i64 ob,.int .i64 sz,.int .i64 fl] w λe w'=>∃bv' sv',e=.returned (.tuple #[.agg #[bv',sv',.int .i64 (xK7 x n ob sz fl).given],.int .i64 (xZ4 x n ob sz fl),.int .i64 (xMm x n ob sz fl)])/\uT base w' bv' sv' (xK7 x n ob sz fl)/\Below w.heap.size w w':=by
 obtain⟨bl,e,h1,h2⟩:=h.bo;refine(xOv bv sv x n ob sz fl w h.rd bl e (h1.rd pQ) (λp hp=>xFa ((h2 p hp).rd xC7)) hr hk).mono ?_;rintro e w' ⟨bv',sv',h3,_,h5,h6⟩;exact⟨bv',sv',h3,h6 base hbase h2 h.su,h5⟩
end Go.Proofs.IX
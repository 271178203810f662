/- Contracts of functions. Conditions: as stated. -/
import Derived.Test.YtacahegificeoaaGreatDoorImapLoginsProofB39
set_option maxHeartbeats 8000000
set_option maxRecDepth 100000
namespace Go.Proofs.VA
open Go.RowKit Mailsack MM BB SH SV RK DS IX Go.Proofs.ST Go.Proofs.SE
def xYq (d:Dk) (u xI old:ByteArray) (ep:Int) (x:yD) (xE:ByteArray) (w:World) (va vb:Value) (e:Ending) (w':World):Prop:=
 ∃bv' sv' va' vb',(xO1 d u xI old ep x xE=false->va'=va/\vb'=vb)/\e=.returned (.tuple #[xTv u xI old ep bv' sv' (xYz d u xI old ep x xE).given,.agg #[va',vb']])/\uT 0 w' bv' sv' (xYz d u xI old ep x xE)/\RdD w' w'.heap.size va' vb' (xO0 d u xI old ep x xE)/\Below w.heap.size w w'
structure MgL (w w3:World) (va vb:Value) (so:Obj) (d:Dk) (u xI old:ByteArray) (ep:Int) (x:yD) (N:List Int) (k:Nat) (bv sv tv:Value) (W:World):Prop where
 m:MgP w w3.heap.size va vb so (mgI (mgT d u xI old ep) (N.take k) x) bv sv tv (mgG u (N.take k)) W
 n:mgN (mgT d u xI old ep) 10 N x=k+mgN (mgT d u xI old ep) (10-k) (N.drop k) (mgI (mgT d u xI old ep) (N.take k) x)
 l:xHn (mgI (mgT d u xI old ep) (N.take k) x)
 b:Mid (w.heap.size+5) w3 W
theorem xWa {w:World} {va vb:Value} {so:Obj} {x:yD} {bv sv:Value} (h:uT 0 w bv sv x):MgP w (w.heap.size+5) va vb so x bv sv (.slice none 0 0) [] (((((w.alloc (xX va vb)).alloc so).alloc vJ).alloc vB).alloc (ixO bv sv x.given)):=by
 have h0:=xPw w va vb so;have ha:=(Below.refl _ ((((w.alloc (xX va vb)).alloc so).alloc vJ).alloc vB)).alloc ν (ixO bv sv x.given);have h1:=h0.below ha;have h2:=xL ((((w.alloc (xX va vb)).alloc so).alloc vJ).alloc vB) (ixO bv sv x.given);simp only[World.size_alloc] at h2
 have o1:=h1.o1;have o2:=h1.o2;rw[if_neg σ] at o1 o2;exact⟨h1.d,h1.s,o1,o2,h2,h.below h1.bel,xV.nil _ _,Nat.le_refl _,h1.bel⟩
theorem xWb (va vb:Value) (d:Dk) (u xI old xE:ByteArray) (ep:Int) (bv sv:Value) (x:yD) (w:World) (h:RdD w w.heap.size va vb d) (hx:uT 0 w bv sv x) (hl:xHn x)
  (hu:u.size<=1000) (hp:xI.size<=1000000) (hn:xE.size=12) (hc:d.cache.length<=10000) (hT:VaT w):
  Calls Tryz.prog 17 #[.agg #[va,vb],xTv u xI old ep bv sv x.given,.string xE] w (xYq d u xI old ep x xE w va vb):=by
 obtain⟨A1,c1,A2,c2,rfl,rfl⟩:=yE h;obtain⟨Ab,cb,rfl,_⟩:=id hx.rd.boxes;obtain⟨As,cs,rfl,_⟩:=id hx.rd.subs;have H0:=ι (xWa (va:=.slice A1 d.secs.length c1) (vb:=.slice A2 d.cache.length c2) (so:=vO u xI old ep (.slice Ab x.boxes.length cb) (.slice As x.subs.length cs) x.given) hx)
 have HMB:=ι (xPw w (.slice A1 d.secs.length c1) (.slice A2 d.cache.length c2) (vO u xI old ep (.slice Ab x.boxes.length cb) (.slice As x.subs.length cs) x.given))
 have HNB:=ι (λW (hb:Below w.heap.size w W)=>xNw (.slice A1 d.secs.length c1) (.slice A2 d.cache.length c2) d ⟨#[113]⟩ u W ((h.below hb ν).more hb.size) δ ω);rw[show(⟨#[113]⟩:ByteArray).data.toList=[113] from rfl] at HNB
 have HTX:=ι (λW n (hb:Below w.heap.size w W) (hn:0<=n/\n<=4294967295)=>xF4 (.slice A1 d.secs.length c1) (.slice A2 d.cache.length c2) d u xI old ep x.given n Ab As x.boxes.length cb x.subs.length cs W ((h.below hb ν).more hb.size) ω ω (hT.below hb))
 have HNU:=ι (λW n (hb:Below w.heap.size w W) (hn:0<=n/\n<=4294967295)=>xEg ⟨#[113]⟩ u n W δ ω ω (hT.below hb));rw[show(⟨#[113]⟩:ByteArray).data.toList=[113] from rfl] at HNU;have HNBD:=ι (λz (hz:z∈qM d [113] u.data.toList)=>xSg hz)
 have HRD:=ι (And.intro h (And.intro hx (And.intro hl (And.intro hu (And.intro hp (And.intro hn (And.intro hc hT.se.sha)))))));obtain⟨N,hN⟩:∃N,qM d [113] u.data.toList=N:=⟨_,rfl⟩;have HN:=ι hN;rw[hN] at HNB HNBD;clear h hx hl hu hp hn hc hT hN
 obtain⟨PO,hPO⟩:∃PO,xYq d u xI old ep x xE w (.slice A1 d.secs.length c1) (.slice A2 d.cache.length c2)=PO:=⟨_,rfl⟩;rw[hPO];have HPO:=ι hPO;clear hPO;go_enter Tryz.func17,Tryz.ntmps17;go_upto_region 1 with fail
 obtain⟨w1,hw1⟩:∃w1,(((w.alloc (xX (.slice A1 d.secs.length c1) (.slice A2 d.cache.length c2))).alloc (vO u xI old ep (.slice Ab x.boxes.length cb) (.slice As x.subs.length cs) x.given)).alloc vJ).alloc vB=w1:=⟨_,rfl⟩
 have hsz:w1.heap.size=w.heap.size+4:=by rw[<-hw1];simp only[World.size_alloc]
 have HSZ:=ι hsz;have HS2:Hid (∀o,(w1.alloc o).heap.size=w.heap.size+5):=ι (λo=>by rw[World.size_alloc,hsz]);rw[hw1] at H0 HMB;simp only[vO,vJ,vB] at hw1;rw[hw1];clear hw1 hsz;have hb:=HMB.o.s;obtain⟨s0,s1,s2,s3,s4,s5,s6⟩:=qO hb;clear hb;go_upto_region 3 with fail
 obtain⟨w2,hw2⟩:∃w2,w1.alloc (ixO (.slice Ab x.boxes.length cb) (.slice As x.subs.length cs) x.given)=w2:=⟨_,rfl⟩;have HS2:=ι ((HS2.o (ixO (.slice Ab x.boxes.length cb) (.slice As x.subs.length cs) x.given)));rw[hw2] at H0 HS2;simp only[ixO] at hw2;rw[hw2,HSZ.o]
 clear hw2 HMB s1 s2 s3 s4 s5 s6 s0 HSZ;have hb:=H0.o.s;have s0:=xA hb 0;have hd:=H0.o.d;have e0:=xA hd 0;have e1:=xA hd 1;simp only[gA,gB,gC] at e0 e1;simp only[gA,gC] at s0;clear hb hd;go_wp2_with fail
 refine(HNB.o _ H0.o.bel).mono ?_;rintro e w3 ⟨v,rfl,hr,hb3,hfv⟩;have HFV:=ι hfv;have HNV:=ι hr
 have H3:Hid (MgL w w3 (.slice A1 d.secs.length c1) (.slice A2 d.cache.length c2) (vO u xI old ep (.slice Ab x.boxes.length cb) (.slice As x.subs.length cs) x.given) d u xI old ep x N 0 (.slice Ab x.boxes.length cb) (.slice As x.subs.length cs) (.slice none 0 0) w3):=ι ⟨(H0.o.below hb3).rebase (by rw[<-HS2.o];exact hb3.size),by simp[mgI],HRD.o.2.2.1,⟨Nat.le_refl _,λ_ _ _ _=>rfl⟩⟩
 rw[HS2.o] at HFV;obtain⟨A5,k5,rfl,_⟩:=hr;clear H0 HNB s0 e0 e1 hb3 hfv HS2;go_wp2_with fail
 go_loopw [9,26] (λtv iv wr=>∃(k:Nat) (A6:Option Addr) (n6 k6:Nat) (A7:Option Addr) (n7 k7:Nat),k<=N.length/\k<=10/\iv=.int .i64 k/\Hid (MgL w w3 (.slice A1 d.secs.length c1) (.slice A2 d.cache.length c2) (vO u xI old ep (.slice Ab x.boxes.length cb) (.slice As x.subs.length cs) x.given) d u xI old ep x N k (.slice A6 n6 k6) (.slice A7 n7 k7) tv wr)) (λ_ iv _=>N.length- (intOf iv).toNat)
 case atStart=>exact⟨0,_,_,_,_,_,_,Nat.zero_le _,ω,rfl,H3⟩
 case round=>
  obtain⟨k,A6,n6,k6,A7,n7,k7,hk,hk10,rfl,HI⟩:=hrel;clear H3
  by_cases hlt:k<N.length
  case' neg=>
   obtain⟨xk,hxk⟩:∃xk,mgI (mgT d u xI old ep) (N.take k) x=xk:=⟨_,rfl⟩;have HXK:=ι hxk;have HM:Hid (mgN (mgT d u xI old ep) 10 N x=k):=ι (by rw[HI.o.n,yE1 ω];rfl);have hm:=HI.o.m;have hl:=HI.o.l;rw[hxk] at hm hl;have HT:=ι hm;have HLQ:=ι hl
   clear HI hm hl hxk HNU HNBD HTX HFV HNV
  case' pos=>
   by_cases h10:k<10
   case' neg=>
    obtain⟨n,hn⟩:∃n,N[k]?=some n:=⟨_,List.getElem?_eq_getElem hlt⟩;obtain⟨_,_,e5,_,hcl⟩:=HNV.o;injection e5 with e5 e6 e7;subst e5 e7;obtain⟨b,off,rfl,hbw,hcs⟩:=hcl ω
    have q:=(HI.o.b.c b (off+k) (HFV.o _ _ _ rfl) hbw).trans (by have:=hcs k n hn 0 (.int .i64 n) rfl;simpa using this);obtain⟨xk,hxk⟩:∃xk,mgI (mgT d u xI old ep) (N.take k) x=xk:=⟨_,rfl⟩;have HXK:=ι hxk
    have HM:Hid (mgN (mgT d u xI old ep) 10 N x=k):=ι (by rw[HI.o.n,show 10-k=0 by omega];rfl);have hm:=HI.o.m;have hl:=HI.o.l;rw[hxk] at hm hl;have HT:=ι hm;have HLQ:=ι hl;clear HI hm hl hxk HNU HNBD HTX HFV hcs hcl hn hbw
   case' pos=>
    obtain⟨n,hn⟩:∃n,N[k]?=some n:=⟨_,List.getElem?_eq_getElem hlt⟩;obtain⟨_,_,e5,_,hcl⟩:=HNV.o;injection e5 with e5 e6 e7;subst e5 e7;obtain⟨b,off,rfl,hbw,hcs⟩:=hcl ω
    have q:=(HI.o.b.c b (off+k) (HFV.o _ _ _ rfl) hbw).trans (by have:=hcs k n hn 0 (.int .i64 n) rfl;simpa using this);have HB:=ι (HNBD.o n (List.mem_of_getElem? hn));have HBN:=ι HB.o;have hd:=HI.o.m.d;obtain⟨e0,e1⟩:=zQ hd;have hb:=HI.o.m.s;obtain⟨s0,s1,s2,s3,s4,s5,s6⟩:=qO hb
    have HTX1:=ι (HTX.o wr n HI.o.m.bel HB.o);have HA:Hid (n∈N):=ι (List.mem_of_getElem? hn);have HN1:=ι hn;clear hd hb hcs hcl hn hbw;go_wp2_with fail
    refine HTX1.o.mono ?_;rintro e w4 ⟨rfl,hb4⟩;have H4:=ι (HI.o.m.below hb4);have HB4:=ι (HI.o.b.below hb4);have HST:=ι (yAj (T:=mgT d u xI old ep) HN1.o x);have HSN:=ι (yAi (T:=mgT d u xI old ep) HN1.o h10 (mgI (mgT d u xI old ep) (N.take k) x))
    have HSG:=ι (yAk (u:=u) HN1.o);have HQN:=ι HI.o.n;have HQL:=ι HI.o.l;clear HI HTX1 hb4 e0 e1 s0 s1 s2 s3 s4 s5 s6 q
    rw[show mgA (mgT d u xI old ep) (mgI (mgT d u xI old ep) (N.take k) x) n=xK7 (mgI (mgT d u xI old ep) (N.take k) x) inB n ((xTy d u xI old ep n).size:Int) 32 from rfl] at HST HSN;rw[show mgT d u xI old ep n=((xTy d u xI old ep n).size:Int) from rfl] at HSN
    generalize hxk:mgI (mgT d u xI old ep) (N.take k) x=xk at H4 HST HSN HQN HQL;have HXK:=ι hxk;clear hxk;have hb:=H4.o.xb;obtain⟨s0,s1,s2⟩:=xH1 hb;have HAP:=ι (xTm (.slice A6 n6 k6) (.slice A7 n7 k7) xk inB n ((xTy d u xI old ep n).size:Int) 32 w4 H4.o.rd HQL.o)
    rw[show xO inB=.string ⟨#[73,78,66,79,88]⟩ from rfl] at HAP;have HLA:=ι (λhe=>xHn.app (x:=xk) (n:=inB) (ob:=n) (sz:=((xTy d u xI old ep n).size:Int)) (fl:=32) he);generalize xMm xk inB n ((xTy d u xI old ep n).size:Int) 32=ae at HAP HSN HLA
    generalize xZ4 xk inB n ((xTy d u xI old ep n).size:Int) 32=au at HAP;generalize xK7 xk inB n ((xTy d u xI old ep n).size:Int) 32=xn at HAP HST HSN HLA;generalize xTy d u xI old ep n=mt at HAP;generalize msgE d u xI old ep n=me;clear hb;go_wp2_with fail
    refine HAP.o.mono ?_;rintro e w5 ⟨bv',sv',rfl,hrx,hb5⟩;obtain⟨A8,k8,rfl,_⟩:=id hrx.rd.boxes;obtain⟨A9,k9,rfl,_⟩:=id hrx.rd.subs;have H5:=ι (And.intro (H4.o.below hb5) hrx);have HB5:=ι (HB4.o.below hb5);clear H4 HB4 HAP hrx hb5 s0 s1 s2;go_upto_region 9 with fail
    have hal:=(Below.refl w5.heap.size w5).alloc ν (ixO (.slice A8 xn.boxes.length k8) (.slice A9 xn.subs.length k9) xn.given)
    have H6:=ι (And.intro (H5.o.1.below hal) (And.intro (H5.o.2.below hal) (xL w5 (ixO (.slice A8 xn.boxes.length k8) (.slice A9 xn.subs.length k9) xn.given))));have HB6:=ι (HB5.o.below hal)
    obtain⟨w6,hw6⟩:∃w6,w5.alloc (ixO (.slice A8 xn.boxes.length k8) (.slice A9 xn.subs.length k9) xn.given)=w6:=⟨_,rfl⟩;rw[hw6] at H6 HB6;simp only[ixO] at hw6;rw[hw6];clear hw6 H5 HB5 hal;generalize w5.heap.size=m5 at H6⊢
    by_cases hae:ae=0
    case' neg=>
     rw[if_neg hae] at HSN;have HM:Hid (mgN (mgT d u xI old ep) 10 N x=k):=ι (by rw[HQN.o,HSN.o];rfl);have HT:=ι H6.o.1;have HLQ:=HQL;clear H6 HB6 HQN HSN HLA HSG HQL HST HTX HNU HNBD HB HBN HA HN1 HNV HFV
    case pos=>
     subst hae;rw[if_pos rfl] at HSN;have HLX:=ι (HLA.o rfl).1;clear HLA;have hb:=H6.o.2.2;obtain⟨s0,s1,s2⟩:=xH1 hb;have hx:=H6.o.1.xb;have HPT:=ι (H6.o.1.put H6.o.2.1);simp only[xU,Nat.reduceAdd] at HPT;have hbe:=H6.o.1.bel
     obtain⟨o0,y0,f0,o1,y1,f1,o2,y2,f2,HB⟩:=xMd hx hbe ω (.slice A8 xn.boxes.length k8) (.slice A9 xn.subs.length k9) (.int .i64 xn.given) _ rfl;have HB7:=ι (HB6.o.set (g:=w.heap.size+4) ω [.slice A8 xn.boxes.length k8,.slice A9 xn.subs.length k9,.int .i64 xn.given] 0)
     simp only[xU,Nat.reduceAdd] at HB7;go_upto_region 11 with fail
     obtain⟨w7,hw7⟩:∃w7,((w6.setCell ⟨w.heap.size+4,0,none⟩ (.slice A8 xn.boxes.length k8)).setCell ⟨w.heap.size+4,1,none⟩ (.slice A9 xn.subs.length k9)).setCell ⟨w.heap.size+4,2,none⟩ (.int .i64 xn.given)=w7:=⟨_,rfl⟩;rw[hw7] at HPT HB7⊢
     clear hw7 HB f0 f1 f2 y0 y1 y2 o0 o1 o2 hbe hb hx s0 s1 s2 H6 HB6;have hb:=HPT.o.s;have s0:=xQn hb;clear hb;have HNU7:=ι (HNU.o w7 n HPT.o.bel HBN.o);generalize xSh [113] u.data.toList n=nm at HNU7 HSG;go_wp2_with fail
     refine HNU7.o.mono ?_;rintro e w8 ⟨rfl,hb8⟩;have H8:=ι (HPT.o.below hb8);have HB8:=ι (HB7.o.below hb8);clear HPT HB7 HNU7 hb8 s0;have HLG:Hid ((mgG u (N.take k)).length<=10):=ι (by unfold mgG;rw[List.length_map,List.length_take];omega)
     have HRL:=ι (RdR.lit (m:=[(⟨nm,[],true⟩:Ch)]) (e:=113) xK3 w8 #[xO nm,.string ⟨#[]⟩,.bool true] rfl)
     have HAD:Hid (∀v9 w9,qP 113 3 chF (w8.alloc (.cells #[xO nm,.string ⟨#[]⟩,.bool true] 113)) w9 w3.heap.size u9 v9 (mgG u (N.take k)++[⟨nm,[],true⟩])->Hid (MgL w w3 (.slice A1 d.secs.length c1) (.slice A2 d.cache.length c2) (vO u xI old ep (.slice Ab x.boxes.length cb) (.slice As x.subs.length cs) x.given) d u xI old ep x N (k+1) (.slice A8 xn.boxes.length k8) (.slice A9 xn.subs.length k9) v9 w9)):=ι λv9 w9 h9=>ι (by
      have hal:=(Below.refl w8.heap.size w8).alloc ν (.cells #[xO nm,.string ⟨#[]⟩,.bool true] 113);have h10:=(H8.o.below hal).app h9;rw[<-HSG.o] at h10;refine⟨by rw[HST.o];exact h10,?_,by rw[HST.o];exact HLX.o,?_⟩
      ·rw[HQN.o,HSN.o,HST.o];omega
      ·exact(HB8.o.below hal).belowW (h9.bel (H8.o.own.alloc _) ν (Below.refl _ _) (HB8.o.below hal).sz))
     go_wp2_with (at_builtin;refine zY tyCh rfl _ _ rfl rfl rfl (H8.o.own.alloc _) HRL.o (by have:=HLG.o;simp;omega) (HB8.o.below ((Below.refl w8.heap.size w8).alloc ν _)).sz ?_;intro v9 w9 h9;have HA9:=HAD.o _ _ h9;clear h9)
     exact⟨⟨k+1,_,_,_,_,_,_,ω,ω,by go_num,HA9⟩,by simp[intOf];omega⟩
  all_goals
   have HGL:Hid (mgL d u xI old ep x=N.take k):=ι (by unfold mgL;rw[HN.o,HM.o]);have HGX:Hid (mgX d u xI old ep x=xk):=ι (by unfold mgX;rw[HGL.o,HXK.o])
   have HGO:Hid (xO1 d u xI old ep x xE=(decide (N.take k≠[])&&decide (xJj d u xI xE xk (mgG u (N.take k))=0))):=ι (by unfold xO1;rw[HGX.o,HGL.o]);have HGE:Hid (xYz d u xI old ep x xE=if xO1 d u xI old ep x xE=true then xk else x):=ι (by unfold xYz;rw[HGX.o])
   have HGD:Hid (xO0 d u xI old ep x xE=if xO1 d u xI old ep x xE=true then keepD d u xI xE xk (mgG u (N.take k)) else d):=ι (by unfold xO0;rw[HGX.o,HGL.o]);have HG0:Hid ((mgG u (N.take k)).length=0↔N.take k=[]):=ι (by unfold mgG;rw[List.length_map,List.length_eq_zero_iff])
   have HG1:Hid ((mgG u (N.take k)).length<=10):=ι (by unfold mgG;rw[List.length_map,List.length_take];omega);generalize mgG u (N.take k)=gs at HT HGO HGD HG0 HG1;generalize N.take k=Lk at HGO HG0;obtain⟨A10,k10,hu9,_⟩:=HT.o.own.form;subst hu9;clear HGL HGX HXK HM HN
   by_cases hg:gs.length=0
   ·have HRX0:Hid (xYz d u xI old ep x xE=x):=ι (by rw[HGE.o,HGO.o,HG0.o.1 hg];simp);have HRD0:Hid (xO0 d u xI old ep x xE=d):=ι (by rw[HGD.o,HGO.o,HG0.o.1 hg];simp)
    have HQ:=ι (show MgQ w w.heap.size (.slice A1 d.secs.length c1) (.slice A2 d.cache.length c2) (vO u xI old ep (.slice Ab x.boxes.length cb) (.slice As x.subs.length cs) x.given) (.slice Ab x.boxes.length cb) (.slice As x.subs.length cs) x d false false _ from⟨HT.o.d,HT.o.s,HT.o.o1,HT.o.o2,HRD.o.2.1.below HT.o.bel,λ_=>(HRD.o.1.below HT.o.bel ν).more HT.o.bel.size,HT.o.bel⟩)
    rw[hg];clear HT HGO HGE HGD HG0 HG1;go_upto_region 14 with fail
    refine RG.zJ [2,3] (λL W=>Hid (MgQ w w.heap.size (.slice A1 d.secs.length c1) (.slice A2 d.cache.length c2) (vO u xI old ep (.slice Ab x.boxes.length cb) (.slice As x.subs.length cs) x.given) (.slice Ab x.boxes.length cb) (.slice As x.subs.length cs) x d (L 2) (L 3) W)) (λL L' W hl h=>by rw[<-hl 2 σ,<-hl 3 σ];exact h) κ κ κ (ι HQ.o.drew) ?_
    refine RG.lF (λL w9 hw9=>qO hw9.o.s) ?_;refine RG.lF (λL w9 hw9=>zQ hw9.o.d) ?_;apply RG.yL
    ·rfl
    ·intro L w9 h0 _ hw9;have h9:=hw9.o;rw[h0] at h9;have hx:=h9.o1;rw[if_neg σ] at hx;have HP:=ι (MgQ.kE h9 (l:=[.string u,.string xI,.string old,.int .i64 ep,.slice Ab x.boxes.length cb,.slice As x.subs.length cs,.int .i64 x.given]) rfl rfl ω)
     simp only[xU,Nat.reduceAdd] at HP;obtain⟨o0,y0,f0,o1,y1,f1,o2,y2,f2,o3,y3,f3,o4,y4,f4,o5,y5,f5,o6,y6,f6,HB⟩:=yF3 hx h9.bel ω (.string u) (.string xI) (.string old) (.int .i64 ep) (.slice Ab x.boxes.length cb) (.slice As x.subs.length cs) (.int .i64 x.given) _ rfl
     clear hx h9 hw9;repeat go_step
     with_reducible refine RG.xD ?_
     exact HP
    ·rfl
    apply RG.yL
    ·rfl
    ·intro L w9 h0 _ hw9;have h9:=hw9.o;rw[h0] at h9;have hx:=h9.o2;rw[if_neg σ] at hx;have HP:=ι (MgQ.xRy h9 ω);simp only[xU,Nat.reduceAdd] at HP;obtain⟨o0,y0,f0,o1,y1,f1,HB⟩:=xMe hx h9.bel ω (.slice A1 d.secs.length c1) (.slice A2 d.cache.length c2) _ rfl;clear hx h9 hw9
     repeat go_step
     with_reducible refine RG.xD ?_
     exact HP
    ·rfl
    refine RG.yI (λw14 xKe=>?_);have h1:=xKe.o.o1;have h2:=xKe.o.o2;rw[if_pos rfl] at h1 h2;obtain⟨f0,f1,f2,f3,f4,f5,f6⟩:=qO h1;obtain⟨g0,g1⟩:=zQ h2;have HB:=ι (And.intro xKe.o.bel xKe.o.ix);clear h1 h2 xKe HQ;go_wp2
    refine bodyPost_ret (v:=.tuple #[xTv u xI old ep (.slice Ab x.boxes.length cb) (.slice As x.subs.length cs) x.given,.agg #[.slice A1 d.secs.length c1,.slice A2 d.cache.length c2]]) (by simp[results,Tryz.results17,go_sem,f0,f1,f2,f3,f4,f5,f6,g0,g1]) rfl ?_;rw[<-HPO.o]
    exact⟨_,_,_,_,λ_=>⟨rfl,rfl⟩,by rw[HRX0.o],by rw[HRX0.o];exact HB.o.2,by rw[HRD0.o];exact(HRD.o.1.below HB.o.1 ν).more HB.o.1.size,HB.o.1⟩
   ·have hgl:Lk≠[]:=λe=>hg (HG0.o.2 e)
    have HKP:=ι (yAw (.slice A1 d.secs.length c1) (.slice A2 d.cache.length c2) d u xI old xE ep x.given Ab As x.boxes.length cb x.subs.length cs (.slice A6 n6 k6) (.slice A7 n7 k7) (.slice A10 gs.length k10) xk gs _ ((HRD.o.1.below HT.o.bel ν).more HT.o.bel.size) HT.o.rd.rd (HT.o.own.rd xK3) HLQ.o.1 HLQ.o.2.1 HLQ.o.2.2 (by have:=HG1.o;omega) HRD.o.2.2.2.2.2.2.1 HRD.o.2.2.2.1 HRD.o.2.2.2.2.1 HRD.o.2.2.2.2.2.1 (HRD.o.2.2.2.2.2.2.2.below HT.o.bel ν))
    have HKS0:=ι (λhe=>xLu (d:=d) (u:=u) (xI:=xI) (xE:=xE) (x:=xk) (oth:=gs) he);generalize xJj d u xI xE xk gs=ke at HKP HGO HKS0;generalize keepD d u xI xE xk gs=kd at HKP HGD HKS0;have hd:=HT.o.d;obtain⟨e0,e1⟩:=zQ hd;have hb:=HT.o.s;obtain⟨s0,s1,s2,s3,s4,s5,s6⟩:=qO hb
    have hx:=HT.o.xb;obtain⟨x0,x1,x2⟩:=xH1 hx;clear hd hb hx HG0 HG1;go_upto_region 15 with fail
    go_wp2_with fail
    refine HKP.o.mono ?_;rintro e w15 ⟨va',vb',rfl,hrd,xU0⟩;obtain⟨A11,k11,A12,k12,rfl,rfl⟩:=yE hrd;have hal:=(Below.refl w15.heap.size w15).alloc ν (xX (.slice A11 kd.secs.length k11) (.slice A12 kd.cache.length k12));have HT2:=ι ((HT.o.below xU0).below hal)
    have HR2:=ι ((hrd.below hal ν).more hal.size);have HD2:=ι (xL w15 (xX (.slice A11 kd.secs.length k11) (.slice A12 kd.cache.length k12)));have HGDN:Hid (w.heap.size+5<=w15.heap.size):=ι (by have:=xG (HT.o.below xU0).xb;omega)
    clear HT hrd xU0 HKP hal e0 e1 s0 s1 s2 s3 s4 s5 s6 x0 x1 x2;go_upto_region 16 with fail
    obtain⟨w16,hw16⟩:∃w16,w15.alloc (xX (.slice A11 kd.secs.length k11) (.slice A12 kd.cache.length k12))=w16:=⟨_,rfl⟩;rw[hw16] at HT2 HR2 HD2;simp only[xX] at hw16;rw[hw16];clear hw16;generalize w15.heap.size=gd at HD2 HGDN⊢
    by_cases hke:ke=0
    ·subst hke;have HKS:=ι (HKS0.o rfl);have yFg:Hid (xO1 d u xI old ep x xE=true):=ι (by rw[HGO.o];simp[hgl]);have HRX1:Hid (xYz d u xI old ep x xE=xk):=ι (by rw[HGE.o,HGO.o];simp[hgl]);have HRD1:Hid (xO0 d u xI old ep x xE=kd):=ι (by rw[HGD.o,HGO.o];simp[hgl])
     clear HGO HGE HGD HKS0 hgl;have hb:=HT2.o.s;have o4:=xA hb 4;have o5:=xA hb 5;have o6:=xA hb 6;have y4:=xC hb 4;have y5:=xC hb 5;have y6:=xC hb 6;have hx:=HT2.o.xb;have x0:=xA hx 0;have x1:=xA hx 1;have x2:=xA hx 2;simp only[gA,gB,gC] at x0 x1 x2
     simp only[gA,gB,gC] at o4 o5 o6;have hsz:=(xZ (b:=w.heap.size+1) (B:=0) (Nat.zero_le _) [.slice A6 n6 k6,.slice A7 n7 k7,.int .i64 xk.given] 4 w16 (Below.refl 0 w16)).size;have o1:=HT2.o.o1;have o2:=HT2.o.o2
     have HQ:=ι (show MgQ w gd (.slice A11 kd.secs.length k11) (.slice A12 kd.cache.length k12) (vO u xI old ep (.slice A6 n6 k6) (.slice A7 n7 k7) xk.given) (.slice A6 n6 k6) (.slice A7 n7 k7) xk kd false false (xU (w.heap.size+1) 4 [.slice A6 n6 k6,.slice A7 n7 k7,.int .i64 xk.given] w16) from
      ⟨xM (by have:=HGDN.o;omega) _ 4 _ HD2.o,(kR [.slice A6 n6 k6,.slice A7 n7 k7,.int .i64 xk.given] 4 w16 _ hb σ).trans rfl,by rw[if_neg σ];exact xM ω _ 4 _ o1,by rw[if_neg σ];exact xM ω _ 4 _ o2,HT2.o.rd.set hb δ δ δ _ 4,λhs=>(xA2 HR2.o hs (yBr hb _ _ _) (xF7 hb)).more hsz,xZ ω _ 4 _ HT2.o.bel⟩)
     simp only[xU,Nat.reduceAdd] at HQ;clear HT2 HR2 HD2 hb hx hsz o1 o2;go_upto_region 19 with fail
     refine RG.zJ [2,3] (λL W=>Hid (MgQ w gd (.slice A11 kd.secs.length k11) (.slice A12 kd.cache.length k12) (vO u xI old ep (.slice A6 n6 k6) (.slice A7 n7 k7) xk.given) (.slice A6 n6 k6) (.slice A7 n7 k7) xk kd (L 2) (L 3) W)) (λL L' W hl h=>by rw[<-hl 2 σ,<-hl 3 σ];exact h) κ κ κ (ι HQ.o.drew) ?_
     refine RG.lF (λL w9 hw9=>qO hw9.o.s) ?_;refine RG.lF (λL w9 hw9=>zQ hw9.o.d) ?_;apply RG.yL
     ·rfl
     ·intro L w9 h0 _ hw9;have h9:=hw9.o;rw[h0] at h9;have hx:=h9.o1;rw[if_neg σ] at hx;have HP:=ι (MgQ.kE h9 (l:=[.string u,.string xI,.string old,.int .i64 ep,.slice A6 n6 k6,.slice A7 n7 k7,.int .i64 xk.given]) rfl rfl (by have:=HGDN.o;omega))
      simp only[xU,Nat.reduceAdd] at HP;obtain⟨o0,y0,f0,o1,y1,f1,o2,y2,f2,o3,y3,f3,o4,y4,f4,o5,y5,f5,o6,y6,f6,HB⟩:=yF3 hx h9.bel ω (.string u) (.string xI) (.string old) (.int .i64 ep) (.slice A6 n6 k6) (.slice A7 n7 k7) (.int .i64 xk.given) _ rfl;clear hx h9 hw9
      repeat go_step
      with_reducible refine RG.xD ?_
      exact HP
     ·rfl
     apply RG.yL
     ·rfl
     ·intro L w9 h0 _ hw9;have h9:=hw9.o;rw[h0] at h9;have hx:=h9.o2;rw[if_neg σ] at hx;have HP:=ι (MgQ.xRy h9 (by have:=HGDN.o;omega));simp only[xU,Nat.reduceAdd] at HP
      obtain⟨o0,y0,f0,o1,y1,f1,HB⟩:=xMe hx h9.bel ω (.slice A11 kd.secs.length k11) (.slice A12 kd.cache.length k12) _ rfl;clear hx h9 hw9;repeat go_step
      with_reducible refine RG.xD ?_
      exact HP
     ·rfl
     refine RG.yI (λw14 xKe=>?_);have h1:=xKe.o.o1;have h2:=xKe.o.o2;rw[if_pos rfl] at h1 h2;obtain⟨f0,f1,f2,f3,f4,f5,f6⟩:=qO h1;obtain⟨g0,g1⟩:=zQ h2;have HB:=ι (And.intro xKe.o.bel (And.intro xKe.o.ix (xKe.o.rd HKS.o)));clear h1 h2 xKe HQ;go_wp2
     refine bodyPost_ret (v:=.tuple #[xTv u xI old ep (.slice A6 n6 k6) (.slice A7 n7 k7) xk.given,.agg #[.slice A11 kd.secs.length k11,.slice A12 kd.cache.length k12]]) (by simp[results,Tryz.results17,go_sem,f0,f1,f2,f3,f4,f5,f6,g0,g1]) rfl ?_;rw[<-HPO.o]
     exact⟨_,_,_,_,λh=>absurd (h.symm.trans yFg.o) δ,by rw[HRX1.o],by rw[HRX1.o];exact HB.o.2.1,by rw[HRD1.o];exact HB.o.2.2,HB.o.1⟩
    ·have HRX0:Hid (xYz d u xI old ep x xE=x):=ι (by rw[HGE.o,HGO.o];simp[hke]);have HRD0:Hid (xO0 d u xI old ep x xE=d):=ι (by rw[HGD.o,HGO.o];simp[hke])
     have HQ:=ι (show MgQ w w.heap.size (.slice A1 d.secs.length c1) (.slice A2 d.cache.length c2) (vO u xI old ep (.slice Ab x.boxes.length cb) (.slice As x.subs.length cs) x.given) (.slice Ab x.boxes.length cb) (.slice As x.subs.length cs) x d false false _ from⟨HT2.o.d,HT2.o.s,HT2.o.o1,HT2.o.o2,HRD.o.2.1.below HT2.o.bel,λ_=>(HRD.o.1.below HT2.o.bel ν).more HT2.o.bel.size,HT2.o.bel⟩)
     clear HT2 HR2 HD2 HGO HGE HGD HKS0 hgl HGDN;go_upto_region 17 with fail
     refine RG.zJ [2,3] (λL W=>Hid (MgQ w w.heap.size (.slice A1 d.secs.length c1) (.slice A2 d.cache.length c2) (vO u xI old ep (.slice Ab x.boxes.length cb) (.slice As x.subs.length cs) x.given) (.slice Ab x.boxes.length cb) (.slice As x.subs.length cs) x d (L 2) (L 3) W)) (λL L' W hl h=>by rw[<-hl 2 σ,<-hl 3 σ];exact h) κ κ κ (ι HQ.o.drew) ?_
     refine RG.lF (λL w9 hw9=>qO hw9.o.s) ?_;refine RG.lF (λL w9 hw9=>zQ hw9.o.d) ?_;apply RG.yL
     ·rfl
     ·intro L w9 h0 _ hw9;have h9:=hw9.o;rw[h0] at h9;have hx:=h9.o1;rw[if_neg σ] at hx;have HP:=ι (MgQ.kE h9 (l:=[.string u,.string xI,.string old,.int .i64 ep,.slice Ab x.boxes.length cb,.slice As x.subs.length cs,.int .i64 x.given]) rfl rfl ω)
      simp only[xU,Nat.reduceAdd] at HP;obtain⟨o0,y0,f0,o1,y1,f1,o2,y2,f2,o3,y3,f3,o4,y4,f4,o5,y5,f5,o6,y6,f6,HB⟩:=yF3 hx h9.bel ω (.string u) (.string xI) (.string old) (.int .i64 ep) (.slice Ab x.boxes.length cb) (.slice As x.subs.length cs) (.int .i64 x.given) _ rfl
      clear hx h9 hw9;repeat go_step
      with_reducible refine RG.xD ?_
      exact HP
     ·rfl
     apply RG.yL
     ·rfl
     ·intro L w9 h0 _ hw9;have h9:=hw9.o;rw[h0] at h9;have hx:=h9.o2;rw[if_neg σ] at hx;have HP:=ι (MgQ.xRy h9 ω);simp only[xU,Nat.reduceAdd] at HP;obtain⟨o0,y0,f0,o1,y1,f1,HB⟩:=xMe hx h9.bel ω (.slice A1 d.secs.length c1) (.slice A2 d.cache.length c2) _ rfl;clear hx h9 hw9
      repeat go_step
      with_reducible refine RG.xD ?_
      exact HP
     ·rfl
     refine RG.yI (λw14 xKe=>?_);have h1:=xKe.o.o1;have h2:=xKe.o.o2;rw[if_pos rfl] at h1 h2;obtain⟨f0,f1,f2,f3,f4,f5,f6⟩:=qO h1;obtain⟨g0,g1⟩:=zQ h2;have HB:=ι (And.intro xKe.o.bel xKe.o.ix);clear h1 h2 xKe HQ;go_wp2
     refine bodyPost_ret (v:=.tuple #[xTv u xI old ep (.slice Ab x.boxes.length cb) (.slice As x.subs.length cs) x.given,.agg #[.slice A1 d.secs.length c1,.slice A2 d.cache.length c2]]) (by simp[results,Tryz.results17,go_sem,f0,f1,f2,f3,f4,f5,f6,g0,g1]) rfl ?_;rw[<-HPO.o]
     exact⟨_,_,_,_,λ_=>⟨rfl,rfl⟩,by rw[HRX0.o],by rw[HRX0.o];exact HB.o.2,by rw[HRD0.o];exact(HRD.o.1.below HB.o.1 ν).more HB.o.1.size,HB.o.1⟩
end Go.Proofs.VA
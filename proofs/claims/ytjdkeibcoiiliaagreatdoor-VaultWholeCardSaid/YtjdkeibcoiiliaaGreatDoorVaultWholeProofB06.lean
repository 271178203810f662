/- Contracts of functions. Conditions: as stated. -/
import Derived.Test.YtjdkeibcoiiliaaGreatDoorVaultWholeProofB05
open Go.Proofs.Tryz
set_option maxHeartbeats 8000000
set_option maxRecDepth 100000
namespace Mailsack
def xNw (m:vM):Bs:=wR m.uid 4++wR m.flags 1++wR m.object 4++wR m.size 2
def yD1 (b:pJ):Bs:=xC4 b.name++wR b.validity 4++wR b.next 4++wR b.yL.length 1
def yHz (b:pJ):Bs:=yD1 b++(b.yL.map xNw).flatten
def yEy (x:yN):Bs:=wR x.given 4++wR x.boxes.length 1++(x.boxes.map yHz).flatten++wR x.subs.length 1++(x.subs.map xC4).flatten
def kC (x:yN):Bs:=if zV x=true then yEy x else[]
def putE (x:yN):Int:=if zV x=true then 0 else 1
theorem xD7 (m:vM):(xNw m).length=11:=by unfold xNw;simp[vV]
theorem xB4 (s:Bs):(xC4 s).length=s.length+1:=rfl
theorem xDd (b:pJ):(yD1 b).length=b.name.length+10:=by unfold yD1;simp[vV,xB4]
theorem xG4 {α:Type} {L:List α} {k:Nat} {x:α} (h:L[k]?=some x) (f:α->Bs):((L.take (k+1)).map f).flatten=((L.take k).map f).flatten++f x:=by
 rw[Cc,h];simp
theorem tV {α:Type} {L:List α} (f:α->Bs) {c:Nat} (h:∀x∈L,(f x).length<=c) (k:Nat):(((L.take k).map f).flatten).length<=c*k:=by
 induction k with
 |zero=>simp
 |succ k ih=>
  cases e:L[k]? with
  |none=>rw[Cc,e];simp only[Option.toList,Dw];rw[Nat.mul_succ];omega
  |some x=>
   rw[xG4 e,Aj,Nat.mul_succ];have:=h x (Bb e);omega
theorem xH8 {given:Int}:∀{l:List pJ} {i:Nat} {p:Bs},xBa given l i p=true->∀b∈l,xAy b=true
 |[],_,_,_,_,hb=>by cases hb
 |b::l,i,p,h,b',hb=>by
  unfold xBa at h;simp only[Au] at h;rcases De.1 hb with rfl|hb
  ·exact h.1.1.1.1
  ·exact xH8 h.2 b' hb
theorem xPh:∀{l:List Bs} {i:Nat} {p:Bs},xEt l i p=true->∀s∈l,xCd s=true
 |[],_,_,_,_,hb=>by cases hb
 |b::l,i,p,h,b',hb=>by
  unfold xEt at h;simp only[Au] at h;rcases De.1 hb with rfl|hb
  ·exact h.1.1
  ·exact xPh h.2 b' hb
theorem xQ1 {s:Bs} (h:xCd s=true):s.length<=16:=by
 unfold xCd at h;simp only[Au,Be] at h;exact h.1.2
theorem yEe {b:pJ} (h:xAy b=true):b.name.length<=16/\b.yL.length<=30:=by
 unfold xAy at h;simp only[Au,Be] at h;exact⟨xQ1 h.1.1.1.1,h.1.2⟩
theorem xD0 {x:yN} (h:zV x=true):x.boxes.length<=6/\x.subs.length<=6/\(∀b∈x.boxes,b.name.length<=16/\b.yL.length<=30)/\∀s∈x.subs,s.length<=16:=by
 unfold zV at h;simp only[Au,Be] at h;exact⟨h.1.1.1.1.1.1.2,h.1.1.1.1.2,λb hb=>yEe (xH8 h.1.1.2 b hb),λs hs=>xQ1 (xPh h.1.2 s hs)⟩
theorem xKj {b:pJ} (h:b.name.length<=16/\b.yL.length<=30):(yHz b).length<=400:=by
 unfold yHz;rw[Aj,xDd];have:=tV (L:=b.yL) xNw (c:=11) (λm _=>by rw[xD7];exact Bd _) b.yL.length;rw[Cf] at this;omega
end Mailsack
namespace Go.Proofs.IX
open Go.RowKit Mailsack MM BU VB
structure yEu (w1:World) (base g:Nat) (o:Obj) (w:World) (v:Value) (l:Bs):Prop where
 own:rF w base v l
 off:v.ownBlock≠some g
 blk:w.heap[g]?=some o
 below:Below base w1 w
 size:base<=w.heap.size
theorem yEu.step {w1 w w':World} {base g:Nat} {o:Obj} {v v':Value} {l l':Bs} (h:yEu w1 base g o w v l) (ho:rF w' base v' l') (he:Ext w v w' v'):yEu w1 base g o w' v' l':=by
 have ha:=he.away (xH h.blk) h.off;exact⟨ho,ha.2,ha.1.trans h.blk,h.below.trans (he.below h.own h.size),Bg h.size he.grown.size⟩
theorem yEu.begin {w1 wr:World} {base:Nat} {v:Value} {l:Bs} (ho:rF wr base v l) (hb:Below base w1 wr) (hs:base<=wr.heap.size) (o:Obj):yEu w1 base wr.heap.size o (wr.alloc o) v l:=
 ⟨ho.alloc o,λe=>by have:=(Di ho _ e).2;omega,xJ wr o,⟨hb.os,hb.tape,hb.output,Bg hb.size σ,λk hk=>(Below.heap_alloc wr o k ω).trans (hb.block k hk)⟩,by simp;omega⟩
theorem tT {w1 w:World} {base g:Nat} {o:Obj} {v:Value} {l:Bs} (n:Int) (c:Nat) (h:yEu w1 base g o w v l) (hl:l.length<4294967281) (hc:c<=4):
  Calls prog 68 #[v,.int .i64 n,.int .i64 c] w λe w'=>∃v',e=.returned v'/\yEu w1 base g o w' v' (l++wR n c):=by
 refine(xE5 n c v l w base h.own h.size hl hc).mono ?_;rintro e w' ⟨v',rfl,h1,h2⟩;exact⟨v',rfl,h.step h1 h2⟩
theorem yAf {w1 w:World} {base g:Nat} {o:Obj} {v:Value} {l:Bs} (s:Bs) (h:yEu w1 base g o w v l) (hl:l.length<4294967281) (hs:s.length<=100):
  Calls prog 69 #[v,xR s] w λe w'=>∃v',e=.returned v'/\yEu w1 base g o w' v' (l++xC4 s):=by
 refine(xFh ⟨s.toArray⟩ v l w base h.own h.size hl hs).mono ?_;rintro e w' ⟨v',rfl,h1,h2⟩;exact⟨v',rfl,h.step h1 h2⟩
theorem xNd (bv sv:Value) (x:yN) (w:World) (h:xRk w w.heap.size bv sv x) (hm:∀b∈x.boxes,b.yL.length<=9223372036854775807) (hl:x.boxes.length<=9223372036854775807) (hl2:x.subs.length<=9223372036854775807):
  Calls prog 22 #[.agg #[bv,sv,.int .i64 x.given]] w (pv (.tuple #[xR (kC x),.int .i64 (putE x)]) w):=by
 have HB:=ι h.boxes;have HS:=ι h.subs;have H1:=ι (φ w (.cells #[bv,sv,.int .i64 x.given] 48));have P1:=ι (xJ w (.cells #[bv,sv,.int .i64 x.given] 48));have S1:=ι (wY w (.cells #[bv,sv,.int .i64 x.given] 48))
 have HR:Hid (Calls prog 67 #[.agg #[bv,sv,.int .i64 x.given]] (w.alloc (.cells #[bv,sv,.int .i64 x.given] 48)) λe w'=>e=.returned (.bool (zV x))/\Below (w.alloc (.cells #[bv,sv,.int .i64 x.given] 48)).heap.size (w.alloc (.cells #[bv,sv,.int .i64 x.given] 48)) w'):=
  ι (qX bv sv x _ ((h.below H1.o ν).more H1.o.size) hm hl hl2)
 obtain⟨A,c,rfl,hc,_⟩:=h.boxes;obtain⟨A2,c2,rfl,hc2,_⟩:=h.subs;clear h hm;have HT:Hid (kC x=if zV x=true then yEy x else[]):=ι rfl;have HE:Hid (putE x=if zV x=true then 0 else 1):=ι rfl;generalize kC x=T at HT⊢;generalize putE x=E at HE⊢;have HL:=ι (xD0 (x:=x))
 generalize zV x=R at HR HT HE HL;cases R with
 |false=>
  go_enter func22,ntmps22;go_wp2_with (go_at_call 67;refine HR.o.mono ?_;rintro e w2 ⟨rfl,hb2⟩)
  go_ret2;refine⟨?_,bT H1.o hb2⟩;rw[HT.o,HE.o]
  rfl
 |true=>
  obtain⟨h6,h6',hbx,hsx⟩:=HL.o rfl
  replace HT:Hid (T=yEy x):=ι (by rw[HT.o];rfl)
  replace HE:Hid (E=0):=ι (by rw[HE.o];rfl)
  clear HL;have HBX:=ι hbx;have HSX:=ι hsx;clear hbx hsx;obtain⟨P,hP⟩:∃P:Nat->Bs,∀k,P k=wR x.given 4++wR x.boxes.length 1++((x.boxes.take k).map yHz).flatten:=⟨_,λ_=>rfl⟩;have HP0:Hid (P 0=wR x.given 4++wR x.boxes.length 1):=ι (by rw[hP];simp)
  have HPS:Hid (∀k b,x.boxes[k]?=some b->P (k+1)=P k++yHz b):=ι (λk b hb=>by rw[hP,hP,xG4 hb];simp only[Cy])
  have HPL:Hid (∀k,(P k).length<=5+400*k):=ι (λk=>by
   rw[hP,Aj,Aj,vV,vV];have:=tV (L:=x.boxes) yHz (c:=400) (λb hb=>xKj (HBX.o b hb)) k;omega)
  have HPE:Hid (yEy x=P x.boxes.length++wR x.subs.length 1++(x.subs.map xC4).flatten):=ι (by rw[hP,Cf];rfl);clear hP;go_enter func22,ntmps22;go_wp2_with fail
  refine HR.o.mono ?_;rintro e w2 ⟨rfl,hb2⟩;have p2:=xC P1.o hb2 (by rw[S1.o];omega);have y2:w2.cell? (θ w.heap.size 2)=some (.int .i64 x.given):=xA p2 2;have HB2:=ι hb2;clear hb2;have y0:w2.cell? (θ w.heap.size 0)=some (.slice A x.boxes.length c):=xA p2 0;clear p2 HR
  go_wp2_with fail
  refine(xE5 x.given 4 _ [] w2 (w.alloc (.cells #[.slice A x.boxes.length c,.slice A2 x.subs.length c2,.int .i64 x.given] 48)).heap.size (rF.nil _ _) HB2.o.size δ δ).mono ?_;rintro e w3 ⟨v3,rfl,ho3,he3⟩;have hb3:=HB2.o.trans (he3.below (rF.nil _ _) HB2.o.size)
  have p3:=xC P1.o hb3 (by rw[S1.o];omega);have y0':w3.cell? (θ w.heap.size 0)=some (.slice A x.boxes.length c):=xA p3 0;have HB3:=ι hb3;have HO3:=ι ho3;clear hb3 he3 ho3 p3 y0 y2 HB2;go_wp2_with fail
  refine(xE5 x.boxes.length 1 _ _ w3 (w.alloc (.cells #[.slice A x.boxes.length c,.slice A2 x.subs.length c2,.int .i64 x.given] 48)).heap.size HO3.o HB3.o.size (by simp[vV]) δ).mono ?_;rintro e w4 ⟨v4,rfl,ho4,he4⟩;have hb4:=HB3.o.trans (he4.below HO3.o HB3.o.size)
  have p4:=xC P1.o hb4 (by rw[S1.o];omega);have y0:w4.cell? (θ w.heap.size 0)=some (.slice A x.boxes.length c):=xA p4 0;have HB4:=ι hb4
  have HO4:Hid (rF w4 (w.alloc (.cells #[.slice A x.boxes.length c,.slice A2 x.subs.length c2,.int .i64 x.given] 48)).heap.size v4 (P 0)):=ι (by rw[HP0.o];exact ho4);clear hb4 he4 ho4 p4 y0' HB3 HO3;go_wp2_with fail
  go_loopw [4,25] (λlv iv wr=>∃k:Nat,k<=x.boxes.length/\iv=.int .i64 k/\Hid (rF wr (w.alloc (.cells #[.slice A x.boxes.length c,.slice A2 x.subs.length c2,.int .i64 x.given] 48)).heap.size lv (P k))/\Hid (Below (w.alloc (.cells #[.slice A x.boxes.length c,.slice A2 x.subs.length c2,.int .i64 x.given] 48)).heap.size (w.alloc (.cells #[.slice A x.boxes.length c,.slice A2 x.subs.length c2,.int .i64 x.given] 48)) wr)) (λ_ iv _=>x.boxes.length- (intOf iv).toNat)
  case atStart=>exact⟨0,Bc _,rfl,HO4,HB4⟩
  case round=>
   obtain⟨k,hk,rfl,hown,hbel⟩:=hrel;clear HO4 HB4 y0
   by_cases hlt:k<x.boxes.length
   ·obtain⟨b,hx⟩:∃b,x.boxes[k]?=some b:=⟨_,Af hlt⟩;obtain⟨g,off,c',mv,e0,hg,q0,q1,q2,q3,hmv⟩:=xIh HB.o hx;injection e0 with e0 _ e0';subst e0 e0';have hwr:ψ w wr:=H1.o.trans (hbel.o.mono H1.o.size);have r0:=(hwr.cell (p:=(θ g (off+k*4))) hg).trans q0
    have r1:=(hwr.cell (p:=(θ g (off+k*4+1))) hg).trans q1;have r2:=(hwr.cell (p:=(θ g (off+k*4+2))) hg).trans q2;have r3:=(hwr.cell (p:=(θ g (off+k*4+3))) hg).trans q3;obtain⟨hbn,hbm⟩:=HBX.o b (Bb hx);have HSt:=ι (HPS.o k b hx);have HLk:=ι (HPL.o k)
    have hmv':=hmv;obtain⟨Am,cm,rfl,hcm,_⟩:=hmv';have HMv:=ι hmv;have Hwr:=ι hwr;have HH:=ι (yEu.begin hown.o hbel.o hbel.o.size (.cells #[xR b.name,.int .i64 b.validity,.int .i64 b.next,.slice Am b.yL.length cm] 55));clear q0 q1 q2 q3 hmv hwr hx;go_wp2_with fail
    refine(yAf b.name HH.o (by have:=HLk.o;omega) ω).mono ?_;rintro e w5 ⟨v5,rfl,hh5⟩;have HL5:Hid ((P k++xC4 b.name).length<=5+400*k+17):=ι (by rw[Aj,xB4];have:=HLk.o;omega);have HH5:=ι hh5
    have z1:w5.cell? (θ wr.heap.size 1)=some (.int .i64 b.validity):=xA hh5.blk 1;clear hh5 HH r0 r1 r2 r3;go_wp2_with fail
    refine(tT b.validity 4 HH5.o (by have:=HL5.o;omega) δ).mono ?_;rintro e w6 ⟨v6,rfl,hh6⟩;have HL6:Hid ((P k++xC4 b.name++wR b.validity 4).length<=5+400*k+21):=ι (by rw[Aj,vV];have:=HL5.o;omega);have HH6:=ι hh6
    have z2:w6.cell? (θ wr.heap.size 2)=some (.int .i64 b.next):=xA hh6.blk 2;clear hh6 HH5 z1 HL5;go_wp2_with fail
    refine(tT b.next 4 HH6.o (by have:=HL6.o;omega) δ).mono ?_;rintro e w7 ⟨v7,rfl,hh7⟩;have HL7:Hid ((P k++xC4 b.name++wR b.validity 4++wR b.next 4).length<=5+400*k+25):=ι (by rw[Aj,vV];have:=HL6.o;omega);have HH7:=ι hh7
    have z3:w7.cell? (θ wr.heap.size 3)=some (.slice Am b.yL.length cm):=xA hh7.blk 3;clear hh7 HH6 z2 HL6;go_wp2_with fail
    refine(tT b.yL.length 1 HH7.o (by have:=HL7.o;omega) δ).mono ?_;rintro e w8 ⟨v8,rfl,hh8⟩;have HH8:=ι hh8;have z3':w8.cell? (θ wr.heap.size 3)=some (.slice Am b.yL.length cm):=xA hh8.blk 3;clear hh8 HH7 z3 HL7
    obtain⟨M,hM⟩:∃M:Nat->Bs,∀j,M j=P k++yD1 b++((b.yL.take j).map xNw).flatten:=⟨_,λ_=>rfl⟩;have HM0:Hid (M 0=P k++xC4 b.name++wR b.validity 4++wR b.next 4++wR b.yL.length 1):=ι (by rw[hM];unfold yD1;simp[Cy])
    have HMS:Hid (∀j m,b.yL[j]?=some m->M (j+1)=M j++xNw m):=ι (λj m hm=>by rw[hM,hM,xG4 hm];simp only[Cy])
    have HML:Hid (∀j,(M j).length<=5+400*k+26+11*j):=ι (λj=>by
     rw[hM,Aj,Aj,xDd];have:=tV (L:=b.yL) xNw (c:=11) (λm _=>by rw[xD7];exact Bd _) j;have:=HLk.o;omega)
    have HME:Hid (P (k+1)=M b.yL.length):=ι (by rw[HSt.o,hM,Cf];unfold yHz;simp only[Cy]);clear hM;have HB8:=ι HH8.o.below
    have HO8:Hid (rF w8 (w.alloc (.cells #[.slice (some (θ g off)) x.boxes.length c,.slice A2 x.subs.length c2,.int .i64 x.given] 48)).heap.size v8 (M 0)):=ι (by rw[HM0.o];exact HH8.o.own);clear HH8;go_wp2_with fail
    go_loopw [4,49] (λlv iv wr=>∃j:Nat,j<=b.yL.length/\iv=.int .i64 j/\Hid (rF wr (w.alloc (.cells #[.slice (some (θ g off)) x.boxes.length c,.slice A2 x.subs.length c2,.int .i64 x.given] 48)).heap.size lv (M j))/\Hid (Below (w.alloc (.cells #[.slice (some (θ g off)) x.boxes.length c,.slice A2 x.subs.length c2,.int .i64 x.given] 48)).heap.size (w.alloc (.cells #[.slice (some (θ g off)) x.boxes.length c,.slice A2 x.subs.length c2,.int .i64 x.given] 48)) wr)) (λ_ iv _=>b.yL.length- (intOf iv).toNat)
    case atStart=>exact⟨0,Bc _,rfl,HO8,HB8⟩
    case round=>
     rename_i wq _
     obtain⟨j,hj,rfl,hown2,xL6⟩:=hrel;clear HO8 HB8 z3'
     by_cases hlt2:j<b.yL.length
     ·obtain⟨m,hxm⟩:∃m,b.yL[j]?=some m:=⟨_,Af hlt2⟩;obtain⟨A4,c4,e0,_,hrd⟩:=HMv.o;injection e0 with e0 _ e0';subst e0 e0';obtain⟨g4,off4,rfl,hg4,hcell⟩:=hrd ω;obtain⟨q1,q2,q3,q4⟩:=hcell j m hxm;have hwq:ψ w wr:=H1.o.trans (xL6.o.mono H1.o.size)
      have r1:=(hwq.cell (p:=(θ g4 (off4+j*4))) hg4).trans q1;have r2:=(hwq.cell (p:=(θ g4 (off4+j*4+1))) hg4).trans q2;have r3:=(hwq.cell (p:=(θ g4 (off4+j*4+2))) hg4).trans q3;have r4:=(hwq.cell (p:=(θ g4 (off4+j*4+3))) hg4).trans q4
      have HK1:=ι (yEu.begin hown2.o xL6.o xL6.o.size (.cells #[.int .i64 m.uid,.int .i64 m.flags,.int .i64 m.object,.int .i64 m.size] 57));have HMj:=ι (HML.o j);have HMs:=ι (HMS.o j m hxm);clear q1 q2 q3 q4 hcell hrd hxm hwq;go_wp2_with fail
      refine(tT m.uid 4 HK1.o (by have:=HMj.o;omega) δ).mono ?_;rintro e w9 ⟨v9,rfl,hk9⟩;have HL9:Hid ((M j++wR m.uid 4).length<=5+400*k+26+11*j+4):=ι (by rw[Aj,vV];have:=HMj.o;omega);have HK9:=ι hk9
      have z1:w9.cell? (θ wr.heap.size 1)=some (.int .i64 m.flags):=xA hk9.blk 1;clear hk9 HK1 r1 r2 r3 r4;go_wp2_with fail
      refine(tT m.flags 1 HK9.o (by have:=HL9.o;omega) δ).mono ?_;rintro e w10 ⟨v10,rfl,hk10⟩;have HL10:Hid ((M j++wR m.uid 4++wR m.flags 1).length<=5+400*k+26+11*j+5):=ι (by rw[Aj,vV];have:=HL9.o;omega);have HK10:=ι hk10
      have z2:w10.cell? (θ wr.heap.size 2)=some (.int .i64 m.object):=xA hk10.blk 2;clear hk10 HK9 z1 HL9;go_wp2_with fail
      refine(tT m.object 4 HK10.o (by have:=HL10.o;omega) δ).mono ?_;rintro e w11 ⟨v11,rfl,hk11⟩;have HL11:Hid ((M j++wR m.uid 4++wR m.flags 1++wR m.object 4).length<=5+400*k+26+11*j+9):=ι (by rw[Aj,vV];have:=HL10.o;omega);have HK11:=ι hk11
      have z3:w11.cell? (θ wr.heap.size 3)=some (.int .i64 m.size):=xA hk11.blk 3;clear hk11 HK10 z2 HL10;go_wp2_with fail
      refine(tT m.size 2 HK11.o (by have:=HL11.o;omega) δ).mono ?_;rintro e w12 ⟨v12,rfl,hk12⟩;have HK12:=ι hk12;clear hk12 HK11 z3 HL11;go_wp2
      exact⟨⟨j+1,ω,by go_num,ι (by rw[HMs.o];unfold xNw;simp only[<-Cy];exact HK12.o.own),ι HK12.o.below⟩,by simp[intOf];omega⟩
     ·obtain rfl:j=b.yL.length:=ω;have HOx:Hid (rF wr (w.alloc (.cells #[.slice (some (θ g off)) x.boxes.length c,.slice A2 x.subs.length c2,.int .i64 x.given] 48)).heap.size _ (P (k+1))):=ι (by rw[HME.o];exact hown2.o);go_wp2
      exact⟨⟨k+1,ω,by go_num,HOx,xL6⟩,by simp[intOf];omega⟩
   ·obtain rfl:k=x.boxes.length:=ω;have p5:=xC P1.o hbel.o (by rw[S1.o];omega);have y1:wr.cell? (θ w.heap.size 1)=some (.slice A2 x.subs.length c2):=xA p5 1;have HLk:=ι (HPL.o x.boxes.length)
    have HPE1:Hid (yEy x=P x.boxes.length++wR x.subs.length 1++(x.subs.map xC4).flatten):=HPE;generalize P x.boxes.length=PB at hown HLk HPE1;clear p5 HPS HPL HP0 HPE;go_wp2_with fail
    refine(xE5 x.subs.length 1 _ _ wr (w.alloc (.cells #[.slice A x.boxes.length c,.slice A2 x.subs.length c2,.int .i64 x.given] 48)).heap.size hown.o hbel.o.size (by have:=HLk.o;omega) δ).mono ?_;rintro e w5 ⟨v5,rfl,ho5,he5⟩
    have hb5:=hbel.o.trans (he5.below hown.o hbel.o.size);have p5:=xC P1.o hb5 (by rw[S1.o];omega);have y1':w5.cell? (θ w.heap.size 1)=some (.slice A2 x.subs.length c2):=xA p5 1
    obtain⟨M,hM⟩:∃M:Nat->Bs,∀j,M j=PB++wR x.subs.length 1++((x.subs.take j).map xC4).flatten:=⟨_,λ_=>rfl⟩;have HM0:Hid (M 0=PB++wR x.subs.length 1):=ι (by rw[hM];simp)
    have HMS:Hid (∀j s,x.subs[j]?=some s->M (j+1)=M j++xC4 s):=ι (λj m hm=>by rw[hM,hM,xG4 hm];simp only[Cy])
    have HML:Hid (∀j,(M j).length<=5+400*x.boxes.length+1+17*j):=ι (λj=>by
     rw[hM,Aj,Aj,vV];have:=tV (L:=x.subs) xC4 (c:=17) (λm hm=>by rw[xB4];have:=HSX.o m hm;omega) j;have:=HLk.o;omega)
    have HME:Hid (T=M x.subs.length):=ι (by rw[HT.o,HPE1.o,hM,Cf]);clear hM;have HB5:=ι hb5;have HO5:Hid (rF w5 (w.alloc (.cells #[.slice A x.boxes.length c,.slice A2 x.subs.length c2,.int .i64 x.given] 48)).heap.size v5 (M 0)):=ι (by rw[HM0.o];exact ho5)
    clear hown hbel y1 ho5 he5 hb5 p5 HPE1 HLk HM0;go_wp2_with fail
    go_loopw [4,79] (λlv iv wr=>∃j:Nat,j<=x.subs.length/\iv=.int .i64 j/\Hid (rF wr (w.alloc (.cells #[.slice A x.boxes.length c,.slice A2 x.subs.length c2,.int .i64 x.given] 48)).heap.size lv (M j))/\Hid (Below (w.alloc (.cells #[.slice A x.boxes.length c,.slice A2 x.subs.length c2,.int .i64 x.given] 48)).heap.size (w.alloc (.cells #[.slice A x.boxes.length c,.slice A2 x.subs.length c2,.int .i64 x.given] 48)) wr)) (λ_ iv _=>x.subs.length- (intOf iv).toNat)
    case atStart=>exact⟨0,Bc _,rfl,HO5,HB5⟩
    case round=>
     obtain⟨j,hj,rfl,hown2,xL6⟩:=hrel;clear HO5 HB5 y1'
     by_cases hlt2:j<x.subs.length
     ·obtain⟨s,hxm⟩:∃s,x.subs[j]?=some s:=⟨_,Af hlt2⟩;obtain⟨A4,c4,e0,_,hrd⟩:=HS.o;injection e0 with e0 _ e0';subst e0 e0';obtain⟨g,off,rfl,hg,hcell⟩:=hrd ω;have q1:=hcell j s hxm;have hwq:ψ w wr:=H1.o.trans (xL6.o.mono H1.o.size)
      have r1:=(hwq.cell (p:=(θ g (off+j))) hg).trans q1;have HMj:=ι (HML.o j);have HMs:=ι (HMS.o j s hxm);have hsl:=HSX.o s (Bb hxm);clear q1 hcell hrd hxm hwq;go_wp2_with fail
      refine(xFh ⟨s.toArray⟩ _ _ wr (w.alloc (.cells #[.slice A x.boxes.length c,.slice (some (θ g off)) x.subs.length c2,.int .i64 x.given] 48)).heap.size hown2.o xL6.o.size (by have:=HMj.o;omega) (by show s.length<=100;omega)).mono ?_;rintro e w6 ⟨v6,rfl,ho6,he6⟩
      have HB6:=ι (xL6.o.trans (he6.below hown2.o xL6.o.size));have HO6:=ι ho6;clear ho6 he6;go_wp2;exact⟨⟨j+1,ω,by go_num,ι (by rw[HMs.o];exact HO6.o),HB6⟩,by simp[intOf];omega⟩
     ·obtain rfl:j=x.subs.length:=ω;have hcv:=yE1 hown2.o;go_wp2;go_ret2;exact⟨by rw[HME.o,HE.o];rfl,H1.o.trans (xL6.o.mono H1.o.size)⟩
end Go.Proofs.IX
namespace Mailsack
structure RdP where
 rest:Bs
 bad:Bool
def rdB (r:RdP) (n:Nat):Bs:=if (r.bad||decide (r.rest.length<n))=true then[] else r.rest.take n
def rdR (r:RdP) (n:Nat):RdP:=if (r.bad||decide (r.rest.length<n))=true then⟨r.rest,true⟩ else⟨r.rest.drop n,false⟩
def leN:Bs->Nat
 |[]=>0
 |b::l=>b.toNat+256*leN l
def vB (r:RdP) (c:Nat):Nat:=leN (rdB r c)
def yEx (r:RdP):Bs:=rdB (rdR r 1) (vB r 1)
def xOx (r:RdP):RdP:=rdR (rdR r 1) (vB r 1)
def xXw (r:RdP):vM:=⟨vB r 4,vB (rdR r 4) 1,vB (rdR (rdR r 4) 1) 4,vB (rdR (rdR (rdR r 4) 1) 4) 2⟩
def xNv (r:RdP):RdP:=rdR (rdR (rdR (rdR r 4) 1) 4) 2
def xD5 {α:Type} (v:RdP->α) (t:RdP->RdP):Nat->RdP->List α
 |0,_=>[]
 |k+1,r=>if r.bad=true then[] else v r::xD5 v t k (t r)
def xD6 (t:RdP->RdP):Nat->RdP->RdP
 |0,r=>r
 |k+1,r=>if r.bad=true then r else xD6 t k (t r)
def yF1 (r:RdP):RdP:=rdR (rdR (xOx r) 4) 4
def xRv (r:RdP):pJ:=⟨yEx r,vB (xOx r) 4,vB (rdR (xOx r) 4) 4,xD5 xXw xNv (vB (yF1 r) 1) (rdR (yF1 r) 1)⟩
def xP3 (r:RdP):RdP:=xD6 xNv (vB (yF1 r) 1) (rdR (yF1 r) 1)
def ixR1 (r:RdP):RdP:=rdR (rdR r 4) 1
def yF0 (r:RdP):RdP:=xD6 xP3 (vB (rdR r 4) 1) (ixR1 r)
def ixV (r:RdP):yN:=⟨xD5 xRv xP3 (vB (rdR r 4) 1) (ixR1 r),xD5 yEx xOx (vB (yF0 r) 1) (rdR (yF0 r) 1),vB r 4⟩
def ixR (r:RdP):RdP:=xD6 xOx (vB (yF0 r) 1) (rdR (yF0 r) 1)
def ix0:yN:=⟨[],[],0⟩
def yLc (s:Bs):Bool:=!(ixR ⟨s,false⟩).bad&&decide ((ixR ⟨s,false⟩).rest=[])&&zV (ixV ⟨s,false⟩)
def xKx (s:Bs):yN:=if yLc s=true then ixV ⟨s,false⟩ else ix0
def xPg (s:Bs):Int:=if yLc s=true then 0 else 3
theorem yIq (n b:Nat) (hn:n<1099511627776) (hb:b<256):Go.bits .or .i64 ((n:Int)*256) (b:Int)=(n:Int)*256+b:=by
 have hx:n*256 |||b=n*256+b:=by
  have:=Fq (i:=8) (b:=b) ω n;rw[show 2^8*n=n*256 by omega] at this;exact this.symm
 have h2:(BitVec.ofInt 64 (b:Int)).toNat=b:=by
  rw[Ey,Fy];exact Dx ω
 have h1:(BitVec.ofInt 64 ((n:Int)*256)).toNat=n*256:=by
  rw[show(n:Int)*256=((n*256:Nat):Int) by omega,Ey,Fy];exact Dx ω
 show Go.IntKind.i64.wrap ((BitVec.ofInt 64 ((n:Int)*256) |||BitVec.ofInt 64 (b:Int)).toNat:Int)=_;rw[BitVec.toNat_or,h1,h2,hx,Go.IntKind.wrap_i64];omega
theorem xM7:∀(l:Bs),l.length<=4->leN l<256^l.length
 |[],_=>by simp[leN]
 |b::l,h=>by
  have ih:=xM7 l (by simp at h;omega);have hb:=Ex b;simp only[leN,Bl,Fs];omega
theorem xVb {l:Bs} {k:Nat} {b:UInt8} (h:l[k]?=some b):leN (l.drop k)=b.toNat+256*leN (l.drop (k+1)):=by
 obtain⟨hk,rfl⟩:=Ar.1 h;rw[Dj hk]
 rfl
theorem xSn (r:RdP) (n:Nat):(rdB r n).length<=n:=by
 unfold rdB;split
 ·exact Bc _
 ·exact Ei _ _
theorem jJ (r:RdP) (n:Nat):(rdR r n).rest.length<=r.rest.length:=by
 unfold rdR;split
 ·exact Bd _
 ·simp
end Mailsack
namespace Go.Proofs.IX
open Go.RowKit Mailsack MM BB SH SV
abbrev rdO (r:RdP):Obj:=.cells #[xR r.rest,.bool r.bad] 211
structure xWk (g:Nat) (r:RdP) (w w':World):Prop where
 b:w'.heap[g]?=some (rdO r)
 tn:Tn (λk=>k=g) w w'
theorem xWk.trans {g:Nat} {r r':RdP} {w w1 w2:World} (h:xWk g r w w1) (k:xWk g r' w1 w2):xWk g r' w w2:=⟨k.b,h.tn.trans k.tn⟩
theorem xLs (g:Nat) (r:RdP) (n:Nat) (w:World) (h:w.heap[g]?=some (rdO r)) (hl:r.rest.length<=1000000):
  Calls prog 177 #[.pointer (some (θ g 0)),.int .i64 n] w λe w'=>e=.returned (xR (rdB r n))/\xWk g (rdR r n) w w':=by
 obtain⟨s,b⟩:=r;have HB:Hid (rdB ⟨s,b⟩ n=if (b||decide (s.length<n))=true then[] else s.take n):=ι rfl;have HR:Hid (rdR ⟨s,b⟩ n=if (b||decide (s.length<n))=true then⟨s,true⟩ else⟨s.drop n,false⟩):=ι rfl;have c0:=xA h 0;have c1:=xA h 1;have f0:=xG h 0;have f1:=xG h 1
 simp only[gA,gB,gC] at c0 c1;have HH:=ι h;simp only at hl;clear h;have HT:Hid (xWk g ⟨s,true⟩ w (w.setCell (θ g 1) (.bool true))):=ι ⟨by have:=yD HH.o 1 (.bool true);simpa using this,(Tn.refl (λk=>k=g) w).set (p:=θ g 1) (.inl rfl) _⟩;cases b with
 |true=>
  rw[Ah σ] at HB HR;rw[HB.o,HR.o];go_enter func177,ntmps177;go_wp2;go_ret;exact⟨rfl,HT.o⟩
 |false=>
  by_cases hs:s.length<n
  ·have hsi:(s.length:Int)<(n:Int):=ω;rw[Ah (by simp[hs])] at HB HR;rw[HB.o,HR.o];clear hs;go_enter func177,ntmps177;go_wp2;go_ret;exact⟨rfl,HT.o⟩
  ·have hsi:¬((s.length:Int)<(n:Int)):=ω;rw[Ag (by simp;omega)] at HB HR;rw[HB.o,HR.o];obtain⟨sb,hsb⟩:=eX (⟨s.toArray⟩:ByteArray);have hss:sb.size=s.length:=by rw[<-hsb];simp[ByteArray.size]
   have HTK:Hid (xR (s.take n)=.string (sb.extract 0 n)/\xR (s.drop n)=.string (sb.extract n sb.size)):=ι (by
    rw[<-hsb]
    constructor
    ·show Value.string _=Value.string _
     congr 1
     apply Ee;rw[Dh];apply Array.ext';simp
    ·show Value.string _=Value.string _
     congr 1
     apply Ee;rw[Dh];apply Array.ext';simp[ByteArray.size];rw[Ce σ])
   have HT2:Hid (xWk g ⟨s.drop n,false⟩ w (w.setCell (θ g 0) (.string (sb.extract n sb.size)))):=ι ⟨by
    have:=yD HH.o 0 (.string (sb.extract n sb.size));rw[this];simp[HTK.o.2],(Tn.refl (λk=>k=g) w).set (p:=θ g 0) (.inl rfl) _⟩
   rw[show xR s=.string sb from by rw[<-hsb]] at c0;have hni:(n:Int)<=(sb.size:Int):=ω;have hsi2:¬((sb.size:Int)<(n:Int)):=ω;clear hsb hs HT HH hss hsi;go_enter func177,ntmps177;go_wp2;go_ret;exact⟨by rw[HTK.o.1];rfl,HT2.o⟩
theorem xEw (g:Nat) (r:RdP) (c:Nat) (w:World) (h:w.heap[g]?=some (rdO r)) (hl:r.rest.length<=1000000) (hc:c<=4):
  Calls prog 135 #[.pointer (some (θ g 0)),.int .i64 c] w λe w'=>e=.returned (.int .i64 (vB r c))/\xWk g (rdR r c) w w':=by
 have HB:=ι (xLs g r c w h hl);have HN:Hid (vB r c=leN (rdB r c)):=ι rfl;have hlen:=xSn r c;have HLT:=ι (xM7 (rdB r c) ω);obtain⟨nv,hnv⟩:=eX (vB r c);rw[hnv] at HN⊢;obtain⟨l,hll⟩:=eX (rdB r c);rw[hll] at HB HN hlen HLT;have hl4:l.length<=4:=ω
 clear h hl hc hnv hll hlen;go_enter func135,ntmps135;go_wp2_with fail
 refine HB.o.mono ?_;rintro e w1 ⟨rfl,ht⟩;have HT:=ι ht;clear ht HB;go_wp2_with fail
 go_loopw [6,7] (λnv iv wr=>∃(i:Int) (k:Nat),-1<=i/\i<l.length/\i+1=k/\iv=.int .i64 i/\nv=.int .i64 (leN (l.drop k))/\wr=w1) (λ_ iv _=>(intOf iv+1).toNat)
 case atStart=>exact⟨_,l.length,ω,ω,ω,rfl,by simp[leN],rfl⟩
 case round=>
  obtain⟨i,k,hi0,hi1,hik,rfl,rfl,rfl⟩:=hrel
  by_cases hlt:0<=i
  ·obtain⟨j,rfl⟩:∃j:Nat,i=j:=⟨i.toNat,ω⟩;obtain rfl:k=j+1:=ω;obtain⟨x,hx⟩:∃x,l[j]?=some x:=⟨_,Af ω⟩;have HD:=ι (xVb hx);have hix:=λw=>zN (P:=prog) underlying9 ⟨l.toArray⟩ (j:Int) j rfl (by show j<l.toArray.size;simp;omega) w
   have hby:yU ⟨l.toArray⟩ j=(x.toNat:Int):=by
    unfold yU;show((l.getD j 0).toNat:Int)=_;rw[Aa,hx];rfl
   rw[hby] at hix;have hb:=Ex x;have hdl:(l.drop (j+1)).length<=3:=by rw[Eb];omega
   have hlt4:=xM7 (l.drop (j+1)) ω;have hpow:256^(l.drop (j+1)).length<=256^3:=Hg ω hdl;have HOR:=yIq (leN (l.drop (j+1))) x.toNat ω hb;have hm:leN (l.drop (j+1))<16777216:=ω;generalize leN (l.drop (j+1))=m at HD HOR hm;clear hdl hlt4 hpow hx hby
   go_wp2;exact⟨⟨(j:Int)-1,j,ω,ω,ω,rfl,by rw[HD.o];congr 1;omega,trivial⟩,by simp[intOf]⟩
  ·obtain rfl:k=0:=ω;obtain rfl:i=-1:=ω;go_wp2;go_ret;exact⟨by rw[HN.o];rfl,HT.o⟩
theorem xPn (g:Nat) (r:RdP) (w:World) (h:w.heap[g]?=some (rdO r)) (hl:r.rest.length<=1000000):
  Calls prog 137 #[.pointer (some (θ g 0))] w λe w'=>e=.returned (xR (yEx r))/\xWk g (xOx r) w w':=by
 have HN:=ι (xEw g r 1 w h hl ω);rw[show(((1:Nat)):Int)=1 from rfl] at HN;have HB:=ι (λW (h:xWk g (rdR r 1) w W)=>xLs g (rdR r 1) (vB r 1) W h.b (Bg (jJ r 1) hl));have HV:Hid (yEx r=rdB (rdR r 1) (vB r 1)/\xOx r=rdR (rdR r 1) (vB r 1)):=ι ⟨rfl,rfl⟩;rw[HV.o.1,HV.o.2]
 generalize vB r 1=n at HN HB⊢;generalize rdR r 1=r1 at HN HB⊢;clear h hl HV;go_enter func137,ntmps137;go_wp2_with fail
 refine HN.o.mono ?_;rintro e w1 ⟨rfl,ht⟩;have HT:=ι ht;clear ht HN;go_wp2_with fail
 refine cM (HB.o _ HT.o) λw2 ht=>?_;have HT2:=ι (HT.o.trans ht);clear ht HT HB;go_wp2;go_ret;exact⟨rfl,HT2.o⟩
end Go.Proofs.IX
namespace Mailsack
def xLb {α:Type} (v:RdP->α) (t:RdP->RdP) (r0:RdP) (k:Nat) (L:List α) (r:RdP):Prop:=∀m,xD5 v t (k+m) r0=L++xD5 v t m r/\xD6 t (k+m) r0=xD6 t m r
section
variable {α:Type} {v:RdP->α} {t:RdP->RdP} {r0 r:RdP} {k n:Nat} {L:List α}
theorem xJp (v:RdP->α) (t:RdP->RdP) (r0:RdP):xLb v t r0 0 [] r0:=λm=>by rw[Ay];exact⟨rfl,rfl⟩
theorem xJq (h:xLb v t r0 k L r) (hb:r.bad=false):xLb v t r0 (k+1) (L++[v r]) (t r):=λm=>by
 have:=h (m+1);rw[show k+1+m=k+(m+1) by omega,this.1,this.2];have e1:xD5 v t (m+1) r=v r::xD5 v t m (t r):=by rw[xD5,hb,Ag σ]
 have e2:xD6 t (m+1) r=xD6 t m (t r):=by rw[xD6,hb,Ag σ]
 rw[e1,e2,Cy];exact⟨rfl,rfl⟩
theorem xJr (h:xLb v t r0 n L r):xD5 v t n r0=L/\xD6 t n r0=r:=by
 have:=h 0;rw[Db] at this;rw[this.1,this.2];exact⟨by simp[xD5],rfl⟩
theorem xNu (h:xLb v t r0 k L r) (hk:k<=n) (hb:r.bad=true):xD5 v t n r0=L/\xD6 t n r0=r:=by
 obtain⟨m,rfl⟩:∃m,n=k+m:=⟨n-k,ω⟩;rw[(h m).1,(h m).2];cases m with
 |zero=>exact⟨by simp[xD5],rfl⟩
 |succ m=>
  unfold xD5 xD6;rw[Ah hb,Ah hb];exact⟨σ,rfl⟩
end
theorem xSw (r:RdP):vB r 1<256:=by
 have h:=xM7 (rdB r 1) (by have:=xSn r 1;omega);have h2:=xSn r 1;have:256^(rdB r 1).length<=256^1:=Hg ω h2;unfold vB;omega
theorem xQ6 (r:RdP):(xNv r).rest.length<=r.rest.length:=by
 unfold xNv;have h1:=jJ r 4;have h2:=jJ (rdR r 4) 1;have h3:=jJ (rdR (rdR r 4) 1) 4;have h4:=jJ (rdR (rdR (rdR r 4) 1) 4) 2;omega
end Mailsack
namespace Go.Proofs.IX
open Go.RowKit Mailsack MM BB SH SV RK DS
abbrev maF (m:vM):List Value:=[.int .i64 m.uid,.int .i64 m.flags,.int .i64 m.object,.int .i64 m.size]
theorem xEz (m:vM):(maF m).length=4:=rfl
theorem yKz (x:vM):∀u∈maF x,u.oneCell'=true:=by
 intro u hu;simp only[maF,De,Dp,Gn] at hu;rcases hu with rfl|rfl|rfl|rfl<;>rfl
theorem infoMa:(prog.info? 57).map (λi=>(i.zero,i.size,i.bytes))=some (some (.agg #[.int .i64 0,.int .i64 0,.int .i64 0,.int .i64 0]),4,32):=κ
theorem tyMa:yEr prog 53 57 4 32 maF:=by
 obtain⟨i,hi,hz,hs,hb⟩:=jL infoMa;exact⟨underlying53,⟨i,_,hi,hz,hs,hb,rfl⟩,ω,ω,xEz,yKz⟩
theorem xIb {w:World} {B:Nat} {v:Value} {l:List vM} (h:RdR 4 maF w B v l):jF w B v l:=by
 obtain⟨A,c,h1,h2,h3⟩:=h;refine⟨A,c,h1,h2,λhn=>?_⟩;obtain⟨b,off,h4,h5,h6⟩:=h3 hn;exact⟨b,off,h4,h5,λj x hx=>⟨h6 j x hx 0 _ rfl,h6 j x hx 1 _ rfl,h6 j x hx 2 _ rfl,h6 j x hx 3 _ rfl⟩⟩
abbrev yJ4 (n:Bs) (v x:Int) (mv:Value):Obj:=.cells #[xR n,.int .i64 v,.int .i64 x,mv] 55
abbrev maO (m:vM):Obj:=.cells #[.int .i64 m.uid,.int .i64 m.flags,.int .i64 m.object,.int .i64 m.size] 57
structure BxM (w:World) (g bb:Nat) (n:Bs) (v x:Int) (mv:Value) (cv:Value) (L:List vM) (r:RdP) (W:World):Prop where
 o:W.heap[w.heap.size]?=some (yJ4 [] 0 0 (.slice none 0 0))
 b:W.heap[bb]?=some (yJ4 n v x cv)
 rd:W.heap[g]?=some (rdO r)
 own:xW 57 4 maF W w.heap.size mv L
 tn:Tn (λk=>k=g) w W
 hg:g<w.heap.size
 hb:w.heap.size<bb
section
variable {w W W':World} {g bb:Nat} {n:Bs} {v x:Int} {mv cv:Value} {L:List vM} {r r':RdP}
theorem BxM.turn (h:BxM w g bb n v x mv cv L r W) (ht:xWk g r' W W'):BxM w g bb n v x mv cv L r' W':=by
 have h1:=h.hg;have h2:=h.hb;exact⟨ht.tn.blk h.o ω,ht.tn.blk h.b ω,ht.b,h.own.tn ht.tn (λq hq e=>xW.neT h.own h.rd δ (by rw[hq,e])),h.tn.trans ht.tn,h.hg,h.hb⟩
theorem BxM.below (h:BxM w g bb n v x mv cv L r W) (hb:ψ W W'):BxM w g bb n v x mv cv L r W':=
 ⟨xC h.o hb (xH h.o),xC h.b hb (xH h.b),xC h.rd hb (xH h.rd),h.own.below hb,h.tn.call hb,h.hg,h.hb⟩
theorem BxM.rM (h:BxM w g bb n v x mv cv L r W) (z:Int):BxM w g bb n z x mv cv L r (W.setCell (θ bb 1) (.int .i64 z)):=by
 have h1:=h.hg;have h2:=h.hb;have e:=yD h.b 1 (.int .i64 z);simp only[Ba,Bh,Cm] at e
 exact⟨yA h.o (p:=θ bb 1) (by show w.heap.size≠bb;omega) _,e,yA h.rd (p:=θ bb 1) (by show g≠bb;omega) _,h.own.xCz (p:=θ bb 1) _ (xW.neT h.own h.b δ),h.tn.set (p:=θ bb 1) (.inr (by show w.heap.size<=bb;omega)) _,h.hg,h.hb⟩
theorem BxM.yBc (h:BxM w g bb n v x mv cv L r W) (z:Int):BxM w g bb n v z mv cv L r (W.setCell (θ bb 2) (.int .i64 z)):=by
 have h1:=h.hg;have h2:=h.hb;have e:=yD h.b 2 (.int .i64 z);simp only[Ba,Bh,Cm] at e
 exact⟨yA h.o (p:=θ bb 2) (by show w.heap.size≠bb;omega) _,e,yA h.rd (p:=θ bb 2) (by show g≠bb;omega) _,h.own.xCz (p:=θ bb 2) _ (xW.neT h.own h.b δ),h.tn.set (p:=θ bb 2) (.inr (by show w.heap.size<=bb;omega)) _,h.hg,h.hb⟩
theorem BxM.put3 (h:BxM w g bb n v x mv cv L r W) (z:Value):BxM w g bb n v x mv z L r (W.setCell (θ bb 3) z):=by
 have h1:=h.hg;have h2:=h.hb;have e:=yD h.b 3 z;simp only[Ba,Bh,Cm] at e
 exact⟨yA h.o (p:=θ bb 3) (by show w.heap.size≠bb;omega) _,e,yA h.rd (p:=θ bb 3) (by show g≠bb;omega) _,h.own.xCz (p:=θ bb 3) _ (xW.neT h.own h.b δ),h.tn.set (p:=θ bb 3) (.inr (by show w.heap.size<=bb;omega)) _,h.hg,h.hb⟩
theorem yFi {P:Nat->Prop} {a b c:World} {row:Option Nat} (h:Tn P a b) (hg:b.grownBy c row) (hr:∀k,row=some k->a.heap.size<=k):Tn P a c:=
 ⟨hg.os.trans h.os,hg.tape.trans h.tape,hg.output.trans h.output,Bg h.size hg.size,λi hi hp=>(hg.block i (Bt hi h.size) (λe=>by have:=hr i e.symm;omega)).trans (h.block i hi hp)⟩
theorem BxM.app {L':List vM} {mv':Value} (h:BxM w g bb n v x mv cv L r W) (ha:xA5 57 4 maF W W' w.heap.size mv mv' L'):BxM w g bb n v x mv' cv L' r W':=
 ⟨ha.keep h.o (xW.neT h.own h.o δ),ha.keep h.b (xW.neT h.own h.b δ),ha.keep h.rd (xW.neT h.own h.rd δ),ha.own,yFi h.tn ha.grown (λk hk=>(Di h.own.row k hk).1),h.hg,h.hb⟩
end
structure MbM (w:World) (g bb:Nat) (n:Bs) (v x:Int) (mv cv:Value) (L:List vM) (mb:Nat) (m:vM) (r:RdP) (W:World):Prop where
 bx:BxM w g bb n v x mv cv L r W
 m:W.heap[mb]?=some (maO m)
 hm:bb<mb
 ne:mv.ownBlock≠some mb
section
variable {w W W':World} {g bb mb:Nat} {n:Bs} {v x:Int} {mv cv:Value} {L:List vM} {r r':RdP} {m:vM}
theorem MbM.turn (h:MbM w g bb n v x mv cv L mb m r W) (ht:xWk g r' W W'):MbM w g bb n v x mv cv L mb m r' W':=by
 have h1:=h.bx.hg;have h2:=h.bx.hb;have h3:=h.hm;exact⟨h.bx.turn ht,ht.tn.blk h.m ω,h.hm,h.ne⟩
theorem MbM.put (h:MbM w g bb n v x mv cv L mb m r W) (i:Nat) (z:Value) (m':vM) (e:(#[Value.int .i64 m.uid,.int .i64 m.flags,.int .i64 m.object,.int .i64 m.size]:Array Value).setIfInBounds i z=#[.int .i64 m'.uid,.int .i64 m'.flags,.int .i64 m'.object,.int .i64 m'.size]):
  MbM w g bb n v x mv cv L mb m' r (W.setCell (θ mb i) z):=by
 have h1:=h.bx.hg;have h2:=h.bx.hb;have h3:=h.hm
 exact⟨⟨yA h.bx.o (p:=θ mb i) (by show w.heap.size≠mb;omega) _,yA h.bx.b (p:=θ mb i) (by show bb≠mb;omega) _,yA h.bx.rd (p:=θ mb i) (by show g≠mb;omega) _,h.bx.own.xCz (p:=θ mb i) _ h.ne,h.bx.tn.set (p:=θ mb i) (.inr (by show w.heap.size<=mb;omega)) _,h.bx.hg,h.bx.hb⟩,
  by have:=yD h.m i z;rw[e] at this;exact this,h.hm,h.ne⟩
end
theorem xW.xHf {α:Type} {e:TypeId} {k:Nat} {f:α->List Value} {w:World} {base:Nat} {v:Value} {l:List α} (h:xW e k f w base v l) {g:Nat} (xs:List Value) (i:Nat) (hg:v.ownBlock≠some g):xW e k f (SV.yE g i xs w) base v l:=by
 refine⟨h.1,?_⟩;rcases h.2 with hn|⟨g',cap,cur,h1,h2,h3,h4⟩
 ·exact .inl hn
 ·exact .inr ⟨g',cap,cur,h1,h2,yH (λe=>hg (by rw[h1,e];rfl)) xs i _ h3,h4⟩
theorem yG3 (g:Nat) (r:RdP) (w:World) (h:w.heap[g]?=some (rdO r)) (hl:r.rest.length<=1000000):
  Calls prog 136 #[.pointer (some (θ g 0))] w λe w'=>∃A c,e=.returned (.agg #[xR (xRv r).name,.int .i64 (xRv r).validity,.int .i64 (xRv r).next,.slice A (xRv r).yL.length c])/\xW 57 4 maF w' w.heap.size (.slice A (xRv r).yL.length c) (xRv r).yL/\xWk g (xP3 r) w w':=by
 have hg:=xH h
 have HO:Hid ((w.alloc (yJ4 [] 0 0 (.slice none 0 0))).heap[w.heap.size]?=some (yJ4 [] 0 0 (.slice none 0 0))/\(w.alloc (yJ4 [] 0 0 (.slice none 0 0))).heap[g]?=some (rdO r)/\Tn (λk=>k=g) w (w.alloc (yJ4 [] 0 0 (.slice none 0 0)))):=ι ⟨xJ _ _,xN h _,(Tn.refl _ _).alloc _⟩
 have HTX:=ι (λW (h:W.heap[g]?=some (rdO r))=>xPn g r W h hl);have HNU:=ι (λ(r':RdP) (c:Nat) W (h:W.heap[g]?=some (rdO r')) (hl':r'.rest.length<=r.rest.length) (hc:c<=4)=>xEw g r' c W h (Bg hl' hl) hc)
 have HV:Hid (xRv r=⟨yEx r,vB (xOx r) 4,vB (rdR (xOx r) 4) 4,xD5 xXw xNv (vB (yF1 r) 1) (rdR (yF1 r) 1)⟩/\xP3 r=xD6 xNv (vB (yF1 r) 1) (rdR (yF1 r) 1)/\yF1 r=rdR (rdR (xOx r) 4) 4):=ι ⟨rfl,rfl,rfl⟩
 have HL1:Hid ((xOx r).rest.length<=r.rest.length):=ι (Bg (jJ _ _) (jJ _ _));have HGG:=ι hg;obtain⟨bv,hbv⟩:=eX (xRv r);obtain⟨br,hbr⟩:=eX (xP3 r);rw[hbv,hbr];rw[hbv,hbr] at HV;generalize xOx r=r1 at HTX HV HL1;generalize yEx r=nm at HTX HV
 clear h hl hg hbv hbr;go_enter func136,ntmps136;go_upto_region 1 with fail
 go_wp2_with fail
 refine cM (HTX.o _ HO.o.2.1) λw1 ht=>?_
 have hB1:BxM w g w1.heap.size nm 0 0 (.slice none 0 0) (.slice none 0 0) [] r1 (w1.alloc (yJ4 nm 0 0 (.slice none 0 0))):=by
  have hgg:=HGG.o;have hsz:=ht.tn.size;simp at hsz;exact⟨xN (ht.tn.blk HO.o.1 ω) _,xJ _ _,xN ht.b _,xW.nil _ _,(HO.o.2.2.trans ht.tn).alloc _,hgg,ω⟩
 have HB1:=ι hB1;clear hB1 ht HO HTX HGG;go_upto_region 2 with fail
 obtain⟨bb,hbb⟩:=eX w1.heap.size;rw[hbb] at HB1⊢;generalize w1.alloc (.cells #[xR nm,.int .i64 0,.int .i64 0,.slice none 0 0] 55)=w2 at HB1⊢;clear hbb;have HN:=ι (HNU.o r1 4 w2 HB1.o.rd HL1.o ω);rw[show(((4:Nat)):Int)=4 from rfl] at HN;go_wp2_with fail
 refine HN.o.mono ?_;rintro e wa ⟨rfl,ht⟩;have HA:=ι (HB1.o.turn ht);clear ht HN HB1;have c0:=xA HA.o.b 1;have y0:=xG HA.o.b 1;simp only[gA,gB,gC] at c0;go_upto_region 3 with fail
 have HB3:=ι (HA.o.rM ((vB r1 4:Nat):Int));clear c0 y0 HA;generalize wa.setCell (θ bb 1) (.int .i64 ((vB r1 4:Nat):Int))=w3 at HB3⊢;have HL2:Hid ((rdR r1 4).rest.length<=r.rest.length):=ι (Bg (jJ _ _) HL1.o);have HN:=ι (HNU.o (rdR r1 4) 4 w3 HB3.o.rd HL2.o ω)
 rw[show(((4:Nat)):Int)=4 from rfl] at HN;go_wp2_with fail
 refine HN.o.mono ?_;rintro e wa ⟨rfl,ht⟩;have HA:=ι (HB3.o.turn ht);clear ht HN HB3;have c0:=xA HA.o.b 2;have y0:=xG HA.o.b 2;simp only[gA,gB,gC] at c0;go_upto_region 4 with fail
 have HB4:=ι (HA.o.yBc ((vB (rdR r1 4) 4:Nat):Int));clear c0 y0 HA;generalize wa.setCell (θ bb 2) (.int .i64 ((vB (rdR r1 4) 4:Nat):Int))=w4 at HB4⊢;have HL3:Hid ((rdR (rdR r1 4) 4).rest.length<=r.rest.length):=ι (Bg (jJ _ _) HL2.o);rw[HV.o.2.2] at HV
 generalize vB r1 4=va at HB4 HV;generalize vB (rdR r1 4) 4=vx at HB4 HV;generalize rdR (rdR r1 4) 4=r3 at HB4 HV HL3;have HN:=ι (HNU.o r3 1 w4 HB4.o.rd HL3.o ω);rw[show(((1:Nat)):Int)=1 from rfl] at HN;go_wp2_with fail
 refine HN.o.mono ?_;rintro e w5 ⟨rfl,ht⟩;have HB5:=ι (HB4.o.turn ht);have HL5:Hid ((rdR r3 1).rest.length<=r.rest.length):=ι (Bg (jJ _ _) HL3.o);have hcn:=xSw r3;clear ht HN HB4 HL2 HL1;generalize vB r3 1=cn at HV hcn;generalize rdR r3 1=r5 at HB5 HL5 HV
 go_wp2_with fail
 go_loopw [16] (λiv wr=>∃(k:Nat) (u_:Value) (L:List vM) (rk:RdP),k<=cn/\iv=.int .i64 k/\Hid (BxM w g bb nm va vx u_ u_ L rk wr/\xLb xXw xNv r5 k L rk/\rk.rest.length<=r.rest.length/\L.length<=k)) (λiv _=>cn- (intOf iv).toNat)
 case atStart=>exact⟨0,_,[],r5,Bc _,rfl,ι ⟨HB5.o,xJp _ _ _,HL5.o,Bd _⟩⟩
 case round=>
  obtain⟨k,u_,L,rk,hk,rfl,HI⟩:=hrel;clear HB5
  by_cases hlt:k<cn
  ·cases hbad:rk.bad with
   |true=>
    have hr:=xA HI.o.1.rd 1;simp only[gA,gB,gC] at hr;rw[hbad] at hr;have HE:=ι (Ai HI.o.1 (xNu HI.o.2.1 hk hbad));clear hbad HI;go_upto_region 13 with fail
    clear hr;obtain⟨wz,hwz⟩:∃wz,wz=wr:=⟨_,rfl⟩;rw[<-hwz] at HE⊢;clear hwz;obtain⟨A7,c7,hmv,_⟩:=HE.o.1.own.form;subst hmv;have hbb:=HE.o.1.b;obtain⟨d0,d1,d2,d3⟩:=xW9 hbb
    obtain⟨o0,y0,f0,o1,y1,f1,o2,y2,f2,o3,y3,f3,HB⟩:=cpl4 HE.o.1.o ((Aq w.heap.size wz)) ω (xR nm) (.int .i64 (va:Nat)) (.int .i64 (vx:Nat)) (.slice A7 L.length c7) _ rfl
    have HTN:=ι (xJ2 (P:=λk=>k=g) (a:=w) (b:=w.heap.size) (.inr ν) [xR nm,.int .i64 (va:Nat),.int .i64 (vx:Nat),.slice A7 L.length c7] 0 wz HE.o.1.tn)
    have HRB:=ι (yH (b:=w.heap.size) (g:=g) (by have:=HE.o.1.hg;omega) [xR nm,.int .i64 (va:Nat),.int .i64 (vx:Nat),.slice A7 L.length c7] 0 wz HE.o.1.rd)
    have HOW:=ι (xW.xHf HE.o.1.own (g:=w.heap.size) [xR nm,.int .i64 (va:Nat),.int .i64 (vx:Nat),.slice A7 L.length c7] 0 (xW.neT HE.o.1.own HE.o.1.o δ));simp only[yE,Nat.reduceAdd] at HTN HRB HOW;have HMV:=HE.o.2;rw[HMV.1] at HV;rw[HMV.2] at HV;clear HE hbb HMV;go_wp2
    refine Ak (v:=.agg #[xR nm,.int .i64 (va:Nat),.int .i64 (vx:Nat),.slice A7 L.length c7]) (by simp[results,results136,go_sem,f0,f1,f2,f3]) rfl ?_;rw[HV.o.1,HV.o.2.1];exact⟨_,_,rfl,HOW.o,HRB.o,HTN.o⟩
   |false=>
    have HN:=ι (HNU.o rk 4 wr HI.o.1.rd HI.o.2.2.1 ω);rw[show(((4:Nat)):Int)=4 from rfl] at HN;have hr:=xA HI.o.1.rd 1;simp only[gA,gB,gC] at hr;rw[hbad] at hr;have HBD:=ι hbad;clear hbad;go_wp2_with fail
    clear hr;refine HN.o.mono ?_;rintro e wa ⟨rfl,ht⟩;have hA:=HI.o.1.turn ht
    have HM0:=ι (show MbM w g bb nm va vx u_ u_ L wa.heap.size ⟨((vB rk 4:Nat):Int),0,0,0⟩ (rdR rk 4) (wa.alloc (maO ⟨((vB rk 4:Nat):Int),0,0,0⟩)) from⟨hA.below ((Aq _ _).alloc ν _),xJ _ _,xH hA.b,λe=>by have:=(Di hA.own.row _ e).2;omega⟩)
    have HI2:=ι HI.o.2;clear ht HN HI hA;go_upto_region 8 with fail
    obtain⟨mb,hmb⟩:=eX wa.heap.size;rw[hmb] at HM0⊢;generalize wa.alloc (.cells #[.int .i64 ((vB rk 4:Nat):Int),.int .i64 0,.int .i64 0,.int .i64 0] 57)=wb at HM0⊢;clear hmb;have HR1:Hid ((rdR rk 4).rest.length<=r.rest.length):=ι (Bg (jJ _ _) HI2.o.2.1)
    have HR2:Hid ((rdR (rdR rk 4) 1).rest.length<=r.rest.length):=ι (Bg (jJ _ _) HR1.o);have HR3:Hid ((rdR (rdR (rdR rk 4) 1) 4).rest.length<=r.rest.length):=ι (Bg (jJ _ _) HR2.o);have HN:=ι (HNU.o (rdR rk 4) 1 wb HM0.o.bx.rd HR1.o ω)
    rw[show(((1:Nat)):Int)=1 from rfl] at HN;go_wp2_with fail
    refine HN.o.mono ?_;rintro e wa ⟨rfl,ht⟩;have HA:=ι (HM0.o.turn ht);clear ht HN HM0;have c0:=xA HA.o.m 1;have y0:=xG HA.o.m 1;simp only[gA,gB,gC] at c0;go_upto_region 9 with fail
    have HM1:=ι (HA.o.put 1 (.int .i64 ((vB (rdR rk 4) 1:Nat):Int)) ⟨((vB rk 4:Nat):Int),((vB (rdR rk 4) 1:Nat):Int),0,0⟩ rfl);clear c0 y0 HA;generalize wa.setCell (θ mb 1) (.int .i64 ((vB (rdR rk 4) 1:Nat):Int))=wc at HM1⊢
    have HN:=ι (HNU.o (rdR (rdR rk 4) 1) 4 wc HM1.o.bx.rd HR2.o ω);rw[show(((4:Nat)):Int)=4 from rfl] at HN;go_wp2_with fail
    refine HN.o.mono ?_;rintro e wa ⟨rfl,ht⟩;have HA:=ι (HM1.o.turn ht);clear ht HN HM1;have c0:=xA HA.o.m 2;have y0:=xG HA.o.m 2;simp only[gA,gB,gC] at c0;go_upto_region 10 with fail
    have HM2:=ι (HA.o.put 2 (.int .i64 ((vB (rdR (rdR rk 4) 1) 4:Nat):Int)) ⟨((vB rk 4:Nat):Int),((vB (rdR rk 4) 1:Nat):Int),((vB (rdR (rdR rk 4) 1) 4:Nat):Int),0⟩ rfl);clear c0 y0 HA;generalize wa.setCell (θ mb 2) (.int .i64 ((vB (rdR (rdR rk 4) 1) 4:Nat):Int))=wd at HM2⊢
    have HN:=ι (HNU.o (rdR (rdR (rdR rk 4) 1) 4) 2 wd HM2.o.bx.rd HR3.o ω);rw[show(((2:Nat)):Int)=2 from rfl] at HN;go_wp2_with fail
    refine HN.o.mono ?_;rintro e wa ⟨rfl,ht⟩;have HA:=ι (HM2.o.turn ht);clear ht HN HM2;have c0:=xA HA.o.m 3;have y0:=xG HA.o.m 3;simp only[gA,gB,gC] at c0;go_upto_region 11 with fail
    have HM3:=ι (HA.o.put 3 (.int .i64 ((vB (rdR (rdR (rdR rk 4) 1) 4) 2:Nat):Int)) ⟨((vB rk 4:Nat):Int),((vB (rdR rk 4) 1:Nat):Int),((vB (rdR (rdR rk 4) 1) 4:Nat):Int),((vB (rdR (rdR (rdR rk 4) 1) 4) 2:Nat):Int)⟩ rfl);clear c0 y0 HA
    generalize wa.setCell (θ mb 3) (.int .i64 ((vB (rdR (rdR (rdR rk 4) 1) 4) 2:Nat):Int))=we at HM3⊢;have HNX:=ι (xJq HI2.o.1 HBD.o);have HLN:=ι (Bg (xQ6 rk) HI2.o.2.1)
    have HVV:Hid (xXw rk=⟨((vB rk 4:Nat):Int),((vB (rdR rk 4) 1:Nat):Int),((vB (rdR (rdR rk 4) 1) 4:Nat):Int),((vB (rdR (rdR (rdR rk 4) 1) 4) 2:Nat):Int)⟩/\xNv rk=rdR (rdR (rdR (rdR rk 4) 1) 4) 2):=ι ⟨rfl,rfl⟩;rw[<-HVV.o.1,<-HVV.o.2] at HM3;have hme:=HM3.o.m;rw[HVV.o.1] at hme
    simp only[maO] at hme;obtain⟨e0,e1,e2,e3⟩:=xW9 hme;have hbb:=HM3.o.bx.b;have b3:=xA hbb 3;simp only[gA,gB,gC] at b3
    have HMF:Hid (maF (xXw rk)=[.int .i64 ((vB rk 4:Nat):Int),.int .i64 ((vB (rdR rk 4) 1:Nat):Int),.int .i64 ((vB (rdR (rdR rk 4) 1) 4:Nat):Int),.int .i64 ((vB (rdR (rdR (rdR rk 4) 1) 4) 2:Nat):Int)]):=ι (by rw[HVV.o.1]);generalize xXw rk=mk at HNX HM3 HMF
    generalize xNv rk=rn at HNX HM3 HLN;generalize vB rk 4=n0 at e0 HMF;generalize vB (rdR rk 4) 1=n1 at e1 HMF;generalize vB (rdR (rdR rk 4) 1) 4=n2 at e2 HMF;generalize vB (rdR (rdR (rdR rk 4) 1) 4) 2=n3 at e3 HMF;have HB:=ι HM3.o.bx;have HLL:=ι HI2.o.2.2
    clear hme hbb HM3 HVV HR1 HR2 HR3 HI2 HBD;obtain⟨A6,c6,hu,_⟩:=HB.o.own.form
    have HAD:Hid (∀v8 w8,xA5 57 4 maF (we.alloc (.cells #[.int .i64 (n0:Nat),.int .i64 (n1:Nat),.int .i64 (n2:Nat),.int .i64 (n3:Nat)] 57)) w8 w.heap.size u_ v8 (L++[mk])->Hid (BxM w g bb nm va vx v8 v8 (L++[mk]) rn (w8.setCell (θ bb 3) v8)/\w8.heap[bb]?=some (yJ4 nm va vx u_))):=ι λv8 w8 h8=>ι (by
     have ha:=BxM.app (HB.o.below (φ we _)) h8;exact⟨ha.put3 v8,ha.b⟩)
    have HO:=ι (Ai HB.o.own HB.o.tn.size);subst hu;clear HB
    go_wp2_with (at_builtin;refine uG tyMa rfl _ _ rfl rfl rfl (HO.o.1.alloc _) (RdR.lit (m:=[mk]) xEz _ _ (by rw[Cz,List.flatMap_nil,Dw,HMF.o])) (by have:=HLL.o;simp;omega) (by have:=HO.o.2;simp;omega) ?_;intro v8 w8 h8;obtain⟨A8,c8,hv8,_⟩:=h8.own.form;rw[show(L++[mk]).length=L.length+1 by simp] at hv8;subst hv8;have HA8:=HAD.o _ _ h8;have s8:=xA HA8.o.2 3;have y8:=xG HA8.o.2 3;simp only[gA,gB,gC] at s8;clear h8)
    exact⟨⟨k+1,_,L++[mk],rn,ω,by go_num,ι ⟨HA8.o.1,HNX.o,HLN.o,by have:=HLL.o;simp;omega⟩⟩,by simp[intOf];omega⟩
  ·obtain rfl:k=cn:=ω;have HE:=ι (Ai HI.o.1 (xJr HI.o.2.1));clear HI;go_upto_region 13 with fail
   obtain⟨wz,hwz⟩:∃wz,wz=wr:=⟨_,rfl⟩;rw[<-hwz] at HE⊢;clear hwz;obtain⟨A7,c7,hmv,_⟩:=HE.o.1.own.form;subst hmv;have hbb:=HE.o.1.b;obtain⟨d0,d1,d2,d3⟩:=xW9 hbb
   obtain⟨o0,y0,f0,o1,y1,f1,o2,y2,f2,o3,y3,f3,HB⟩:=cpl4 HE.o.1.o ((Aq w.heap.size wz)) ω (xR nm) (.int .i64 (va:Nat)) (.int .i64 (vx:Nat)) (.slice A7 L.length c7) _ rfl
   have HTN:=ι (xJ2 (P:=λk=>k=g) (a:=w) (b:=w.heap.size) (.inr ν) [xR nm,.int .i64 (va:Nat),.int .i64 (vx:Nat),.slice A7 L.length c7] 0 wz HE.o.1.tn)
   have HRB:=ι (yH (b:=w.heap.size) (g:=g) (by have:=HE.o.1.hg;omega) [xR nm,.int .i64 (va:Nat),.int .i64 (vx:Nat),.slice A7 L.length c7] 0 wz HE.o.1.rd)
   have HOW:=ι (xW.xHf HE.o.1.own (g:=w.heap.size) [xR nm,.int .i64 (va:Nat),.int .i64 (vx:Nat),.slice A7 L.length c7] 0 (xW.neT HE.o.1.own HE.o.1.o δ));simp only[yE,Nat.reduceAdd] at HTN HRB HOW;have HMV:=HE.o.2;rw[HMV.1] at HV;rw[HMV.2] at HV;clear HE hbb HMV;go_wp2
   refine Ak (v:=.agg #[xR nm,.int .i64 (va:Nat),.int .i64 (vx:Nat),.slice A7 L.length c7]) (by simp[results,results136,go_sem,f0,f1,f2,f3]) rfl ?_;rw[HV.o.1,HV.o.2.1];exact⟨_,_,rfl,HOW.o,HRB.o,HTN.o⟩
end Go.Proofs.IX
namespace Go.Proofs.IX
open Go.RowKit Mailsack MM BB SH SV RK DS
structure qB where
 b:pJ
 A:Option Addr
 c:Nat
abbrev qB.mv (p:qB):Value:=.slice p.A p.b.yL.length p.c
abbrev bxF (p:qB):List Value:=[xR p.b.name,.int .i64 p.b.validity,.int .i64 p.b.next,p.mv]
abbrev bxV (p:qB):Value:=.agg #[xR p.b.name,.int .i64 p.b.validity,.int .i64 p.b.next,p.mv]
theorem xBk (p:qB):(bxF p).length=4:=rfl
theorem yM6 (x:qB):∀u∈bxF x,u.oneCell'=true:=by
 intro u hu;simp only[bxF,De,Dp,Gn] at hu;rcases hu with rfl|rfl|rfl|rfl<;>rfl
theorem infoBx:(prog.info? 55).map (λi=>(i.zero,i.size,i.bytes))=some (some (.agg #[.string ⟨#[]⟩,.int .i64 0,.int .i64 0,.slice none 0 0]),4,56):=κ
theorem tyBx:yEr prog 46 55 4 56 bxF:=by
 obtain⟨i,hi,hz,hs,hb⟩:=jL infoBx;exact⟨underlying46,⟨i,_,hi,hz,hs,hb,rfl⟩,ω,ω,xBk,yM6⟩
abbrev txF (s:Bs):List Value:=[xR s]
theorem xIq (s:Bs):(txF s).length=1:=rfl
theorem yJs (x:Bs):∀u∈txF x,u.oneCell'=true:=by
 intro u hu;rw[Bu.1 hu];rfl
theorem infoTx:(prog.info? 9).map (λi=>(i.zero,i.size,i.bytes))=some (some (.string ⟨#[]⟩),1,16):=κ
theorem tyTx:yEr prog 24 9 1 16 txF:=by
 obtain⟨i,hi,hz,hs,hb⟩:=jL infoTx;exact⟨underlying24,⟨i,_,hi,hz,hs,hb,rfl⟩,ω,ω,xIq,yJs⟩
theorem xUh {w:World} {B:Nat} {v:Value} {l:List Bs} (h:RdR 1 txF w B v l):RdS w B v l:=by
 obtain⟨A,c,h1,h2,h3⟩:=h;refine⟨A,c,h1,h2,λhn=>?_⟩;obtain⟨b,off,h4,h5,h6⟩:=h3 hn;refine⟨b,off,h4,h5,λj x hx=>?_⟩;have:=h6 j x hx 0 _ rfl;rw[Gr,Db] at this;exact this
theorem xOs {w:World} {B:Nat} {v:Value} {l:List qB} (h:RdR 4 bxF w B v l) (hm:∀p∈l,jF w B p.mv p.b.yL):rD w B v (l.map (·.b)):=by
 obtain⟨A,c,h1,h2,h3⟩:=h;refine⟨A,c,by rw[Bw];exact h1,by rw[Bw];exact h2,λhn=>?_⟩;obtain⟨b,off,h4,h5,h6⟩:=h3 (by simpa using hn);refine⟨b,off,h4,h5,λj x hx=>?_⟩;rw[Cg] at hx;obtain⟨p,hp,rfl⟩:=Df.1 hx
 exact⟨p.mv,h6 j p hp 0 _ rfl,h6 j p hp 1 _ rfl,h6 j p hp 2 _ rfl,h6 j p hp 3 _ rfl,hm p (Bb hp)⟩
theorem xW.xD9 {α:Type} {e:TypeId} {k:Nat} {f:α->List Value} {w w':World} {base:Nat} {v:Value} {l:List α} (h:xW e k f w base v l) (hk:∀(g:Nat) cs,w.heap[g]?=some (.cells cs e (0,0))->w'.heap[g]?=some (.cells cs e (0,0))):xW e k f w' base v l:=by
 refine⟨h.1,?_⟩;rcases h.2 with hn|⟨g,cap,cur,h1,h2,h3,h4⟩
 ·exact .inl hn
 ·exact .inr ⟨g,cap,cur,h1,h2,hk g _ h3,h4⟩
abbrev ixO (a b:Value) (n:Int):Obj:=.cells #[a,b,.int .i64 n] 48
structure TkI (w:World) (g xb:Nat) (cb cs ob os:Value) (bl:List qB) (sl:List Bs) (n:Int) (r:RdP) (W:World):Prop where
 o:W.heap[w.heap.size]?=some (ixO (.slice none 0 0) (.slice none 0 0) 0)
 x:W.heap[xb]?=some (ixO cb cs n)
 rd:W.heap[g]?=some (rdO r)
 bo:xW 55 4 bxF W w.heap.size ob bl
 ma:∀p∈bl,xW 57 4 maF W w.heap.size p.mv p.b.yL
 su:xW 9 1 txF W w.heap.size os sl
 bel:ψ w W
 hg:w.heap.size<g
 hx:g<xb
section
variable {w W W':World} {g xb:Nat} {cb cs ob os:Value} {bl:List qB} {sl:List Bs} {n:Int} {r r':RdP}
theorem TkI.below (h:TkI w g xb cb cs ob os bl sl n r W) (hb:ψ W W'):TkI w g xb cb cs ob os bl sl n r W':=
 ⟨xC h.o hb (xH h.o),xC h.x hb (xH h.x),xC h.rd hb (xH h.rd),h.bo.below hb,λp hp=>(h.ma p hp).below hb,h.su.below hb,bT h.bel hb,h.hg,h.hx⟩
theorem TkI.turn (h:TkI w g xb cb cs ob os bl sl n r W) (ht:xWk g r' W W'):TkI w g xb cb cs ob os bl sl n r' W':=by
 have h1:=h.hg;have h2:=h.hx
 have hne:∀(e:TypeId) (q:Nat) cs',e≠211->W.heap[q]?=some (.cells cs' e (0,0))->q≠g:=λe q cs' he hq hqg=>by
  subst hqg;rw[h.rd] at hq;injection hq with hq;injection hq with _ hq;exact he hq.symm
 exact⟨ht.tn.blk h.o ω,ht.tn.blk h.x ω,ht.b,xW.xD9 h.bo λq cs' hq=>ht.tn.blk hq (hne _ q cs' δ hq),λp hp=>xW.xD9 (h.ma p hp) λq cs' hq=>ht.tn.blk hq (hne _ q cs' δ hq),xW.xD9 h.su λq cs' hq=>ht.tn.blk hq (hne _ q cs' δ hq),h.bel.trans (ht.tn.below (λk hk=>by omega) h.bel.size),h.hg,h.hx⟩
theorem TkI.cell (h:TkI w g xb cb cs ob os bl sl n r W) (i:Nat) (v cb' cs':Value) (e:(#[cb,cs,Value.int .i64 n]:Array Value).setIfInBounds i v=#[cb',cs',.int .i64 n]):TkI w g xb cb' cs' ob os bl sl n r (W.setCell (θ xb i) v):=by
 have h1:=h.hg;have h2:=h.hx
 have hne:∀(e:TypeId) (q:Nat) cs',e≠48->W.heap[q]?=some (.cells cs' e (0,0))->q≠xb:=λe q cs' he hq hqg=>by
  subst hqg;rw[h.x] at hq;injection hq with hq;injection hq with _ hq;exact he hq.symm
 have hs:=yD h.x i v;rw[e] at hs
 exact⟨yA h.o (p:=θ xb i) (by show w.heap.size≠xb;omega) _,hs,yA h.rd (p:=θ xb i) (by show g≠xb;omega) _,xW.xD9 h.bo λq cs' hq=>yA hq (p:=θ xb i) (hne _ q cs' δ hq) _,λp hp=>xW.xD9 (h.ma p hp) λq cs' hq=>yA hq (p:=θ xb i) (hne _ q cs' δ hq) _,xW.xD9 h.su λq cs' hq=>yA hq (p:=θ xb i) (hne _ q cs' δ hq) _,h.bel.setCell (p:=θ xb i) (by show w.heap.size<=xb;omega) _,h.hg,h.hx⟩
theorem TkI.appB {p:qB} {ob':Value} (h:TkI w g xb cb cs ob os bl sl n r W) (ha:xA5 55 4 bxF W W' w.heap.size ob ob' (bl++[p])) (hp:xW 57 4 maF W w.heap.size p.mv p.b.yL):TkI w g xb cb cs ob' os (bl++[p]) sl n r W':=
 ⟨ha.keep h.o (xW.neT h.bo h.o δ),ha.keep h.x (xW.neT h.bo h.x δ),ha.keep h.rd (xW.neT h.bo h.rd δ),ha.own,λq hq=>by
  rcases Em.1 hq with hq|hq
  ·exact xW.xD9 (h.ma q hq) λq cs' hq=>ha.keep hq (xW.neT h.bo hq δ)
  ·rw[Bu.1 hq];exact xW.xD9 hp λq cs' hq=>ha.keep hq (xW.neT h.bo hq δ),xW.xD9 h.su λq cs' hq=>ha.keep hq (xW.neT h.bo hq δ),ha.bel h.bo ν h.bel h.bel.size,h.hg,h.hx⟩
theorem TkI.appS {s:Bs} {os':Value} (h:TkI w g xb cb cs ob os bl sl n r W) (ha:xA5 9 1 txF W W' w.heap.size os os' (sl++[s])):TkI w g xb cb cs ob os' bl (sl++[s]) n r W':=
 ⟨ha.keep h.o (xW.neT h.su h.o δ),ha.keep h.x (xW.neT h.su h.x δ),ha.keep h.rd (xW.neT h.su h.rd δ),xW.xD9 h.bo λq cs' hq=>ha.keep hq (xW.neT h.su hq δ),λq hq=>xW.xD9 (h.ma q hq) λq cs' hq=>ha.keep hq (xW.neT h.su hq δ),ha.own,ha.bel h.su ν h.bel h.bel.size,h.hg,h.hx⟩
end
structure wZ (base:Nat) (w:World) (bv sv:Value) (x:yN):Prop where
 bo:∃bl:List qB,x.boxes=bl.map (·.b)/\xW 55 4 bxF w base bv bl/\∀p∈bl,xW 57 4 maF w base p.mv p.b.yL
 su:xW 9 1 txF w base sv x.subs
section
variable {w w':World} {base:Nat} {bv sv:Value} {x:yN}
theorem wZ.rd (h:wZ base w bv sv x):xRk w w.heap.size bv sv x:=by
 obtain⟨bl,e,h1,h2⟩:=h.bo;refine⟨?_,xUh (h.su.rd xIq)⟩;rw[e];exact xOs (h1.rd xBk) (λp hp=>xIb ((h2 p hp).rd xEz))
theorem wZ.below (h:wZ base w bv sv x) (hb:ψ w w'):wZ base w' bv sv x:=by
 obtain⟨bl,e,h1,h2⟩:=h.bo;exact⟨⟨bl,e,h1.below hb,λp hp=>(h2 p hp).below hb⟩,h.su.below hb⟩
theorem wZ.less {base':Nat} (h:wZ base w bv sv x) (hb:base'<=base):wZ base' w bv sv x:=by
 obtain⟨bl,e,h1,h2⟩:=h.bo;exact⟨⟨bl,e,h1.less hb,λp hp=>(h2 p hp).less hb⟩,h.su.less hb⟩
theorem wZ.set (h:wZ base w bv sv x) {g:Nat} {cs:Array Value} {T:TypeId} {fr:Nat×Nat} (hg:w.heap[g]?=some (.cells cs T fr)) (h1:T≠55) (h2:T≠57) (h3:T≠9) (xs:List Value) (i:Nat):wZ base (SV.yE g i xs w) bv sv x:=by
 obtain⟨bl,e,k1,k2⟩:=h.bo;exact⟨⟨bl,e,xW.xHf k1 xs i (xW.neT k1 hg h1),λp hp=>xW.xHf (k2 p hp) xs i (xW.neT (k2 p hp) hg h2)⟩,xW.xHf h.su xs i (xW.neT h.su hg h3)⟩
theorem wZ.form (h:wZ base w bv sv x):∃A1 n1 c1 A2 n2 c2,bv=.slice A1 n1 c1/\sv=.slice A2 n2 c2:=by
 obtain⟨bl,e,h1,h2⟩:=h.bo;obtain⟨A1,c1,e1,_⟩:=h1.form;obtain⟨A2,c2,e2,_⟩:=h.su.form;exact⟨A1,_,c1,A2,_,c2,e1,e2⟩
theorem wZ.zero (w:World) (base:Nat):wZ base w (.slice none 0 0) (.slice none 0 0) ix0:=⟨⟨[],rfl,xW.nil w base,λ_ h=>nomatch h⟩,xW.nil w base⟩
end
end Go.Proofs.IX
namespace Mailsack
theorem yA4 {l:List Slot} {k:Nat} {t:Slot} (h:l[k]?=some t):usedNames (l.take (k+1))=usedNames (l.take k)++(if t.used=true then[t.name] else[]):=by
 unfold usedNames;rw[Cc,h,List.filter_append,Da];cases hq:t.used with
 |true=>simp[hq]
 |false=>simp[hq]
theorem xUd (l:List Slot) (k:Nat):(usedNames (l.take k)).length<=k:=by
 unfold usedNames;rw[Bw];have h1:=Ev (λt:Slot=>t.used) (l.take k);have h2:=Ei k l;omega
end Mailsack
namespace Go.Proofs.ST
open Go.RowKit Go.Lib Mailsack MM BB SH SV RK DS IX
theorem yLu (l:List Bs):l.flatMap txF=l.map xR:=by
 induction l with
 |nil=>rfl
 |cons x l ih=>
  rw[Cz,Du,ih]
  rfl
theorem yKf {w:World} {base:Nat} {v:Value} {l:List Bs} (h:xW 9 1 txF w base v l):xWm w base v l:=by
 unfold xWm;rw[<-yLu];exact h
structure NmM (w:World) (gl:Nat) (sl:List Slot) (v:Value) (L:List Bs) (W:World):Prop where
 sl:rG 137 rW W gl sl
 own:xW 9 1 txF W w.heap.size v L
 bel:ψ w W
theorem NmM.below {w W W':World} {gl:Nat} {ts:List Slot} {v:Value} {L:List Bs} (h:NmM w gl ts v L W) (hb:ψ W W'):NmM w gl ts v L W':=⟨h.sl.below hb,h.own.below hb,bT h.bel hb⟩
theorem yBz (va vb:Value) (d:Dk) (w:World) (h:RdD w w.heap.size va vb d):
  Calls prog 54 #[.agg #[va,vb]] w λe w'=>∃v,e=.returned v/\RdS w' w'.heap.size v (xAg d)/\ψ w w':=by
 obtain⟨A1,c1,A2,c2,rfl,rfl⟩:=yC h;have HA:=ι (φ w (yI (.slice A1 d.secs.length c1) (.slice A2 d.cache.length c2)));have hD0:=xJ w (yI (.slice A1 d.secs.length c1) (.slice A2 d.cache.length c2));obtain⟨d0,d1⟩:=uQ hD0;clear hD0
 have HCT:=ι (xDp _ _ d _ ((h.below HA.o ν).more HA.o.size));have HN:Hid (xAg d=if wX d=true then Go.Lib.compact (jZ (usedNames (yG (xY d).secs))) else[]):=ι rfl;have HFL:Hid (wX d=true->(xY d).secs.length=381/\∀s∈(xY d).secs,s.length=64):=ι xOb
 have HCP:Hid (∀v W,xWn d v W->wX d=true->RdS W W.heap.size v (xY d).secs):=ι (λv W h=>h);obtain⟨np,hnp⟩:=eX (xAg d);rw[hnp] at HN⊢;clear hnp h;cases hc:wX d with
 |false=>
  rw[hc] at HCT HN;rw[Ag σ] at HN;clear hc HFL HCP;go_enter func54,ntmps54;go_wp2_with fail
  refine HCT.o.mono ?_;rintro e w1 ⟨v,rfl,_,hb⟩;have HB:=ι (bT HA.o hb);clear hb HA HCT d0 d1;go_wp2;go_ret;exact⟨_,rfl,by rw[HN.o];exact⟨none,0,rfl,Bd _,λh=>by simp at h⟩,HB.o⟩
 |true=>
  have xA4:=ι (HFL.o hc);have xZ6:=ι (λv W h=>HCP.o v W h hc);rw[hc] at HCT HN;rw[Ah rfl] at HN;clear hc HFL HCP;generalize (xY d).secs=S at HN xA4 xZ6;go_enter func54,ntmps54;go_wp2_with fail
  refine HCT.o.mono ?_;rintro e w1 ⟨v,rfl,hct,hb⟩;have HB1:=ι (bT HA.o hb);have HSO:=ι (xIy v S w1 (xZ6.o v w1 hct) xA4.o.1 xA4.o.2);obtain⟨A5,c5,rfl,_⟩:=xZ6.o v w1 hct;clear hct hb HCT xZ6 d0 d1 HA;go_wp2_with fail
  refine HSO.o.mono ?_;rintro e w2 ⟨gl,rfl,hgl,hsl,hb2⟩;have HSL:=ι (qD xA4.o.1);have H0:Hid (NmM w gl (yG S) (.slice none 0 0) (usedNames ((yG S).take 0)) w2):=ι ⟨hsl,xW.nil _ _,bT HB1.o hb2⟩;clear hsl hb2 hgl HSO HB1 xA4;generalize yG S=sl at HN HSL H0
  go_wp2_with fail
  go_loopw [5,18] (λtv iv wr=>∃k:Nat,k<=32/\iv=.int .i64 k/\Hid (NmM w gl sl tv (usedNames (sl.take k)) wr)) (λ_ iv _=>32- (intOf iv).toNat)
  case atStart=>exact⟨0,Bc _,rfl,H0⟩
  case round=>
   obtain⟨k,hk,rfl,HI⟩:=hrel;clear H0
   by_cases hlt:k<32
   ·obtain⟨x,hx⟩:∃x,sl[k]?=some x:=⟨_,Af (by have:=HSL.o;omega)⟩;have q0:=HI.o.sl.cell zZ (i:=0) hx rfl;have q1:=HI.o.sl.cell zZ (i:=1) hx rfl;have q2:=HI.o.sl.cell zZ (i:=2) hx rfl;have q3:=HI.o.sl.cell zZ (i:=3) hx rfl
    have q4:=HI.o.sl.cell zZ (i:=4) hx rfl;rw[Db] at q0;have HS:=ι (yA4 hx);have HTL:=ι (xUd sl k);have HA:=ι (HI.o.below ((Aq _ _).alloc ν (kQ x)));have hbx:=xJ wr (kQ x);obtain⟨x0,x1,x2,x3,x4⟩:=xZe hbx;generalize usedNames (sl.take k)=T at HI HS HTL HA
    clear hx hbx HI;go_upto_region 8 with fail
    clear q0 q1 q2 q3 q4;obtain⟨xu,xc,xb,xs,xn⟩:=x;simp only at HS HA x0 x1 x2 x3 x4;generalize wr.alloc (.cells #[.bool xu,.int .i64 xc,.int .i64 xb,.int .i64 xs,xR xn] 137)=w3 at HA x0 x1 x2 x3 x4⊢;cases xu with
    |true=>
     rw[Ah rfl] at HS;go_upto_region 9 with fail
     have HAD:Hid (∀v8 w8,xA5 9 1 txF (w3.alloc (.cells #[xR xn] 9)) w8 w.heap.size u5 v8 (T++[xn])->Hid (NmM w gl sl v8 (usedNames (sl.take (k+1))) w8)):=ι λv8 w8 h8=>ι (by
      have h9:=xN HA.o.sl.blk (.cells #[xR xn] 9);exact⟨h8.keep h9 (xW.neT (HA.o.own.alloc _) h9 δ),by rw[HS.o];exact h8.own,h8.bel (HA.o.own.alloc _) ν (HA.o.bel.alloc HA.o.bel.size _) (by have:=HA.o.bel.size;simp;omega)⟩)
     have hsz:=HA.o.bel.size;go_wp2_with (at_builtin;refine uG tyTx rfl _ _ rfl rfl rfl (HA.o.own.alloc _) (RdR.lit (m:=[xn]) xIq _ _ rfl) (by have:=HTL.o;simp;omega) (by simp;omega) ?_;intro v8 w8 h8;have HA8:=HAD.o _ _ h8;clear h8)
     exact⟨⟨k+1,ω,by go_num,HA8⟩,by simp[intOf];omega⟩
    |false=>
     rw[Ag σ,Dw] at HS;have HA9:Hid (NmM w gl sl u5 (usedNames (sl.take (k+1))) w3):=ι (by rw[HS.o];exact HA.o);go_wp2;exact⟨⟨k+1,ω,by go_num,HA9⟩,by simp[intOf];omega⟩
   ·obtain rfl:k=32:=ω;have HE:Hid (usedNames (sl.take 32)=usedNames sl):=ι (by rw[Ce (by rw[HSL.o];omega)]);rw[HE.o] at HI;have HUL:Hid ((usedNames sl).length<=32):=ι (by rw[<-HE.o];exact xUd sl 32);clear hlt hk HE HSL
    have HSS:=ι (yAr (yKf HI.o.own) (by have:=HUL.o;omega));have HBI:=ι HI.o.bel;have HSRT:Hid ((jZ (usedNames sl)).length<=32):=ι (by unfold jZ;rw[Gw];exact HUL.o);clear HI HUL;generalize usedNames sl=us at HN HSS HSRT;go_wp2_with fail
    refine HSS.o.mono ?_;rintro e w4 ⟨rfl,hb4,hor⟩;have HB4:=ι (HBI.o.trans hb4);clear hb4 HSS HBI;rcases hor with ⟨h1,h2⟩|⟨g,c,h1,h2,h3,h4,h5⟩
    ·subst h1;rw[h2];have HCO:=ι (Tryz.slices_Compact_string_empty none 0 w4);rw[show Go.Lib.compact (jZ ([]:List Bs))=[] by simp[jZ,Go.Lib.compact,Go.Lib.compactUpTo]] at HN;clear h2;go_wp2_with fail
     refine HCO.o.mono ?_;rintro e w5 ⟨rfl,hw5⟩;rw[hw5];clear hw5 w5;go_wp2;go_ret;exact⟨_,rfl,by rw[HN.o];exact⟨none,0,rfl,Bd _,λh=>by simp at h⟩,HB4.o⟩
    ·rw[h1];have HCO:=ι (xR4 h5 h3 h4 (by have:=HSRT.o;omega) h2);clear h1 h2 h3 h4 h5;go_wp2_with fail
     refine HCO.o.mono ?_;rintro e w5 ⟨rfl,hr5,hb5⟩;have HR5:=ι (Ai hr5 (HB4.o.trans hb5));clear hr5 hb5 HCO HB4;go_wp2;go_ret;exact⟨_,rfl,by rw[HN.o];exact HR5.o.1,HR5.o.2⟩
end Go.Proofs.ST
namespace Mailsack
def U64 (x:Int):Prop:=0<=x/\x<18446744073709551616
theorem zP (op:Go.BinOp) (x y:Int):U64 (Go.bits op .u64 x y):=by
 have h:=Go.wf_bits op .u64 x y;simp[Go.Lit.wf] at h;have e1:Go.IntKind.u64.min=0:=δ;have e2:Go.IntKind.u64.max=18446744073709551615:=δ;unfold U64;omega
theorem xGv (x:Int):U64 (x % 18446744073709551616):=⟨ω,ω⟩
def xZv (c0 c1 c2 c3:Int):Int:=Go.bits .or .u64 (Go.bits .or .u64 (Go.bits .or .u64 c0 (c1*256)) (c2*65536)) (c3*16777216)
def vT (s:ByteArray) (i:Nat):Int:=xZv (yU (s.extract i (i+4)) 0) (yU (s.extract i (i+4)) 1) (yU (s.extract i (i+4)) 2) (yU (s.extract i (i+4)) 3)
theorem xBd (s:ByteArray) (i:Nat):U64 (vT s i):=by unfold vT xZv;exact zP _ _ _
structure L5 where
 a:Int
 b:Int
 c:Int
 d:Int
 e:Int
def L5.list (l:L5):List Int:=[l.a,l.b,l.c,l.d,l.e]
def L5.ok (l:L5):Prop:=U64 l.a/\U64 l.b/\U64 l.c/\U64 l.d/\U64 l.e
def uN (s:ByteArray):L5:=
 ⟨Go.bits .and .u64 (vT s 0) 67108863,Go.bits .and .u64 (vT s 3 / 4) 67108863,Go.bits .and .u64 (vT s 6 / 16) 67108863,vT s 9 / 64,vT s 12 / 256⟩
theorem xCv (s:ByteArray):(uN s).ok:=by
 have h9:=xBd s 9;have h12:=xBd s 12;refine⟨by simp only[uN];exact zP _ _ _,by simp only[uN];exact zP _ _ _,by simp only[uN];exact zP _ _ _,?_,?_⟩
 ·unfold U64 at h9;show U64 (vT s 9 / 64);unfold U64;omega
 ·unfold U64 at h12;show U64 (vT s 12 / 256);unfold U64;omega
def tF (s:ByteArray):L5:=
 ⟨(uN s).a,Go.bits .and .u64 (uN s).b 67108611,Go.bits .and .u64 (uN s).c 67092735,Go.bits .and .u64 (uN s).d 66076671,Go.bits .and .u64 (uN s).e 1048575⟩
theorem yE4 (s:ByteArray):(tF s).ok:=⟨(xCv s).1,by simp only[tF];exact zP _ _ _,by simp only[tF];exact zP _ _ _,by simp only[tF];exact zP _ _ _,by simp only[tF];exact zP _ _ _⟩
end Mailsack
namespace Go.Proofs.SH
open Go.RowKit Mailsack MM BB
theorem rV {w W:World} (h:ψ w W) (i:Nat) (u:Value):ψ w (W.setCell (θ w.heap.size i) u):=h.setCell (p:=θ w.heap.size i) ν u
theorem xAk (s:ByteArray) (i:Nat) (w:World) (hi:i+4<=s.size) (hs:s.size<=1099511627776):
  Calls prog 217 #[.string s,.int .i64 i] w (pv (.int .u64 (vT s i)) w):=by
 obtain⟨z,hz⟩:=eX (vT s i);rw[hz];unfold vT at hz;have hxs:(s.extract i (i+4)).size=4:=by rw[Az];omega
 go_enter func217,ntmps217;go_upto_region 2 with fail
 generalize s.extract i (i+4)=x at hz hxs⊢;have i0:=λw=>zN (P:=prog) underlying9 x 0 0 rfl ω w;have i1:=λw=>zN (P:=prog) underlying9 x 1 1 rfl ω w;have i2:=λw=>zN (P:=prog) underlying9 x 2 2 rfl ω w
 have i3:=λw=>zN (P:=prog) underlying9 x 3 3 rfl ω w;obtain⟨r00,r01⟩:=zD x 0;obtain⟨r10,r11⟩:=zD x 1;obtain⟨r20,r21⟩:=zD x 2;obtain⟨r30,r31⟩:=zD x 3;generalize yU x 0=c0 at i0 r00 r01 hz;generalize yU x 1=c1 at i1 r10 r11 hz;generalize yU x 2=c2 at i2 r20 r21 hz
 generalize yU x 3=c3 at i3 r30 r31 hz;unfold xZv at hz;have HZ:=ι hz;clear hz hxs hi hs;refine RG.xU (λW=>Hid (ψ w W)) κ κ (ι (Aq _ _).drew) ?_;iterate 18 refine RG.dS ?_
 rw[HZ.o];refine RG.dS ?_;refine RG.xX (λw9 hw9=>?_);clear i0 i1 i2 i3;go_wp2;go_ret;exact⟨rfl,hw9.o⟩
theorem xPi (s:ByteArray) (w:World) (hs:s.size=16):
  Calls prog 202 #[.string s] w (pv (.agg #[.int .u64 (uN s).a,.int .u64 (uN s).b,.int .u64 (uN s).c,.int .u64 (uN s).d,.int .u64 (uN s).e]) w):=by
 have W0:Hid (∀W,Calls prog 217 #[.string s,.int .i64 0] W (pv (.int .u64 (vT s 0)) W)):=ι (λW=>xAk s 0 W ω ω);have W3:Hid (∀W,Calls prog 217 #[.string s,.int .i64 3] W (pv (.int .u64 (vT s 3)) W)):=ι (λW=>xAk s 3 W ω ω)
 have W6:Hid (∀W,Calls prog 217 #[.string s,.int .i64 6] W (pv (.int .u64 (vT s 6)) W)):=ι (λW=>xAk s 6 W ω ω);have W9:Hid (∀W,Calls prog 217 #[.string s,.int .i64 9] W (pv (.int .u64 (vT s 9)) W)):=ι (λW=>xAk s 9 W ω ω)
 have W12:Hid (∀W,Calls prog 217 #[.string s,.int .i64 12] W (pv (.int .u64 (vT s 12)) W)):=ι (λW=>xAk s 12 W ω ω)
 have HP:Hid (uN s=⟨bits .and .u64 (vT s 0) 67108863,bits .and .u64 (vT s 3 / 4) 67108863,bits .and .u64 (vT s 6 / 16) 67108863,vT s 9 / 64,vT s 12 / 256⟩):=ι rfl;obtain⟨u30,u31⟩:=xBd s 3;obtain⟨u60,u61⟩:=xBd s 6;obtain⟨u90,u91⟩:=xBd s 9;obtain⟨uc0,uc1⟩:=xBd s 12;rw[HP.o]
 generalize vT s 0=x0 at W0 HP⊢;generalize vT s 3=x3 at W3 HP u30 u31⊢;generalize vT s 6=x6 at W6 HP u60 u61⊢;generalize vT s 9=x9 at W9 HP u90 u91⊢;generalize vT s 12=x12 at W12 HP uc0 uc1⊢
 have B0:=ι (φ w (.cells #[.int .u64 0,.int .u64 0,.int .u64 0,.int .u64 0,.int .u64 0] 273));have P0:=ι (xJ w (.cells #[.int .u64 0,.int .u64 0,.int .u64 0,.int .u64 0,.int .u64 0] 273));clear hs HP;go_enter func202,ntmps202;go_wp2_with fail
 refine cM (W0.o _) λw1 hb=>?_;have B1:=ι (bT B0.o hb);have P1:=ι (xC P0.o hb σ);clear hb P0 B0;go_wp2_with fail
 refine cM (W3.o _) λw2 hb=>?_;have B2:=ι (bT B1.o hb);have P2:=ι (xC P1.o hb (xH P1.o));clear hb P1 B1;go_wp2_with fail
 refine cM (W6.o _) λw3 hb=>?_;have B3:=ι (bT B2.o hb);have P3:=ι (xC P2.o hb (xH P2.o));clear hb P2 B2;go_wp2_with fail
 refine cM (W9.o _) λw4 hb=>?_;have B4:=ι (bT B3.o hb);have P4:=ι (xC P3.o hb (xH P3.o));clear hb P3 B3;go_wp2_with fail
 refine cM (W12.o _) λw5 hb=>?_;have B5:=ι (bT B4.o hb);have P5:=xC P4.o hb (xH P4.o);have f0:=xA P5 0;have f1:=xA P5 1;have f2:=xA P5 2;have f3:=xA P5 3;have f4:=xA P5 4;have y0:=xG P5 0;have y1:=xG P5 1;have y2:=xG P5 2;have y3:=xG P5 3
 have y4:=xG P5 4;clear hb P4 B4 P5;go_wp2
 refine Ak (v:=.agg #[.int .u64 (bits .and .u64 x0 67108863),.int .u64 (bits .and .u64 (x3 / 4) 67108863),.int .u64 (bits .and .u64 (x6 / 16) 67108863),.int .u64 (x9 / 64),.int .u64 (x12 / 256)]) (by simp[results,results202,go_sem,f0,f1,f2,f3,f4]) rfl ?_
 refine⟨rfl,?_⟩;have h:=B5.o;clear f0 f1 f2 f3 f4 y0 y1 y2 y3 y4;have k0:=rV h 0 (.int .u64 (bits .and .u64 x0 67108863));have k1:=rV k0 1 (.int .u64 (bits .and .u64 (x3 / 4) 67108863));have k2:=rV k1 2 (.int .u64 (bits .and .u64 (x6 / 16) 67108863))
 have k3:=rV k2 3 (.int .u64 (x9 / 64));have k4:=rV k3 4 (.int .u64 (x12 / 256));with_reducible exact k4
theorem xGb (s:ByteArray) (w:World) (hs:s.size=16):
  Calls prog 201 #[.string s] w (pv (.agg #[.int .u64 (tF s).a,.int .u64 (tF s).b,.int .u64 (tF s).c,.int .u64 (tF s).d,.int .u64 (tF s).e]) w):=by
 have HS:=ι (λW=>xPi s W hs);have HP:Hid (tF s=⟨(uN s).a,bits .and .u64 (uN s).b 67108611,bits .and .u64 (uN s).c 67092735,bits .and .u64 (uN s).d 66076671,bits .and .u64 (uN s).e 1048575⟩):=ι rfl;rw[HP.o];generalize uN s=q at HS HP⊢;obtain⟨a,b,c,d,e⟩:=q
 have B0:=ι (φ w (.cells #[.int .u64 0,.int .u64 0,.int .u64 0,.int .u64 0,.int .u64 0] 273));have P0:=ι (xJ w (.cells #[.int .u64 0,.int .u64 0,.int .u64 0,.int .u64 0,.int .u64 0] 273));clear hs HP;go_enter func201,ntmps201;go_wp2_with fail
 refine(HS.o _).mono ?_;rintro e2 w1 ⟨rfl,hb⟩;have B1:=ι (bT B0.o hb)
 have P1:=xN (xC P0.o hb σ) (.cells #[.int .u64 a,.int .u64 (bits .and .u64 b 67108611),.int .u64 (bits .and .u64 c 67092735),.int .u64 (bits .and .u64 d 66076671),.int .u64 (bits .and .u64 e 1048575)] 273)
 have B2:=ι (B1.o.alloc B1.o.size (.cells #[.int .u64 a,.int .u64 (bits .and .u64 b 67108611),.int .u64 (bits .and .u64 c 67092735),.int .u64 (bits .and .u64 d 66076671),.int .u64 (bits .and .u64 e 1048575)] 273));have f0:=xA P1 0;have f1:=xA P1 1;have f2:=xA P1 2
 have f3:=xA P1 3;have f4:=xA P1 4;have y0:=xG P1 0;have y1:=xG P1 1;have y2:=xG P1 2;have y3:=xG P1 3;have y4:=xG P1 4;clear hb P0 B0 P1 B1;go_wp2
 refine Ak (v:=.agg #[.int .u64 a,.int .u64 (bits .and .u64 b 67108611),.int .u64 (bits .and .u64 c 67092735),.int .u64 (bits .and .u64 d 66076671),.int .u64 (bits .and .u64 e 1048575)]) (by simp[results,results201,go_sem,f0,f1,f2,f3,f4]) rfl ?_;refine⟨rfl,?_⟩
 have h:=B2.o;clear f0 f1 f2 f3 f4 y0 y1 y2 y3 y4;have k0:=rV h 0 (.int .u64 a);have k1:=rV k0 1 (.int .u64 (bits .and .u64 b 67108611));have k2:=rV k1 2 (.int .u64 (bits .and .u64 c 67092735));have k3:=rV k2 3 (.int .u64 (bits .and .u64 d 66076671))
 have k4:=rV k3 4 (.int .u64 (bits .and .u64 e 1048575));with_reducible exact k4
end Go.Proofs.SH
namespace Mailsack
def yT (ws:List Int):Prop:=∀i,U64 (ws.getD i 0)
theorem yT.set {ws:List Int} (h:yT ws) (i:Nat) {x:Int} (hx:U64 x):yT (ws.set i x):=by
 intro j;rw[Aa,Co];split
 ·split
  ·exact hx
  ·exact⟨δ,δ⟩
 ·have:=h j
  rwa [Aa] at this
theorem xCr (n:Nat):yT (List.replicate n 0):=by
 intro i;rw[Aa,Fa];split<;>exact⟨δ,δ⟩
theorem L5.all {l:L5} (h:l.ok):yT l.list:=by
 obtain⟨h0,h1,h2,h3,h4⟩:=h;intro i
 match i with
 |0=>exact h0
 |1=>exact h1
 |2=>exact h2
 |3=>exact h3
 |4=>exact h4
 |n+5=>
  rw[Aa,Bz (by simp[L5.list])];exact⟨δ,δ⟩
theorem wrap_u64 (x:Int):U64 (Go.IntKind.u64.wrap x):=by
 rw[show Go.IntKind.u64.wrap x=x % 18446744073709551616 from by simp[Go.IntKind.wrap,Go.IntKind.signed,Go.IntKind.bits]];exact xGv x
def yZ (l:List Int):Nat->List Int×Int
 |0=>(l,0)
 |i+1=>((yZ l i).1.set i (Go.bits .and .u64 (Go.IntKind.u64.wrap ((yZ l i).1.getD i 0+(yZ l i).2)) 67108863),Go.IntKind.u64.wrap ((yZ l i).1.getD i 0+(yZ l i).2) / 67108864)
theorem xBz (l:List Int):∀i,(yZ l i).1.length=l.length
 |0=>rfl
 |i+1=>by simp[yZ,xBz l i]
theorem xGd {l:List Int} (h:yT l):∀i,yT (yZ l i).1
 |0=>h
 |i+1=>(xGd h i).set i (zP _ _ _)
theorem xKi (l:List Int):∀i,0<=(yZ l i).2/\(yZ l i).2<274877906944
 |0=>⟨by simp[yZ],by simp[yZ]⟩
 |i+1=>by
  have ⟨h0,h1⟩:=wrap_u64 ((yZ l i).1.getD i 0+(yZ l i).2);simp only[yZ];omega
def kW (l:List Int):List Int:=(yZ l 5).1.set 0 (Go.IntKind.u64.wrap ((yZ l 5).1.getD 0 0+5*(yZ l 5).2))
theorem qJ (l:List Int):(kW l).length=l.length:=by unfold kW;rw[Bf,xBz]
theorem xB8 {l:List Int} (h:yT l):yT (kW l):=(xGd h 5).set 0 (wrap_u64 _)
end Mailsack
namespace Go.Proofs.SH
open Go.RowKit Mailsack MM BB
def xI (ws:List Int):Array Value:=(ws.map λx=>Value.int .u64 x).toArray
theorem yB (ws:List Int):(xI ws).size=ws.length:=by simp[xI]
theorem xEa {ws:List Int} {i:Nat} (h:i<ws.length):(xI ws)[i]?=some (.int .u64 (ws.getD i 0)):=by
 simp[xI,Aa,Af h]
theorem xW1 (ws:List Int) (i:Nat) (x:Int):(xI ws).setIfInBounds i (.int .u64 x)=xI (ws.set i x):=by
 simp[xI,Gb]
theorem yM (ws:List Int):(xI ws).all (·.oneCell')=true:=by
 simp[xI,Value.oneCell']
def wB (W:World) (g:Nat) (ws:List Int):Prop:=W.heap[g]?=some (.cells (xI ws) 273 (0,0))
theorem wB.blk {W:World} {g:Nat} {ws:List Int} (h:wB W g ws):W.heap[g]?=some (.cells (xI ws) 273 (0,0)):=h
theorem wB.put {W:World} {g:Nat} {ws:List Int} (h:wB W g ws) (i:Nat) (x:Int):wB (W.setCell (θ g i) (.int .u64 x)) g (ws.set i x):=by
 have:=yD h.blk i (.int .u64 x);rw[xW1] at this;exact this
theorem wB.far {W:World} {g:Nat} {ws:List Int} (h:wB W g ws) {p:Addr} (hp:g≠p.block) (u:Value):wB (W.setCell p u) g ws:=yA h.blk hp u
theorem wB.cell {W:World} {g:Nat} {ws:List Int} (h:wB W g ws) {i:Nat} (hi:i<ws.length):W.cell? (θ g i)=some (.int .u64 (ws.getD i 0)):=by rw[xA h.blk,xEa hi]
theorem wB.free {W:World} {g:Nat} {ws:List Int} (h:wB W g ws) (i:Nat):W.frozen? (θ g i)=false:=xG h.blk i
theorem xEh {ws:List Int} (h:ws.length=5):(prog.info? 273).map (·.size)=some (xI ws).size:=by rw[yB,h];kernel_rfl
structure xP7 (w:World) (ws:List Int) (W:World):Prop where
 st:wB W w.heap.size ws
 res:wB W (w.heap.size+1) (List.replicate 5 0)
 bel:ψ w W
theorem xP7.put {w:World} {ws:List Int} {W:World} (h:xP7 w ws W) (i:Nat) (x:Int):xP7 w (ws.set i x) (W.setCell (θ w.heap.size i) (.int .u64 x)):=
 ⟨h.st.put i x,h.res.far (p:=θ w.heap.size i) σ _,h.bel.setCell (p:=θ w.heap.size i) ν _⟩
theorem xKh (ws:List Int) (w:World) (hl:ws.length=5) (hu:yT ws):
  Calls prog 218 #[.agg (xI ws)] w (pv (.agg (xI (kW ws))) w):=by
 have H0:Hid (xP7 w (yZ ws 0).1 ((w.alloc (.cells (xI ws) 273)).alloc (.cells (xI (List.replicate 5 0)) 273))):=ι ⟨zM _ _ _,zI _ _ _,(φ w _).alloc σ _⟩;have HL:Hid (∀i,(yZ ws i).1.length=5):=ι (λi=>by rw[xBz,hl]);have HU:=ι (λi=>xGd hu i);have HV:=ι (λi=>xKi ws i)
 have HS:Hid (∀i,(yZ ws (i+1)).1=(yZ ws i).1.set i (bits .and .u64 (IntKind.u64.wrap ((yZ ws i).1.getD i 0+(yZ ws i).2)) 67108863)/\(yZ ws (i+1)).2=IntKind.u64.wrap ((yZ ws i).1.getD i 0+(yZ ws i).2) / 67108864):=ι (λi=>⟨rfl,rfl⟩)
 have HP:Hid (∀n,n=5->kW ws=(yZ ws n).1.set 0 (IntKind.u64.wrap ((yZ ws n).1.getD 0 0+5*(yZ ws n).2))):=ι (λn hn=>by rw[hn];rfl);have HPL:Hid ((kW ws).length=5):=ι (by rw[qJ,hl]);clear hl hu;go_enter func218,ntmps218;go_wp2_with fail
 go_loopw [3,5] (λov iv wr=>∃i:Nat,i<=5/\iv=.int .i64 i/\ov=.int .u64 (yZ ws i).2/\Hid (xP7 w (yZ ws i).1 wr)) (λ_ iv _=>5- (intOf iv).toNat)
 case atStart=>exact⟨0,δ,rfl,rfl,H0⟩
 case round=>
  clear H0;obtain⟨i,hi,rfl,rfl,hr⟩:=hrel;obtain⟨v0,v1⟩:=HV.o i
  by_cases hlt:i<5
  ·have hl:=HL.o i;obtain⟨u0,u1⟩:=HU.o i i;have hl5:=HL.o i;obtain⟨s1,s2⟩:=HS.o i;obtain⟨x1,hx1⟩:=eX ((yZ ws (i+1)).1);obtain⟨o1,ho1⟩:=eX ((yZ ws (i+1)).2);rw[hx1] at s1;rw[ho1] at s2;have HX1:=ι hx1;have HO1:=ι ho1;clear hx1 ho1
   generalize (yZ ws i).2=o at v0 v1 s1 s2⊢;generalize (yZ ws i).1=xs at hr hl5 u0 u1 s1 s2;have q0:=hr.o.st.cell (i:=i) ω;have q1:=hr.o.st.free i;obtain⟨x,hx⟩:=eX (xs.getD i 0);rw[hx] at q0 u0 u1 s1 s2;obtain⟨z,hz⟩:=eX (IntKind.u64.wrap (x+o));rw[hz] at s1 s2
   have hzr:=wrap_u64 (x+o);rw[hz] at hzr;obtain⟨z0,z1⟩:=hzr;have HZ:=ι hz;have hlx:xs.length=5:=hl5;have HA:Hid (xP7 w (xs.set i z) (wr.setCell (θ w.heap.size i) (.int .u64 z))):=ι (hr.o.put i z)
   have HB:Hid (xP7 w x1 ((wr.setCell (θ w.heap.size i) (.int .u64 z)).setCell (θ w.heap.size i) (.int .u64 (bits .and .u64 z 67108863)))):=ι (by
    have h:=HA.o.put i (bits .and .u64 z 67108863);rw[List.set_set,<-s1] at h;exact h)
   have HS2:=ι s2
   have HQ:Hid (∀W,Hid (xP7 w (xs.set i z) W)->W.cell? (θ w.heap.size i)=some (.int .u64 z)/\W.frozen? (θ w.heap.size i)=false):=ι (λW h=>by
    have q:=h.o.st.cell (i:=i) (by rw[Bf];omega);rw[Aa,Cw ω] at q;exact⟨q,h.o.st.free i⟩)
   clear hx hz s1 s2 hr hlx hl5;go_upto_region 6 with fail
   rw[HZ.o];clear q0 q1 u0 u1
   revert HB
   refine(λ(h:∀W3,Hid (xP7 w (xs.set i z) W3)->Hid (xP7 w x1 (W3.setCell (θ w.heap.size i) (.int .u64 (bits .and .u64 z 67108863))))->Code.wp _ _ _ _ W3)=>h _ HA) ?_;clear HA;intro w3 hw3 HB;obtain⟨q0,q1⟩:=HQ.o w3 hw3;clear HQ;go_wp2;refine⟨⟨i+1,ω,?_,?_,?_⟩,?_⟩
   ·exact Ap (Value.int .i64) ω
   ·rw[HO1.o,HS2.o]
   ·rw[HX1.o];exact HB
   ·simp[intOf];omega
  ·have hi5:i=5:=ω;have hP:=HP.o i hi5;obtain⟨u0,u1⟩:=HU.o i 0;generalize (yZ ws i).2=o at v0 v1 hP⊢;have hl5:=HL.o i;generalize (yZ ws i).1=xs at hr hl5 u0 u1 hP;have q0:=hr.o.st.cell (i:=0) ω;have q1:=hr.o.st.free 0;obtain⟨x,hx⟩:=eX (xs.getD 0 0);rw[hx] at q0 u0 u1 hP
   obtain⟨z,hz⟩:=eX (IntKind.u64.wrap (x+5*o));rw[hz] at hP;have HZ:=ι hz;have HF:=ι hP;have HA:Hid (xP7 w (xs.set 0 z) (wr.setCell (θ w.heap.size 0) (.int .u64 z))):=ι (hr.o.put 0 z)
   have HI:Hid ((prog.info? 273).map (·.size)=some (xI (xs.set 0 z)).size):=ι (xEh (by rw[Bf];exact hl5));have HZ5:Hid ((xI (List.replicate 5 0)).size=(xI (xs.set 0 z)).size):=ι (by rw[yB,yB,Bf,hl5];rfl);have hneg:¬((i:Int)<5):=ω
   clear hx hz hP HP hr hl5 hi5 hlt hi;go_upto_region 10 with fail
   rw[HZ.o];clear q0 q1 u0 u1 v0 v1;refine(λ(h:∀W3,Hid (xP7 w (xs.set 0 z) W3)->Code.wp _ _ _ _ W3)=>h _ HA) ?_;clear HA;intro w3 hw3;refine Bi ?_;refine Ao rfl _ _ rfl w.heap.size rfl _ (xI (xs.set 0 z)) (0,0) _ hw3.o.st underlying273 rfl HI.o ?_
   refine Av rfl _ _ _ rfl (w.heap.size+1) (xI (xs.set 0 z)) rfl rfl _ _ hw3.o.res HI.o HZ5.o (yM _) ?_;go_wp2;refine Ak (Dn rfl _ _ (w.heap.size+1) _ _ (0,0) _ rfl (Bp _ _ _ _ _ _ hw3.o.res) underlying273 rfl HI.o) rfl ?_
   rw[HF.o];exact⟨rfl,Bn hw3.o.bel ω _⟩
end Go.Proofs.SH
namespace Mailsack
def kK (k:Nat):Nat:=if 5<=k then k-5 else k
def yK (y:Int) (k:Nat):Int:=if 5<=k then Go.IntKind.u64.wrap (y*5) else y
def xRt (x:Int) (i:Nat) (r d:List Int):Nat->List Int
 |0=>d
 |j+1=>(xRt x i r d j).set (kK (i+j)) (Go.IntKind.u64.wrap ((xRt x i r d j).getD (kK (i+j)) 0+Go.IntKind.u64.wrap (x*yK (r.getD j 0) (i+j))))
theorem xNq (x:Int) (i:Nat) (r d:List Int):∀j,(xRt x i r d j).length=d.length
 |0=>rfl
 |j+1=>by rw[xRt,Bf,xNq x i r d j]
theorem yC2 (x:Int) (i:Nat) (r:List Int) {d:List Int} (h:yT d):∀j,yT (xRt x i r d j)
 |0=>h
 |j+1=>(yC2 x i r h j).set _ (wrap_u64 _)
def xSy (h r:List Int):Nat->List Int
 |0=>List.replicate 5 0
 |i+1=>xRt (h.getD i 0) i r (xSy h r i) 5
theorem xNs (h r:List Int):∀i,(xSy h r i).length=5
 |0=>by simp[xSy]
 |i+1=>by rw[xSy,xNq,xNs h r i]
theorem yC3 (h r:List Int):∀i,yT (xSy h r i)
 |0=>xCr 5
 |i+1=>yC2 _ _ _ (yC3 h r i) 5
def xXv (c:List Int):List Int:=(c.set 1 (Go.IntKind.u64.wrap (c.getD 1 0+c.getD 0 0 / 67108864))).set 0 (Go.bits .and .u64 (c.getD 0 0) 67108863)
theorem xUz (c:List Int):(xXv c).length=c.length:=by simp[xXv]
theorem mulE_u {c:List Int} (h:yT c):yT (xXv c):=(h.set 1 (wrap_u64 _)).set 0 (zP _ _ _)
def yGs (h r:List Int):List Int:=xXv (kW (xSy h r 5))
theorem xNr (h r:List Int):(yGs h r).length=5:=by rw[yGs,xUz,qJ,xNs]
theorem mulP_u (h r:List Int):yT (yGs h r):=mulE_u (xB8 (yC3 h r 5))
end Mailsack
namespace Go.Proofs.SH
open Go.RowKit Mailsack MM BB
structure xP5 (w:World) (hs rs d:List Int) (W:World):Prop where
 bh:wB W w.heap.size hs
 br:wB W (w.heap.size+1) rs
 bz:wB W (w.heap.size+1+1) (List.replicate 5 0)
 bd:wB W (w.heap.size+1+1+1) d
 bel:ψ w W
theorem xP5.put {w:World} {hs rs d:List Int} {W:World} (h:xP5 w hs rs d W) (i:Nat) (x:Int):xP5 w hs rs (d.set i x) (W.setCell (θ (w.heap.size+1+1+1) i) (.int .u64 x)):=
 ⟨h.bh.far (p:=(θ (w.heap.size+1+1+1) i)) (by simp only[];omega) _,h.br.far (p:=(θ (w.heap.size+1+1+1) i)) (by simp only[];omega) _,h.bz.far (p:=(θ (w.heap.size+1+1+1) i)) (by simp only[];omega) _,h.bd.put i x,h.bel.setCell (p:=(θ (w.heap.size+1+1+1) i)) (by simp only[];omega) _⟩
theorem xP5.below {w:World} {hs rs d:List Int} {W W':World} (h:xP5 w hs rs d W) (hb:ψ W W'):xP5 w hs rs d W':=
 ⟨xC h.bh hb (xH h.bh),xC h.br hb (xH h.br),xC h.bz hb (xH h.bz),xC h.bd hb (xH h.bd),bT h.bel hb⟩
theorem xP5.row {w:World} {hs rs d:List Int} {W:World} (h:xP5 w hs rs d W) (c:List Int):xP5 w hs rs c (W.setRow (w.heap.size+1+1+1) (xI c)):=
 ⟨by unfold wB;rw[Bj _ _ _ _ ω];exact h.bh,by unfold wB;rw[Bj _ _ _ _ ω];exact h.br,by unfold wB;rw[Bj _ _ _ _ ω];exact h.bz,Bp _ _ _ _ _ _ h.bd,Bn h.bel ω _⟩
theorem yC1 (hs rs:List Int) (w:World) (hl:hs.length=5) (hu:yT hs) (rl:rs.length=5) (ru:yT rs):
  Calls prog 204 #[.agg (xI hs),.agg (xI rs)] w (pv (.agg (xI (yGs hs rs))) w):=by
 have H0:Hid (xP5 w hs rs (xSy hs rs 0) ((((w.alloc (.cells (xI hs) 273)).alloc (.cells (xI rs) 273)).alloc (.cells (xI (List.replicate 5 0)) 273)).alloc (.cells (xI (List.replicate 5 0)) 273))):=ι (by
  have h0:=xJ ((w.alloc (.cells (xI hs) 273)).alloc (.cells (xI rs) 273)) (.cells (xI (List.replicate 5 0)) 273);simp only[wY] at h0
  have h1:=xJ (((w.alloc (.cells (xI hs) 273)).alloc (.cells (xI rs) 273)).alloc (.cells (xI (List.replicate 5 0)) 273)) (.cells (xI (List.replicate 5 0)) 273);simp only[wY] at h1
  exact⟨xN (xN (zM _ _ _) _) _,xN (xN (zI _ _ _) _) _,xN h0 _,h1,(((φ w _).alloc σ _).alloc (by simp;omega) _).alloc (by simp;omega) _⟩)
 have HI:Hid ((prog.info? 273).map (·.size)=some (xI hs).size):=ι (xEh hl);have HJ:Hid ((prog.info? 273).map (·.size)=some (xI rs).size):=ι (xEh rl);have HPI:Hid (∀n,n=5->yGs hs rs=xXv (kW (xSy hs rs n))):=ι (λn hn=>by rw[hn];rfl)
 have HPS:Hid (∀i n,n=5->xSy hs rs (i+1)=xRt (hs.getD i 0) i rs (xSy hs rs i) n):=ι (λi n hn=>by rw[hn];rfl);have HL:=ι (λi=>xNs hs rs i);have HU:=ι (λi=>yC3 hs rs i);go_enter func204,ntmps204;go_upto_region 2 with fail
 refine(λ(h:∀W3,Hid (xP5 w hs rs (xSy hs rs 0) W3)->Code.wp _ _ _ _ W3)=>h _ H0) ?_;clear H0;intro w3 hw3;refine Bi ?_;refine Ao rfl _ _ rfl w.heap.size rfl _ (xI hs) (0,0) _ hw3.o.bh underlying273 rfl HI.o ?_;go_wp2_with fail
 go_loopw [12] (λiv W=>∃i:Nat,i<=5/\iv=.int .i64 i/\Hid (xP5 w hs rs (xSy hs rs i) W)) (λiv _=>5- (intOf iv).toNat)
 case atStart=>exact⟨0,δ,rfl,hw3⟩
 case round=>
  clear hw3
  rename World=>wi
  obtain⟨i,hi,rfl,hr⟩:=hrel
  by_cases hlt:i<5
  ·have HS:=ι (HPS.o i);have hl0:=HL.o i;have hu0:=HU.o i;obtain⟨x,hx⟩:=eX (hs.getD i 0);have ux:=hu i;rw[hx] at ux HS;have ix:=λW=>kR (P:=prog) underlying273 underlying186 κ (xI hs) (.int .u64 x) i hlt (by rw[xEa ω,hx]) W
   obtain⟨d1,hd1⟩:=eX (xSy hs rs (i+1));rw[hd1] at HS;have HD1:=ι hd1;clear hd1;generalize xSy hs rs i=d0 at hr hl0 hu0 HS;have HT0:Hid (xP5 w hs rs (xRt x i rs d0 0) wi):=ι hr.o
   have HTS:Hid (∀j,xRt x i rs d0 (j+1)=(xRt x i rs d0 j).set (kK (i+j)) (IntKind.u64.wrap ((xRt x i rs d0 j).getD (kK (i+j)) 0+IntKind.u64.wrap (x*yK (rs.getD j 0) (i+j))))):=ι (λj=>rfl);have HTL:Hid (∀j,(xRt x i rs d0 j).length=5):=ι (λj=>by rw[xNq,hl0])
   have HTU:Hid (∀j,yT (xRt x i rs d0 j)):=ι (λj=>yC2 _ _ _ hu0 j);have HX:=ι ux;have HRU:=ι ru;have hrr:=hr;clear hr hx ux hl0 hu0 hu ru hl;go_upto_region 5 with fail
   clear ix;refine Bi ?_;refine Ao rfl _ _ rfl (w.heap.size+1) rfl _ (xI rs) (0,0) _ hrr.o.br underlying273 rfl HJ.o ?_;clear hrr;go_wp2_with fail
   go_loopw [17] (λjv W=>∃j:Nat,j<=5/\jv=.int .i64 j/\Hid (xP5 w hs rs (xRt x i rs d0 j) W)) (λjv _=>5- (intOf jv).toNat)
   case atStart=>exact⟨0,δ,rfl,HT0⟩
   case round=>
    clear HT0
    rename World=>wj
    obtain⟨j,hj,rfl,hr⟩:=hrel
    by_cases hlt2:j<5
    ·have hTS:=HTS.o j;have hTL:=HTL.o j;obtain⟨t1,ht1⟩:=eX (xRt x i rs d0 (j+1));rw[ht1] at hTS;have HT1:=ι ht1;have hTU:=HTU.o j (kK (i+j));clear ht1;generalize xRt x i rs d0 j=t0 at hr hTS hTL hTU;obtain⟨y,hy⟩:=eX (rs.getD j 0);have uy:=HRU.o j
     rw[hy] at uy hTS;have ix:=λW=>kR (P:=prog) underlying273 underlying186 κ (xI rs) (.int .u64 y) j hlt2 (by rw[xEa ω,hy]) W;have hK:kK (i+j)<5:=by unfold kK;split<;>omega
     have q0:=hr.o.bd.cell (i:=kK (i+j)) ω;have q1:=hr.o.bd.free (kK (i+j))
     have HP:Hid (xP5 w hs rs t1 (wj.setCell ⟨w.heap.size+1+1+1,kK (i+j),none⟩ (.int .u64 (IntKind.u64.wrap (t0.getD (kK (i+j)) 0+IntKind.u64.wrap (x*yK y (i+j))))))):=ι (by
      have h:=hr.o.put (kK (i+j)) (IntKind.u64.wrap (t0.getD (kK (i+j)) 0+IntKind.u64.wrap (x*yK y (i+j))));rw[<-hTS] at h;exact h)
     generalize t0.getD (kK (i+j)) 0=v at q0 hTU HP;obtain⟨v0,v1⟩:=hTU;obtain⟨y0,y1⟩:=uy;obtain⟨x0,x1⟩:=HX.o;clear hTS hTL hy hr
     by_cases h5:5<=i+j
     ·have hk5:kK (i+j)=i+j-5:=Ah h5;have hy5:yK y (i+j)=IntKind.u64.wrap (y*5):=Ah h5;rw[hy5] at HP;generalize kK (i+j)=kk at hk5 hK q0 q1 HP;have hii:(i:Int)+(j:Int)=(kk:Int)+5:=ω;have h5i:(5:Int)<=(kk:Int)+5:=ω;clear hk5 h5 hy5;go_wp2
      exact⟨⟨j+1,ω,by go_num,by rw[HT1.o];exact HP⟩,by simp[intOf];omega⟩
     ·have hk5:kK (i+j)=i+j:=Ag h5;have hy5:yK y (i+j)=y:=Ag h5;rw[hy5] at HP;generalize kK (i+j)=kk at hk5 hK q0 q1 HP;have hii:(i:Int)+(j:Int)=(kk:Int):=ω;have h5i:¬((5:Int)<=(kk:Int)):=ω;clear hk5 h5 hy5;go_wp2
      exact⟨⟨j+1,ω,by go_num,by rw[HT1.o];exact HP⟩,by simp[intOf];omega⟩
    ·have hje:j=5:=ω;have hneg:¬((j:Int)<5):=ω;have HS1:=ι (HS.o j hje);clear hje hlt2 hj HTS HTL HTU HS;go_wp2;exact⟨⟨i+1,ω,by go_num,by rw[HD1.o,HS1.o];exact hr⟩,by simp[intOf];omega⟩
  ·have hie:i=5:=ω;have hneg:¬((i:Int)<5):=ω;have HP:=ι (HPI.o i hie);have hdl:=HL.o i;have hdu:=HU.o i;generalize xSy hs rs i=d0 at hr HP hdl hdu;have HI5:Hid ((prog.info? 273).map (·.size)=some (xI d0).size):=ι (xEh hdl);have HC:=ι (λW=>xKh d0 W hdl hdu)
   obtain⟨c,hc⟩:=eX (kW d0);have hcl:c.length=5:=by rw[<-hc,qJ,hdl]
   have hcu:yT c:=hc▸xB8 hdu;rw[hc] at HC HP;clear hc hie hi hlt HL HU HPS HPI hdu;go_upto_region 15 with fail
   refine Bi ?_;refine Ao rfl _ _ rfl (w.heap.size+1+1+1) rfl _ (xI d0) (0,0) _ hr.o.bd underlying273 rfl HI5.o ?_;repeat go_step
   refine cM (HC.o _) λw5 hb=>?_;have h5:=hr.o.below hb;have HZ5:Hid ((xI d0).size=(xI c).size):=ι (by rw[yB,yB,hcl,hdl]);have HIc:Hid ((prog.info? 273).map (·.size)=some (xI c).size):=ι (xEh hcl);have HR:=ι (h5.row c);simp only[]
   rename ∀(a:Act) (w:World),wpList _ _ _ _ a w->_=>hk
   refine hk _ _ ?_;clear hk;refine Av rfl _ _ _ rfl (w.heap.size+1+1+1) (xI c) rfl rfl _ _ h5.bd HIc.o HZ5.o (yM _) ?_;clear hr hb h5;refine(λ(h:∀W3,Hid (xP5 w hs rs c W3)->wpList _ _ _ _ _ W3)=>h _ HR) ?_;clear HR;intro w6 hw6;obtain⟨a0,a1⟩:=hcu 0
   obtain⟨b0,b1⟩:=hcu 1;obtain⟨a,ha⟩:=eX (c.getD 0 0);obtain⟨b,hbb⟩:=eX (c.getD 1 0);have q0:=hw6.o.bd.cell (i:=0) ω;have q1:=hw6.o.bd.cell (i:=1) ω;have y0:=hw6.o.bd.free 0;have y1:=hw6.o.bd.free 1
   have HE:Hid (xXv c=(c.set 1 (IntKind.u64.wrap (c.getD 1 0+c.getD 0 0 / 67108864))).set 0 (bits .and .u64 (c.getD 0 0) 67108863)):=ι rfl;rw[ha] at a0 a1 q0 HE;rw[hbb] at b0 b1 q1 HE;clear ha hbb
   have HA:Hid (xP5 w hs rs (xXv c) ((w6.setCell (θ (w.heap.size+1+1+1) 1) (.int .u64 (IntKind.u64.wrap (b+a / 67108864)))).setCell (θ (w.heap.size+1+1+1) 0) (.int .u64 (bits .and .u64 a 67108863)))):=ι (by rw[HE.o];exact(hw6.o.put 1 _).put 0 _)
   have hel:(xXv c).length=5:=by rw[xUz,hcl]
   have HI6:Hid ((prog.info? 273).map (·.size)=some (xI (xXv c)).size):=ι (xEh hel);have HZ6:Hid ((xI (List.replicate 5 0)).size=(xI (xXv c)).size):=ι (by rw[yB,yB,hel];rfl);clear hw6 HE hel;go_upto_region 18 with fail
   clear q0 q1 y0 y1 a0 a1 b0 b1;refine(λ(h:∀W3,Hid (xP5 w hs rs (xXv c) W3)->Code.wp _ _ _ _ W3)=>h _ HA) ?_;clear HA;intro w7 hw7;refine Bi ?_;refine Ao rfl _ _ rfl (w.heap.size+1+1+1) rfl _ (xI (xXv c)) (0,0) _ hw7.o.bd underlying273 rfl HI6.o ?_
   refine Av rfl _ _ _ rfl (w.heap.size+1+1) (xI (xXv c)) rfl rfl _ _ hw7.o.bz HI6.o HZ6.o (yM _) ?_;go_wp2;refine Ak (Dn rfl _ _ (w.heap.size+1+1) _ _ (0,0) _ rfl (Bp _ _ _ _ _ _ hw7.o.bz) underlying273 rfl HI6.o) rfl ?_
   rw[HP.o];exact⟨rfl,Bn hw7.o.bel ω _⟩
end Go.Proofs.SH
/- Contracts of functions. Conditions: as stated. -/
import Derived.Test.YtjdkeibcoiiliaaGreatDoorVaultWholeProofB15
import Derived.HandedShaped
import Derived.Deep.DeepHandedRow
import Derived.Lib.SmallJoins
open Go.Proofs.Tryz
set_option maxHeartbeats 8000000
set_option maxRecDepth 100000
namespace Mailsack
open Go.Proofs.VA Go.Proofs.SH
def xM (sz:Int->Int) (k:Nat):List vM:=(List.range' 1 k).map λ(i:Nat)=>⟨(i:Int),32,(i:Int),sz i⟩
def xK (sz:Int->Int) (k:Nat):yN:=⟨[⟨pX,1,(k:Int)+1,xM sz k⟩],[],2⟩
theorem xLd (sz:Int->Int) (k:Nat):(xM sz k).length=k:=by simp[xM]
theorem xQ5 {sz:Int->Int} (hs:∀n,0<=sz n/\sz n<=700) {next:Int} (hn:next<=4294967295):∀j a:Nat,((a+j:Nat):Int)<next->xEn next ((List.range' (a+1) j).map λ(i:Nat)=>(⟨(i:Int),32,(i:Int),sz i⟩:vM)) (a:Int)=true
 |0,a,_=>rfl
 |j+1,a,h=>by
  have ih:=xQ5 hs hn j (a+1) ω;have h2:=hs ((a+1:Nat):Int);rw[List.range'_succ,Du,xEn,ih];simp only[pW,xL1,xCg,Bool.and_true,Au,Be];refine⟨⟨ω,ω⟩,⟨ω,h2⟩,ω⟩
section
variable {sz:Int->Int} (hs:∀n,0<=sz n/\sz n<=700)
include hs
theorem xN0 {k:Nat} (hk:k<=30):zV (xK sz k)=true:=by
 have hm:=xQ5 hs (next:=(k:Int)+1) ω k 0 ω
 have hb:xAy ⟨pX,1,(k:Int)+1,xM sz k⟩=true:=by
  unfold xAy;simp only[xLd];rw[show xCd pX=true by decide,show xL1 1=true by decide,show xL1 ((k:Int)+1)=true by unfold xL1;exact Bq ω,Bq hk];simpa[xM] using hm
 unfold zV xK;simp only[xBa,hb,vU,Du,Ht,List.sum_cons,List.sum_nil,xLd,Bl,Dq,xEt,List.head?_cons,Fe];simp[xL1];exact hk
theorem xK_app {k:Nat} (hk:k<30):xMu (xK sz k) inB ((k+1:Nat):Int) (sz ((k+1:Nat):Int)) 32=0/\xLa (xK sz k) inB ((k+1:Nat):Int) (sz ((k+1:Nat):Int)) 32=xK sz (k+1):=by
 have hr:=xN0 hs (k:=k) ω;have h2:=hs ((k+1:Nat):Int)
 have hf:xEi (xK sz k) inB=0:=by
  unfold xEi xK;simp[qH,pX,inB]
 have hbx:xTx (xK sz k) inB=⟨pX,1,(k:Int)+1,xM sz k⟩:=by
  unfold xTx;rw[hf]
  rfl
 have hE:xMu (xK sz k) inB ((k+1:Nat):Int) (sz ((k+1:Nat):Int)) 32=0:=by
  unfold xMu;rw[hr,hf,hbx,Ag,Ag ω,Ag,Ag (by simp only;omega)]
  ·simp[vU,xK,xLd];omega
  ·simp only[pW,xL1,xCg,Ed,Bool.not_eq_false,Au,Be];exact⟨⟨ω,h2⟩,ω⟩
 refine⟨hE,?_⟩;unfold xLa;rw[Ah hE,hf,hbx];unfold xK xM;rw[List.range'_concat];simp[Int.add_comm]
theorem yIv {Tf:Int->Int} {k:Nat} (hk:k<=9) (hT:∀i:Nat,1<=i->i<=k->Tf (i:Int)=sz i):∀j a:Nat,a+j=k->mgN Tf (10-a) ((List.range' (a+1) j).map λ(i:Nat)=>(i:Int)) (xK sz a)=j/\mgI Tf ((List.range' (a+1) j).map λ(i:Nat)=>(i:Int)) (xK sz a)=xK sz k
 |0,a,h=>by
  obtain rfl:a=k:=ω;refine⟨?_,rfl⟩;rw[show 10-a=(10-a-1)+1 by omega]
  rfl
 |j+1,a,h=>by
  obtain⟨i1,i2⟩:=yIv hk hT j (a+1) ω;obtain⟨e1,e2⟩:=xK_app hs (k:=a) ω
  have hA:mgA Tf (xK sz a) ((a+1:Nat):Int)=xK sz (a+1):=by
   unfold mgA;rw[hT (a+1) ω ω];exact e2
  rw[List.range'_succ,Du]
  constructor
  ·rw[show 10-a=(10- (a+1))+1 by omega,mgN,Ah (by rw[hT (a+1) ω ω];exact e1),hA,i1]
  ·unfold mgI at i2⊢;rw[List.foldl_cons,hA];exact i2
end
def gnL (a j:Nat):List Ch:=(List.range' (a+1) j).map λi=>⟨nmA 113 i,[],true⟩
theorem xO6 (a j:Nat):gnL a (j+1)=⟨nmA 113 (a+1),[],true⟩::gnL (a+1) j:=by unfold gnL;rw[List.range'_succ,Du]
theorem xFw:∀(j a:Nat) (m:Bs->Option Bs) (n:Bs),a+j<=9->((∃i,a+1<=i/\i<=a+j/\n=nmA 113 i)->xF2 m (gnL a j) n=none)/\((¬∃i,a+1<=i/\i<=a+j/\n=nmA 113 i)->xF2 m (gnL a j) n=m n)
 |0,a,m,n,_=>⟨λ⟨i,h1,h2,_⟩=>by omega,λ_=>rfl⟩
 |j+1,a,m,n,h=>by
  obtain⟨i1,i2⟩:=xFw j (a+1) (jS m ⟨nmA 113 (a+1),[],true⟩) n ω;rw[xO6];show(_->xF2 (jS m ⟨nmA 113 (a+1),[],true⟩) (gnL (a+1) j) n=none)/\(_->xF2 (jS m ⟨nmA 113 (a+1),[],true⟩) (gnL (a+1) j) n=m n)
  by_cases hx:∃i,a+1+1<=i/\i<=a+1+j/\n=nmA 113 i
  ·refine⟨λ_=>i1 hx,λhno=>?_⟩;obtain⟨i,a1,a2,a3⟩:=hx;exact absurd ⟨i,ω,ω,a3⟩ hno
  ·rw[i2 hx];unfold jS
   by_cases hn:n=nmA 113 (a+1)
   ·refine⟨λ_=>by rw[Ah hn,Ah rfl],λhno=>absurd ⟨a+1,ω,ω,hn⟩ hno⟩
   ·rw[Ag hn];refine⟨λ⟨i,a1,a2,a3⟩=>?_,λ_=>rfl⟩
    by_cases hi:i=a+1
    ·exact absurd (hi▸a3) hn
    ·exact absurd ⟨i,ω,ω,a3⟩ hx
theorem xQn:∀(j a:Nat) (m:Bs->Option Bs),a+j<=9->(∀i,a+1<=i->i<=a+j->m (nmA 113 i)≠none)->xU7 m (gnL a j)
 |0,_,_,_,_=>trivial
 |j+1,a,m,h,hm=>by
  rw[xO6];refine⟨by rw[xGt _ ω];omega,by rw[xGt _ ω];omega,by rw[Ah rfl];exact hm _ ω ω,xQn j (a+1) _ ω (λi a1 a2=>?_)⟩;unfold jS;rw[Ag (by rw[xGu ω ω];rintro⟨_,e⟩;omega)];exact hm i ω ω
theorem yIy:∀j a:Nat,xTy (gnL a j)=0/\wlL (gnL a j)=j
 |0,_=>⟨rfl,rfl⟩
 |j+1,a=>by
  obtain⟨h1,h2⟩:=yIy j (a+1);rw[xO6];refine⟨?_,?_⟩
  ·show xWc _+xTy (gnL (a+1) j)=0;rw[h1];rfl
  ·show wlC _+wlL (gnL (a+1) j)=j+1;rw[h2];show 1+j=j+1;omega
theorem yG5 (sz:Int->Int) {k:Nat} (hk:k<=6):(kC (xK sz k)).length<=100:=by
 unfold kC;split
 ·unfold yEy xK;have h1:=tV (L:=xM sz k) xNw (c:=11) (λm _=>Nat.le_of_eq (xD7 m)) k;rw[Ce (by rw[xLd];exact Bd _)] at h1
  simp only[Du,Ht,Fb,List.flatten_nil,Dw,Aj,vV,yHz,xDd,Dq];have:pX.length=5:=rfl;omega
 ·simp
section
variable {d:Dk} {A:vY} {k:Nat} {once xD pw xB:ByteArray} {T:List ByteArray}
def szT (T:List ByteArray) (n:Int):Int:=((T.getD (n.toNat-1) ⟨#[]⟩).size:Int)
theorem szT_ok (hT:∀t∈T,t.size<=700) (n:Int):0<=szT T n/\szT T n<=700:=by
 unfold szT;rw[Aa];cases h:T[n.toNat-1]? with
 |none=>exact⟨Int.natCast_nonneg _,δ⟩
 |some t=>
  have:=hT t (Bb h);exact⟨Int.natCast_nonneg _,by show((t.size:Nat):Int)<=700;omega⟩
theorem yLn (hT:∀t∈T,t.size<=700) (i:Nat):(T.getD i ⟨#[]⟩).size<=700:=by
 rw[Aa];cases h:T[i]? with
 |none=>decide
 |some t=>exact hT t (Bb h)
theorem Sq.login (h:Sq d A (ixB xD xB qG) (msB A once T) k k) (hr:Rm d k) (hk:k<=6) (hA:uL A=true) (hu:A.user=alU) (he:A.jB=0) (hpu:A.pub=xV xD) (hp:xD.size=32) (hun:xKw A pw=0/\xOw A pw=[xD]) (hn:xB.size=12) (ho:once.size=32) (hT:∀t∈T,t.size<=700):
  lgE d alU pw xB=0/\rZ d alU pw=xD/\(wK d alU).jB=0/\lgX d alU pw xB=xK (szT T) k/\∃ix,Sq (lgD d alU pw xB) A ix (msB A once T) k 0:=by
 obtain⟨a1,a2⟩:=h.yEq hA hu;obtain⟨o1,o2⟩:=h.index hn yFn;have hK:lgK d alU pw=[xD]:=by unfold lgK;rw[a2];exact hun.2
 have hP:rZ d alU pw=xD:=by unfold rZ;rw[hK];rfl
 have hO:xJt d alU pw=⟨#[]⟩:=by unfold xJt;rw[hK];rfl
 have hE:lgE d alU pw xB=0:=by
  unfold lgE;rw[Ag ω,a1,Ag σ,a2,hun.1,Ag σ,hP,o1]
 have hep:(wK d alU).jB=0:=by rw[a2];exact he
 have hs:=szT_ok hT;have hnum:wM d [113] alU.data.toList=xRs k:=(h.numbers hk hk).2
 have hTf:∀i:Nat,1<=i->i<=k->mgT d alU xD ⟨#[]⟩ 0 (i:Int)=szT T i:=λi b1 b2=>by
  obtain⟨_,t2⟩:=h.text he hpu hp ho ⟨#[]⟩ b1 b2 (yLn hT _);unfold mgT szT;rw[t2]
  rfl
 obtain⟨m1,m2⟩:=yIv hs ω hTf k 0 ω
 have hL:mgL d alU xD ⟨#[]⟩ 0 qG=xRs k:=by
  unfold mgL;rw[hnum,show mgN (mgT d alU xD ⟨#[]⟩ 0) 10 (xRs k) qG=k from m1,Ce (by rw[xI6];exact Bd _)]
 have hX:mgX d alU xD ⟨#[]⟩ 0 qG=xK (szT T) k:=by
  unfold mgX;rw[hL];exact m2
 refine⟨hE,hP,hep,?_⟩;unfold lgX lgD;rw[Ah hE,Ah hE,hP,hO,hep,o2];unfold yC6 xV4
 by_cases h0:k=0
 ·subst h0;have hok:xP0 d alU xD ⟨#[]⟩ 0 qG xB=false:=by unfold xP0;rw[hL];rfl
  rw[hok];exact⟨rfl,_,h⟩
 ·have hG:mgG alU (xRs k)=gnL 0 k:=by
   unfold mgG xRs gnL;rw[List.map_map]
   rfl
  have hkl:xNy alU xD xB (xK (szT T) k) (gnL 0 k)=⟨vD [120] alB,ixB xD xB (xK (szT T) k),false⟩::gnL 0 k:=rfl
  have hlen:(ixB xD xB (xK (szT T) k)).length<=1024:=by
   unfold ixB;rw[Cu];show(xB++wP (zC xD) xB alU (bsA (kC (xK (szT T) k)))).size<=1024;rw[Aw,kH,yS];have:=yG5 (szT T) hk;omega
  obtain⟨g1,g2⟩:=yIy k 0;have hc:=xGa (ixB xD xB (xK (szT T) k))
  have hb:xTy (⟨vD [120] alB,ixB xD xB (xK (szT T) k),false⟩::gnL 0 k)=yJ (ixB xD xB (xK (szT T) k)):=by
   show xWc _+xTy (gnL 0 k)=_;rw[g1]
   rfl
  have hw:wlL (⟨vD [120] alB,ixB xD xB (xK (szT T) k),false⟩::gnL 0 k)=5+12*yJ (ixB xD xB (xK (szT T) k))+k:=by
   show wlC _+wlL (gnL 0 k)=_;rw[g2]
   rfl
  have hg:xU7 (vH d) (⟨vD [120] alB,ixB xD xB (xK (szT T) k),false⟩::gnL 0 k):=by
   refine⟨show 1<=(vD [120] alB).length by decide,show(vD [120] alB).length<=24 by decide,by rw[Ag σ];exact hlen,xQn k 0 _ ω (λi b1 b2=>?_)⟩;unfold jS;rw[Ag (xD4 ω),h.wait i b1 ω];simp
  have hll:(⟨vD [120] alB,ixB xD xB (xK (szT T) k),false⟩::gnL 0 k:List Ch).length=k+1:=by simp[gnL]
  obtain⟨r1,_,_,_⟩:=xSi h.calm.store hr.1 hr.2 hg (by rw[hll];omega) (by rw[hb];omega) (by rw[hll,hb];omega) (by rw[hw];omega);obtain⟨p1,_,p3⟩:=xGe h.calm.store r1
  have hkE:xL5 d alU xD xB (xK (szT T) k) (gnL 0 k)=0:=by
   unfold xL5;rw[Ah (xN0 hs ω),hkl,p1]
  have hkD:keepD d alU xD xB (xK (szT T) k) (gnL 0 k)=vO d (⟨vD [120] alB,ixB xD xB (xK (szT T) k),false⟩::gnL 0 k):=by
   unfold keepD;rw[Ah (xN0 hs ω),hkl]
  have hok:xP0 d alU xD ⟨#[]⟩ 0 qG xB=true:=by
   unfold xP0;rw[hL,hX,hG,hkE];have:xRs k≠[]:=λe=>by have:=Ap List.length e;rw[xI6] at this;exact h0 this
   simp[this]
  rw[hok,Ah rfl,Ah rfl,hL,hX,hG,hkD];refine⟨rfl,ixB xD xB (xK (szT T) k),?_⟩;have hq:∀n,vH (vO d (⟨vD [120] alB,ixB xD xB (xK (szT T) k),false⟩::gnL 0 k)) n=xF2 (jS (vH d) ⟨vD [120] alB,ixB xD xB (xK (szT T) k),false⟩) (gnL 0 k) n:=p3;have hk9:0+k<=9:=ω
  have no:∀n,(∀i,i<=9->n≠nmA 113 i)->vH (vO d (⟨vD [120] alB,ixB xD xB (xK (szT T) k),false⟩::gnL 0 k)) n=jS (vH d) ⟨vD [120] alB,ixB xD xB (xK (szT T) k),false⟩ n:=λn hn=>by
   rw[hq,(xFw k 0 _ n hk9).2 (λ⟨i,b1,b2,b3⟩=>hn i ω b3)]
  refine⟨xH6 h.calm r1,?_,?_,λi b1 b2=>?_,λi b1 b2=>by omega,λn hn2=>?_⟩
  ·rw[no _ (λi hi=>En (xD4 hi))];unfold jS;rw[Ag (show ¬vD [117] alB=vD [120] alB by decide)];exact h.acct
  ·rw[no _ (λi hi=>En (xD4 hi))];unfold jS;rw[Ah rfl,Ag σ]
  ·rw[no _ (λj hj=>by rw[Ne,xGu ω hj];rintro⟨e,_⟩;exact absurd e δ)];unfold jS;rw[Ag (xD4 ω)];exact h.msg i b1 b2
  ·by_cases hx:∃i,0+1<=i/\i<=0+k/\n=nmA 113 i
   ·rw[hq,(xFw k 0 _ n hk9).1 hx] at hn2;exact absurd rfl hn2
   ·rw[hq,(xFw k 0 _ n hk9).2 hx] at hn2
    by_cases h1:n=vD [120] alB
    ·exact .inr (.inl h1)
    ·unfold jS at hn2;rw[Ag h1] at hn2;rcases h.only n hn2 with g|g|g|⟨i,b1,b2,b3⟩
     ·exact .inl g
     ·exact .inr (.inl g)
     ·exact .inr (.inr (.inl g))
     ·exact absurd ⟨i,ω,ω,b3⟩ hx
end
end Mailsack
namespace Mailsack
open Go.Proofs.VA Go.Proofs.SH
theorem yHx:Calm qU:=⟨xDf,rfl,δ⟩
theorem xUe (c:Nat):jA c (uZ qU)=0:=by
 unfold uZ jA;rw[xG2,xG1,List.countP_replicate,Ag (by simp[noSlot])]
section
variable {pw xP xB xD:ByteArray} {r:Nat}
theorem yFu (hf:uR xP xB xD (r:Int)=true) (M:Nat->Bs):Sq (frD alU pw xP xB xD r) (rP alU pw xP xB xD r) (ixB xD xB qG) M 0 0/\Rm (frD alU pw xP xB xD r) 0:=by
 have hu:zS alU=true:=δ;obtain⟨_,_,hl⟩:=yD9 (pw:=pw) hu hf;have hok:=fr_ok (pw:=pw) hu hf;have hA:=hok _ (Cx ..);have hB:=hok _ (Dm _ (Cx ..))
 have c1:yJ (xRj (rP alU pw xP xB xD r)).data=0:=by unfold yJ;rw[Ag (by have:=hA.dat;omega)]
 have c2:yJ (xJ5 alU xD xB (bsA (kC qG))).data=0:=by unfold yJ;rw[Ag (by have:=hB.dat;omega)]
 have hb:xTy (xU2 alU pw xP xB xD r)=0:=by
  show xWc _+(xWc _+0)=0;unfold xWc;rw[hA.gone,hB.gone,c1,c2]
  rfl
 have hw:wlL (xU2 alU pw xP xB xD r)=10:=by
  show wlC _+(wlC _+0)=10;unfold wlC;rw[hA.gone,hB.gone,c1,c2]
  rfl
 have hg:xU7 (vH qU) (xU2 alU pw xP xB xD r):=⟨hA.lo,hA.hi,by rw[hA.gone,Ag σ];have:=hA.dat;omega,hB.lo,hB.hi,by rw[hB.gone,Ag σ];have:=hB.dat;omega,trivial⟩
 obtain⟨r1,_,r3,r4⟩:=xSi xDf (a:=0) (b:=0) (by rw[xUe];exact Bd _) (by rw[xUe];exact Bd _) hg (by show 0+2<=24;omega) (by rw[hb];omega) (by rw[hb];show 0+2+0+0<=32;omega) (by rw[hw];omega)
 have hR:Rm (frD alU pw xP xB xD r) 0:=by
  unfold Rm;rw[xKm xDf r1];exact⟨r3,by rw[hb] at r4;exact r4⟩
 have ne:vD [117] alB≠vD [120] alB:=δ;refine⟨⟨xH6 yHx r1,?_,?_,λi a b=>by omega,λi a b=>by omega,λn hn=>?_⟩,hR⟩
 ·rw[hl];show(if vD [117] alB=vD [120] alB then _ else if vD [117] alB=vD [117] alB then _ else _)=_;rw[Ag ne,Ah rfl]
 ·rw[hl];show(if vD [120] alB=vD [120] alB then _ else _)=_;rw[Ah rfl]
  rfl
 ·rw[hl] at hn
  by_cases h1:n=vD [120] alU.data.toList
  ·exact .inr (.inl h1)
  ·rw[Ag h1] at hn
   by_cases h2:n=vD [117] alU.data.toList
   ·exact .inl h2
   ·rw[Ag h2] at hn;exact absurd rfl hn
theorem yBv (hf:uR xP xB xD (r:Int)=true):uL (rP alU pw xP xB xD r)=true/\(rP alU pw xP xB xD r).user=alU/\(rP alU pw xP xB xD r).jB=0/\(rP alU pw xP xB xD r).pub=xV xD/\xD.size=32/\xB.size=12/\xKw (rP alU pw xP xB xD r) pw=0/\xOw (rP alU pw xP xB xD r) pw=[xD]:=by
 have hu:zS alU=true:=δ;have hA:=xE6 (pw:=pw) hu hf;obtain⟨u1,u2⟩:=fr_unl (pw:=pw) hu hf
 have hp:xD.size=32:=by
  unfold uR at hf;simp only[Au,Be] at hf;exact hf.2
 exact⟨hA,rfl,rfl,rfl,hp,(tZ hA).2.2.2.2.2.2.2.2.1,u1,u2⟩
end
end Mailsack
namespace Mailsack
def xVy (S:List Bs) (k:Nat):List Wr:=(List.range k).map (xVx S)
theorem yDq (S:List Bs) (k:Nat):xVy S (k+1)=xVy S k++[xVx S k]:=by unfold xVy;rw[List.range_succ,Da];rfl
theorem yHm (S:List Bs) (k:Nat):(xVy S k).length=k:=by simp[xVy]
theorem xK6 {S:List Bs} (h:xDc S=false):jH S=none:=by
 unfold jH;rw[Ag (by rw[h];simp)]
theorem yHk {S:List Bs} {i:Nat} (hi:i<xYd S) (h:xHv S i=false):jH S=none:=by
 unfold jH;rw[Ag];rintro⟨_,h2⟩;have:=Bv.1 h2 i (El.2 hi);rw[h] at this;cases this
theorem yDp {S:List Bs} (h:xDc S=true) (hi:∀i,i<xYd S->xHv S i=true):jH S=some (xVy S (xYd S)):=by
 unfold jH;rw[Ah ⟨h,Bv.2 (λi h=>hi i (El.1 h))⟩]
 rfl
theorem yL4 {s:Bs} (h:4<=s.length):le4 s=(leN (s.take 4):Int):=by
 match s,h with
 |a::b::c::e::t,_=>
  simp only[le4,bN,Hy,List.take_zero,leN,Cj,Cr];omega
theorem xF8 {S:List Bs} {k:Nat} {a:Int} (h:(xVx S k).at_=a) (hb:a<61∨(S.length:Int)<=a∨(S.getD (1+2*k) []==wN a)=false):xHv S k=false:=by
 unfold xHv;rw[h];rcases hb with hb|hb|hb
 ·simp;omega
 ·simp;omega
 ·rw[hb];simp
theorem xYc {S:List Bs} {k:Nat} {a:Int} (h:(xVx S k).at_=a) (h1:61<=a) (h2:a<S.length) (h3:(S.getD (1+2*k) []==wN a)=true):xHv S k=true:=by
 unfold xHv;rw[h,h3];simp[h1,h2]
theorem xVv {S:List Bs} {l:List Wr} (h:jH S=some l):l.length<=30:=by
 unfold jH at h;split at h
 ·rename_i hq
  injection h with h;subst h;have:=hq.1;unfold xDc at this;simp only[Au,Be] at this;rw[Bw,List.length_range];exact this.1.2
 ·cases h
theorem xSk (d:Dk):(xA7 d).length<=33:=by
 unfold xA7;split
 ·split
  ·cases h:jH (xY d).secs with
   |none=>simp
   |some l=>
    have:=xVv h;simp only[Aj,Bw,Bl,Dq];omega
  ·simp
 ·simp
end Mailsack
namespace Go.Proofs.DS
open Go.RowKit Mailsack MM BB SH SV RK Go.Proofs.ST
structure EnM (w:World) (b:Nat) (S:List Bs) (W:World):Prop where
 cs:∀(j:Nat) x,S[j]?=some x->W.cell? (θ b j)=some (xR x)
 hb:b<w.heap.size
 bel:ψ w W
theorem EnM.below {w W W':World} {b:Nat} {S:List Bs} (h:EnM w b S W) (hb:ψ W W'):EnM w b S W':=
 ⟨λj x hx=>(hb.cell (p:=θ b j) (Bt h.hb h.bel.size)).trans (h.cs j x hx),h.hb,bT h.bel hb⟩
theorem EnM.drew {w W:World} {b:Nat} {S:List Bs} (h:EnM w b S W):EnM w b S W.drew:=h.below (Aq _ W).drew
theorem EnM.app {w W W':World} {b:Nat} {S:List Bs} {v v':Value} {l l':List Wr} (h:EnM w b S W) (ho:xW 94 2 wrF W w.heap.size v l) (ha:xA5 94 2 wrF W W' w.heap.size v v' l'):EnM w b S W':=by
 refine⟨λj x hx=>?_,h.hb,ha.bel ho ν h.bel h.bel.size⟩;have hB:=ha.bel ho ν h.bel h.bel.size;have h0:=h.cs j x hx;rw[hB.cell (p:=θ b j) h.hb,<-h.bel.cell (p:=θ b j) h.hb];exact h0
theorem xTj (b:Nat) (S:List Bs) (w:World) (hs:∀(j:Nat) x,S[j]?=some x->w.cell? (θ b j)=some (xR x)) (hb:b<w.heap.size) (h64:∀x∈S,x.length=64) (h61:61<S.length) (hl:S.length<=1024) (hT:jE w):
  Calls prog 87 #[.slice (some (θ b 0)) S.length S.length] w λe w'=>∃lv,e=.returned (.tuple #[lv,.bool (jH S).isSome])/\RdR 2 wrF w' w'.heap.size lv ((jH S).getD [])/\ψ w w':=by
 obtain⟨ep,hep⟩:=eX (jH S);have HEP:=ι hep;rw[hep];have HM:Hid (EnM w b S w):=ι ⟨hs,hb,Aq _ _⟩;have HTT:=ι (λW (h:EnM w b S W)=>hT.below h.bel ν);obtain⟨x0,hx0⟩:∃x,S[0]?=some x:=⟨_,Af ω⟩;have yCw:=h64 x0 (Bb hx0)
 have hg0:S.getD 0 []=x0:=by rw[Aa,hx0];rfl
 have HEN:Hid (xYd S=bN x0 1):=ι (by unfold xYd;rw[hg0]);have HHO:Hid (xDc S=(decide (1<=bN x0 1)&&decide (bN x0 1<=30)&&(x0==wE (bN x0 1:Nat) ((S.drop 1).take (2*bN x0 1)).flatten))):=ι (by unfold xDc;rw[HEN.o,hg0]);have HC0:=ι (λW (h:EnM w b S W)=>h.cs 0 x0 hx0)
 obtain⟨sb,hsb⟩:=eX (⟨x0.toArray⟩:ByteArray);have hss:sb.size=64:=by rw[<-hsb];show x0.toArray.size=64;simp[yCw]
 have HSB:Hid (∀t:ByteArray,(sb.toList==t.toList)=(x0==t.data.toList)):=ι (λt=>by rw[Br,Br,<-hsb]);have HI:=ι (λw=>zN (P:=prog) underlying9 sb (1:Int) 1 rfl ω w);rw[show yU sb 1=((bN x0 1:Nat):Int) from by rw[<-hsb];rfl] at HI
 have hbn:bN x0 1<256:=Ex _;rw[show xR x0=.string sb from by rw[<-hsb]] at HC0;have HS64:=ι h64
 have HJ:=ι (λn W (h:EnM w b S W) (h1:1+n<=S.length) (h2:n<=100)=>xHj b 0 (S.length-1) S 1 n W (λj x hx=>by rw[Ay];exact h.cs j x hx) (Bt h.hb h.bel.size) h1 h2 ω h64)
 have HJL:=ι (λn (h1:1+n<=S.length)=>(show((S.drop 1).take n).flatten.length=64*n by
  rw[xTc (λx hx=>h64 x (List.mem_of_mem_drop (Dc hx))),Ck,Eb];omega))
 generalize bN x0 1=n at HEN HHO HI hbn;have HLN:Hid (61<S.length/\S.length<=1024):=ι ⟨h61,hl⟩;have i0:(0:Int)<(S.length:Int):=ω;clear hs h64 hT hx0 yCw hg0 hsb hep;go_enter func87,ntmps87;have c0:=HC0.o _ HM.o;have hix:=HI.o;go_upto_region 2 with fail
 clear c0 hix HI;have HBD:=ι hbn
 by_cases h1:1<=n
 case neg=>
  have h1i:(n:Int)<1:=ω;have HE:ep=none:=by rw[<-HEP.o];exact xK6 (by rw[HHO.o];simp[h1])
  subst HE;clear HEP HHO h1;go_wp2;go_ret2;exact⟨_,rfl,RdR.xJj _ _,Aq _ _⟩
 have h1i:¬((n:Int)<1):=ω
 by_cases h2:n<=30
 case neg=>
  have h2i:30<(n:Int):=ω;have HE:ep=none:=by rw[<-HEP.o];exact xK6 (by rw[HHO.o];simp[h2])
  subst HE;clear HEP HHO h2;go_wp2;go_ret2;exact⟨_,rfl,RdR.xJj _ _,Aq _ _⟩
 have h2i:¬(30<(n:Int)):=ω;go_upto_region 4 with fail
 have HJN:=ι (λW (h:EnM w b S W)=>HJ.o (2*n) W h ω ω);simp only[Ay] at HJN;have HJL2:=HJL.o (2*n) ω;generalize ((S.drop 1).take (2*n)).flatten=jl at HJN HJL2 HHO;have HHD:=ι (λW (h:EnM w b S W)=>xMc n ⟨jl.toArray⟩ W ω (by show jl.toArray.size<=_;simp;omega) (HTT.o W h))
 rw[show(⟨jl.toArray⟩:ByteArray).data.toList=jl from rfl] at HHD;have hq0:=HSB.o ⟨(wE n jl).toArray⟩;rw[show(⟨(wE n jl).toArray⟩:ByteArray).data.toList=wE n jl from rfl] at hq0;rw[show ∀l:Bs,xR l=.string ⟨l.toArray⟩ from λ_=>rfl] at HHD
 generalize (⟨(wE n jl).toArray⟩:ByteArray)=hd at HHD hq0;obtain⟨q,hq⟩:=eX (x0==wE n jl);rw[hq] at hq0 HHO;have HH2:Hid (xDc S=q):=ι (by rw[HHO.o];simp[h1,h2]);clear HJ HJL HHO hq hbn HJL2;have b1:(0:Int)<=(n:Int):=ω
 have b2:1+2*(n:Int)<=(S.length:Int):=by have:=HLN.o;omega
 have b3:(n:Int)<=30:=ω;have hcf:¬(S.length=1):=by have:=HLN.o;omega
 refine RG.xU (λW=>Hid (EnM w b S W)) κ κ (ι HM.o.drew) ?_;iterate 3 refine RG.dF (λw9 hw9=>HC0.o _ hw9.o) ?_
 iterate 6 refine RG.dS ?_
 apply RG.xL
 ·intro w9 hw9;repeat go_step
  with_reducible refine(HJN.o _ hw9.o).mono ?_
  rintro e w10 ⟨rfl,zO⟩;simp only[];repeat go_step
  refine RG.xE ?_;exact ι (hw9.o.below zO)
 ·rfl
 apply RG.xL
 ·intro w9 hw9;repeat go_step
  with_reducible refine(HHD.o _ hw9.o).mono ?_
  rintro e w10 ⟨rfl,zO⟩;simp only[];repeat go_step
  refine RG.xE ?_;exact ι (hw9.o.below zO)
 ·rfl
 cases q with
 |false=>
  have hq1:(!sb.toList==hd.toList)=true:=by rw[hq0];rfl
  refine RG.dS ?_;refine RG.xX (λw1 hw1=>?_);have HE:ep=none:=by rw[<-HEP.o];exact xK6 HH2.o
  subst HE;clear HEP HM HH2 HJN HHD;go_wp2;go_ret2;exact⟨_,rfl,RdR.xJj _ _,hw1.o.bel⟩
 |true=>
 have hq1:(!sb.toList==hd.toList)=false:=by rw[hq0];rfl
 refine RG.dS ?_;refine RG.xX (λw1 hw1=>?_);clear HM HJN HHD hq0 hq1 HSB hss i0 b1 b2 b3 hcf HC0;obtain⟨z,hzz,hmk⟩:=yKy yJr w1 n ω
 have HO:Hid (EnM w b S (w1.alloc (.cells z 94))/\xW 94 2 wrF (w1.alloc (.cells z 94)) w.heap.size (.slice (some (θ w1.heap.size 0)) 0 n) (xVy S 0)):=ι ⟨hw1.o.below ((Aq _ _).alloc ν _),xW.room z w1 n hw1.o.bel.size ω hzz⟩;go_upto_region 7 with fail
 clear hmk hzz hw1;generalize w1.alloc (.cells z 94)=w2 at HO⊢;generalize Value.slice (some (θ w1.heap.size 0)) 0 n=ov at HO⊢;go_wp2_with fail
 go_loopw [5,36] (λlv iv wr=>∃k:Nat,k<=n/\iv=.int .i64 k/\Hid (EnM w b S wr/\xW 94 2 wrF wr w.heap.size lv (xVy S k))/\Hid (∀i,i<k->xHv S i=true)) (λ_ iv _=>n- (intOf iv).toNat)
 case atStart=>exact⟨0,Bc _,rfl,HO,ι (λi h=>by omega)⟩
 case round=>
  obtain⟨k,hk,rfl,HI,hok⟩:=hrel;clear HO
  by_cases hlt:k<n
  ·obtain⟨x,hx⟩:∃x,S[1+2*k]?=some x:=⟨_,Af (by have:=HLN.o;omega)⟩;obtain⟨y,hy⟩:∃y,S[2+2*k]?=some y:=⟨_,Af (by have:=HLN.o;omega)⟩;have cx:=HI.o.1.cs _ x hx;have yCw:=HS64.o x (Bb hx)
   have hd1:S.getD (1+2*k) []=x:=by rw[Aa,hx];rfl
   have hd2:S.getD (2+2*k) []=y:=by rw[Aa,hy];rfl
   have HEW:Hid (xVx S k=⟨(leN (x.take 4):Int),y⟩):=ι (by unfold xVx;rw[hd1,hd2,yL4 ω]);have HD1:=ι hd1;have HY:=ι (λW (h:EnM w b S W)=>h.cs _ y hy);have j1:2*(k:Int)+1<(S.length:Int):=by have:=HLN.o;omega
   have j2:2*(k:Int)+2<(S.length:Int):=by have:=HLN.o;omega
   have j3:(k:Int)<=30:=ω;clear hx hy hd1 hd2;obtain⟨wo,hwo⟩:∃wo,wo=wr:=⟨_,rfl⟩;rw[<-hwo] at HI cx⊢;clear hwo;go_upto_region 12 with fail
   clear cx;obtain⟨l,hll⟩:=eX (x.take 4);have hl4:l.length=4:=by rw[<-hll,Ck];omega
   have HLX:Hid (∀j,j<4->x[j]?=l[j]?):=ι (λj hj=>by rw[<-hll,Ea,Ah hj]);rw[hll] at HEW;have hlt4:=xM7 l ω;rw[hl4] at hlt4;have hxs:(⟨x.toArray⟩:ByteArray).size=64:=by show x.toArray.size=64;simp[yCw]
   have HXB:Hid (xR x=.string ⟨x.toArray⟩):=ι rfl;have HXX:Hid ((⟨x.toArray⟩:ByteArray).data.toList=x):=ι rfl;rw[HXB.o];generalize (⟨x.toArray⟩:ByteArray)=xb at hxs HXX⊢;clear hll HXB;go_wp2_with fail
   go_loopw [8,9] (λnv iv wq=>∃(i:Int) (j:Nat),-1<=i/\i<4/\i+1=j/\iv=.int .i64 i/\nv=.int .i64 (leN (l.drop j))/\wq=wo) (λ_ iv _=>(intOf iv+1).toNat)
   case atStart=>exact⟨3,4,ω,ω,ω,rfl,by rw[List.drop_eq_nil_of_le ω];rfl,rfl⟩
   case round=>
    obtain⟨i,jj,hi0,hi1,hij,rfl,rfl,rfl⟩:=hrel
    by_cases hlt2:0<=i
    ·obtain⟨j,rfl⟩:∃j:Nat,i=j:=⟨i.toNat,ω⟩;obtain rfl:jj=j+1:=ω;obtain⟨b0,hb0⟩:∃b0,l[j]?=some b0:=⟨_,Af ω⟩;have HD:=ι (xVb hb0);have hix:=λw=>zN (P:=prog) underlying9 xb (j:Int) j rfl ω w
     have hby:yU xb j=(b0.toNat:Int):=by
      unfold yU;rw[HXX.o,Aa,HLX.o j ω,hb0];rfl
     rw[hby] at hix;have hb:=Ex b0;have hdl:(l.drop (j+1)).length<=3:=by rw[Eb];omega
     have hlt5:=xM7 (l.drop (j+1)) ω;have hpow:256^(l.drop (j+1)).length<=256^3:=Hg ω hdl;have HOR:=yIq (leN (l.drop (j+1))) b0.toNat ω hb;have hm:leN (l.drop (j+1))<16777216:=ω;generalize leN (l.drop (j+1))=m at HD HOR hm;clear hdl hlt5 hpow hby hb0;go_wp2
     exact⟨⟨(j:Int)-1,j,ω,ω,ω,rfl,by rw[HD.o];congr 1;omega,trivial⟩,by simp[intOf]⟩
    ·obtain rfl:jj=0:=ω;obtain rfl:i=-1:=ω;rw[List.drop_zero];have HLA:Hid (leN l<4294967296):=ι hlt4;generalize leN l=at_ at HEW HLA;have b4:(at_:Int)<4294967296:=by have:=HLA.o;omega
     have HBAD:Hid (xHv S k=false->ep=none):=ι (λh=>by rw[<-HEP.o];exact yHk (by rw[HEN.o];exact hlt) h);have HEA:Hid ((xVx S k).at_=(at_:Int)):=ι (by rw[HEW.o]);clear hlt4 hl4 HLX hi0 hi1 hij hlt2 yCw
     by_cases g1:at_<61
     ·have g1i:(at_:Int)<61:=ω;obtain rfl:=HBAD.o (xF8 HEA.o (.inl g1i));clear HBAD HEP HEA;go_wp2;go_ret2;exact⟨_,rfl,RdR.xJj _ _,HI.o.1.bel⟩
     have g1i:¬((at_:Int)<61):=ω
     by_cases g2:S.length<=at_
     ·have g2i:(S.length:Int)<=(at_:Int):=ω;obtain rfl:=HBAD.o (xF8 HEA.o (.inr (.inl g2i)));clear HBAD HEP HEA;go_wp2;go_ret2;exact⟨_,rfl,RdR.xJj _ _,HI.o.1.bel⟩
     have g2i:¬((S.length:Int)<=(at_:Int)):=ω;have HDS:=ι (xW5 (at_:Int) wr)
     have hq0:(xb.toList==(⟨(wN (at_:Int)).toArray⟩:ByteArray).toList)=(x==wN (at_:Int)):=by
      rw[Br,Br,HXX.o]
     rw[show xR (wN (at_:Int))=.string ⟨(wN (at_:Int)).toArray⟩ from rfl] at HDS;generalize (⟨(wN (at_:Int)).toArray⟩:ByteArray)=db at HDS hq0;obtain⟨q,hq⟩:∃q,(x==wN (at_:Int))=q:=⟨_,rfl⟩;have HQ:=ι hq;rw[hq] at hq0;clear hq;go_wp2_with fail
     refine HDS.o.mono ?_;rintro e w5 ⟨rfl,hb5⟩;have HI5:=ι (Ai (HI.o.1.below hb5) (HI.o.2.below hb5));clear hb5 HI HDS;cases q with
     |false=>
      have hq1:(!xb.toList==db.toList)=true:=by rw[hq0];rfl
      obtain rfl:=HBAD.o (xF8 HEA.o (.inr (.inr (by rw[HD1.o];exact HQ.o))));clear HBAD HEP HEA HQ;go_wp2;go_ret2;exact⟨_,rfl,RdR.xJj _ _,HI5.o.1.bel⟩
     |true=>
      have hq1:(!xb.toList==db.toList)=false:=by rw[hq0];rfl
      have HOK:Hid (∀i,i<k+1->xHv S i=true):=ι (λi h=>by
       by_cases hik:i<k
       ·exact hok.o i hik
       ·obtain rfl:i=k:=ω;exact xYc HEA.o ω ω (by rw[HD1.o];exact HQ.o))
      have HSN:Hid (xVy S (k+1)=xVy S k++[⟨(at_:Int),y⟩]):=ι (by rw[yDq,HEW.o]);have HEL:Hid ((xVy S k).length<=30):=ι (by rw[yHm];omega);clear hok HEA HQ HBAD HEW HD1;generalize xVy S k=el at HI5 HSN HEL;go_upto_region 18 with fail
      have cy:=HY.o w5 HI5.o.1
      have HAD:=ι (λv8 w8 (h8:xA5 94 2 wrF (w5.alloc (.cells #[.int .i64 (at_:Int),xR y] 94)) w8 w.heap.size u5 v8 (el++[⟨(at_:Int),y⟩]))=>
       (show Hid (EnM w b S w8/\xW 94 2 wrF w8 w.heap.size v8 (xVy S (k+1))) from ι ⟨(HI5.o.1.below ((Aq _ _).alloc ν _)).app (HI5.o.2.alloc _) h8,by rw[HSN.o];exact h8.own⟩))
      go_wp2_with (at_builtin;refine uG yJr rfl _ _ rfl rfl rfl (HI5.o.2.alloc _) (RdR.lit (m:=[(⟨(at_:Int),y⟩:Wr)]) xCs _ _ rfl) (by have:=HEL.o;simp;omega) (by have:=HI5.o.1.bel.size;simp;omega) ?_;intro v8 w8 h8;have HA8:=HAD.o _ _ h8;clear h8)
      exact⟨⟨k+1,ω,by go_num,HA8,HOK⟩,by simp[intOf];omega⟩
  ·obtain rfl:k=n:=ω;have HE:ep=some (xVy S k):=by rw[<-HEP.o,yDp HH2.o (λi h=>hok.o i (by rw[HEN.o] at h;exact h)),HEN.o]
   subst HE;clear HEP hok HH2;go_wp2;go_ret2;exact⟨_,rfl,HI.o.2.rd xCs,HI.o.1.bel⟩
theorem yHq {W:World} {g:Nat} {A1 A2:Option Addr} {n1 c1 n2 c2:Nat} {ua ub:Value} {D:Dk} (ho:W.heap[g]?=some (yI (.slice A1 n1 c1) (.slice A2 n2 c2))) (hr:RdD W W.heap.size ua ub D):RdD ((W.setCell (θ g 0) ua).setCell (θ g 1) ub) ((W.setCell (θ g 0) ua).setCell (θ g 1) ub).heap.size ua ub D:=by
 have e0:=yD ho 0 ua;obtain⟨A3,c3,A4,c4,rfl,rfl⟩:=yC hr;have n0:=wQ ho
 have n1:xU4 (W.setCell (θ g 0) (.slice A3 D.secs.length c3)) g:=by
  simp only[Ba,Bh] at e0;exact wQ e0
 have:=RdD.far (RdD.far hr (p:=θ g 0) n0 (.slice A3 D.secs.length c3)) (p:=θ g 1) n1 (.slice A4 D.cache.length c4);simpa[size_set] using this
structure RpM (w:World) (va vb:Value) (W:World):Prop where
 d:W.heap[w.heap.size]?=some (yI va vb)
 bel:ψ w W
theorem RpM.below {w W W':World} {va vb:Value} (h:RpM w va vb W) (hb:ψ W W'):RpM w va vb W':=⟨xC h.d hb (xH h.d),bT h.bel hb⟩
theorem xXd (va vb:Value) (d:Dk) (w:World) (h:RdD w w.heap.size va vb d) (hT:jE w):
  Calls prog 43 #[.agg #[va,vb]] w λe w'=>∃ov,e=.returned ov/\RdR 3 opF w' w'.heap.size ov (xA7 d)/\ψ w w':=by
 obtain⟨A1,c1,A2,c2,rfl,rfl⟩:=yC h;have HM:Hid (RpM w (.slice A1 d.secs.length c1) (.slice A2 d.cache.length c2) (w.alloc (yI (.slice A1 d.secs.length c1) (.slice A2 d.cache.length c2)))):=ι ⟨xJ _ _,φ w _⟩
 have HST:=ι (λW (hb:RpM w (.slice A1 d.secs.length c1) (.slice A2 d.cache.length c2) W)=>xIv _ _ d W ((h.below hb.bel ν).more hb.bel.size));have HFL:=ι (λW (hb:RpM w (.slice A1 d.secs.length c1) (.slice A2 d.cache.length c2) W)=>xG3 _ _ d W ((h.below hb.bel ν).more hb.bel.size))
 rw[show(decide (61<d.secs.length)&&yP d)=qO d from rfl] at HST;have HTT:=ι (λW (hb:ψ w W)=>hT.below hb ν);obtain⟨rp,hrp⟩:=eX (xA7 d)
 have HRP:Hid (rp=if qO d=true then(if bN ((xY d).secs.getD 0 []) 0=74 then(match jH (xY d).secs with|some l=>l.map oW++[fOp]|none=>[])++[wOp 0 (xO 64),fOp] else[]) else[]):=ι (by rw[<-hrp];rfl);rw[hrp];have hm:=HM.o.d;obtain⟨k0,k1⟩:=uQ hm;clear hm hrp hT
 go_enter func43,ntmps43;cases hsu:qO d with
 |false=>
  rw[hsu] at HST;obtain rfl:rp=[]:=by rw[HRP.o,hsu,Ag σ]
  clear HRP hsu h;go_wp2_with fail
  refine cM (HST.o _ HM.o) λw1 hb1=>?_;have HM1:=ι (HM.o.below hb1);clear hb1 HST HM k0 k1;go_wp2;go_ret;exact⟨_,rfl,RdR.xJj _ _,HM1.o.bel⟩
 |true=>
  rw[hsu] at HST;rw[hsu,Ah rfl] at HRP
  have hs2:61<d.secs.length/\yP d=true:=by
   unfold qO at hsu;simpa using hsu
  have h64:=(kU.1 (qF hs2.2)).2.2.1;have hfl:=xBv hs2.2;have hmax:=xLp hs2.2;go_upto_region 1 with fail
  go_wp2_with fail
  refine cM (HST.o _ HM.o) λw1 hb1=>?_;have HM1:=ι (HM.o.below hb1);clear hb1 HST HM k0 k1 h;have hm:=HM1.o.d;obtain⟨k0,k1⟩:=uQ hm;clear hm;go_wp2_with fail
  refine(HFL.o _ HM1.o).mono ?_;rintro e w2 ⟨va',vb',rfl,hd2,hg2,hb2⟩;obtain⟨g,rfl,hs⟩:=hg2 hs2.2;have HM2:=ι (HM1.o.below hb2);have HS2:=ι hs;clear hd2 hg2 hb2 HFL HM1 k0 k1 hs;rw[<-hfl];rw[<-hfl] at hs2 hmax;generalize (xY d).secs=S at HRP HS2 h64 hs2 hmax⊢
  have hls:61<S.length:=hs2.1;clear hs2 hfl hsu;obtain⟨x0,hx0⟩:∃x,S[0]?=some x:=⟨_,Af ω⟩;have yCw:=h64 x0 (Bb hx0);rw[show S.getD 0 []=x0 by rw[Aa,hx0];rfl] at HRP
  have s0:w2.cell? (θ g 0)=some (.string ⟨x0.toArray⟩):=HS2.o.cell hx0;have hsx:(⟨x0.toArray⟩:ByteArray).size=64:=by show x0.toArray.size=64;simp[yCw]
  have hix:=zN (P:=prog) underlying9 (⟨x0.toArray⟩:ByteArray) (0:Int) 0 rfl ω w2;rw[show yU (⟨x0.toArray⟩:ByteArray) 0=((bN x0 0:Nat):Int) from rfl] at hix;have hbn:bN x0 0<256:=Ex _;generalize bN x0 0=b0 at HRP hix hbn
  generalize (⟨x0.toArray⟩:ByteArray)=xb at s0 hix;have HX:=ι (Ai h64 (Ai hls hmax.2));have i0:(0:Int)<(S.length:Int):=ω
  have hfld:=λ(W:World)=>(show(Instr.field 29 (.agg #[.slice (some (θ g 0)) S.length S.length,vb']) 0).run prog W=.ok (.slice (some (θ g 0)) S.length S.length) W from rfl);clear h64 hls hmax hx0 yCw hsx
  by_cases hb:b0=74
  case neg=>
   obtain rfl:rp=[]:=by rw[HRP.o,Ag hb]
   have hb1:((b0:Int)==74)=false:=by simp;omega
   have hb2:((b0:Int)!=74)=true:=by simp;omega
   clear HRP hb;go_wp2;go_ret;exact⟨_,rfl,RdR.xJj _ _,HM2.o.bel⟩
  subst hb;rw[Ah rfl] at HRP;have HEN:=ι (xTj g S w2 (λj x hx=>HS2.o.cell hx) HS2.o.lt HX.o.1 HX.o.2.1 HX.o.2.2 (HTT.o _ HM2.o.bel));go_upto_region 6 with fail
  clear hix s0 hfld hbn HS2 HX i0;go_wp2_with fail
  refine HEN.o.mono ?_;rintro e w3 ⟨lv,rfl,hrd,hb3⟩;have HR3:=ι (Ai hrd (bT HM2.o.bel hb3));clear HEN hrd hb3 HM2;cases hen:jH S with
  |none=>
   rw[hen] at HRP;have HRE:Hid (rp=[]++[wOp 0 (xO 64),fOp]):=HRP;rw[show(none:Option (List Wr)).isSome=false from rfl];have HPL:Hid (([]:List Mailsack.Op).length<=100):=ι (Bc _)
   have HI4:Hid (xW 104 3 opF w3 w.heap.size (.slice none 0 0) []/\ψ w w3):=ι ⟨xW.nil _ _,HR3.o.2⟩;clear HRP hen HR3;have HZZ:=ι (λW=>xFb 64 W ω);obtain⟨zb,hzb⟩:=eX (xO 64);rw[hzb] at HZZ HRE;clear hzb;have yEv:=ι (λW=>xBn 0 ⟨zb.toArray⟩ W);have HWF:=ι xDw
   go_wp2_with fail
   refine cM (HZZ.o _) λw5 hb=>?_;have HI5:=ι (Ai (HI4.o.1.below hb) (bT HI4.o.2 hb));clear hb HI4 HZZ;go_wp2_with fail
   refine cM (yEv.o _) λw6 hb=>?_;have HI6:=ι (Ai (HI5.o.1.below hb) (bT HI5.o.2 hb));clear hb HI5 yEv;go_wp2_with fail
   refine cM (HWF.o _) λw7 hb=>?_;have HI7:=ι (Ai (HI6.o.1.below hb) (bT HI6.o.2 hb));clear hb HI6 HWF
   go_wp2_with (at_builtin;refine uG yFh rfl _ _ rfl rfl rfl (HI7.o.1.alloc _) (RdR.lit (m:=[wOp 0 zb,fOp]) xAc _ _ rfl) (by have:=HPL.o;simp only[Bl,Dq] at this⊢;omega) (by have:=HI7.o.2.size;simp;omega) ?_;intro v8 w8 h8;have HA8:=ι (Ai h8.own (h8.bel (HI7.o.1.alloc _) ν (HI7.o.2.alloc HI7.o.2.size _) (by have:=HI7.o.2.size;simp;omega)));clear h8)
   go_ret;refine⟨v8,rfl,?_,HA8.o.2⟩;rw[HRE.o];exact HA8.o.1.rd xAc
  |some l=>
   rw[hen] at HRP HR3;have hl30:=xVv hen;rw[show(some l).isSome=true from rfl];rw[show(some l).getD []=l from rfl] at HR3;have HRE:Hid (rp=(l.map oW++[fOp])++[wOp 0 (xO 64),fOp]):=HRP;clear HRP hen;obtain⟨A3,c3,rfl,_,_⟩:=id HR3.o.1;have HW:=HR3
   have HI0:Hid (xW 104 3 opF w3 w3.heap.size (.slice none 0 0) ((l.take 0).map oW)/\ψ w3 w3):=ι ⟨by rw[List.take_zero];exact xW.nil _ _,Aq _ _⟩;clear HR3;go_wp2_with fail
   go_loopw [4,28] (λov iv wr=>∃k:Nat,k<=l.length/\iv=.int .i64 k/\Hid (xW 104 3 opF wr w3.heap.size ov ((l.take k).map oW)/\ψ w3 wr)) (λ_ iv _=>l.length- (intOf iv).toNat)
   case atStart=>exact⟨0,Bc _,rfl,HI0⟩
   case round=>
    obtain⟨k,hk,rfl,HI⟩:=hrel;clear HI0
    by_cases hlt:k<l.length
    ·obtain⟨x,hx⟩:∃x,l[k]?=some x:=⟨_,Af hlt⟩;obtain⟨b,off,rfl,hbw,q⟩:=rd_at HW.o.1 hx;have q0:wr.cell? (θ b (off+k*2))=some (.int .i64 x.at_):=(HI.o.2.cell (p:=(θ b (off+k*2))) hbw).trans (q 0 _ rfl)
     have q1:wr.cell? (θ b (off+k*2+1))=some (xR x.data):=(HI.o.2.cell (p:=(θ b (off+k*2+1))) hbw).trans (q 1 _ rfl);have HSN:Hid ((l.take (k+1)).map oW=(l.take k).map oW++[oW x]):=ι (xJn hx)
     have HKL:Hid (((l.take k).map oW).length<=30):=ι (by have:=Ei k l;rw[Bw];omega);generalize (l.take k).map oW=P1 at HI HSN HKL
     have HXA:=ι (Ai (HI.o.1.alloc (.cells #[.int .i64 x.at_,xR x.data] 94)) (HI.o.2.alloc HI.o.2.size (.cells #[.int .i64 x.at_,xR x.data] 94)));have hxb:=xJ wr (.cells #[.int .i64 x.at_,xR x.data] 94);obtain⟨x0,x1⟩:=uQ hxb;clear hx hxb HI q
     go_upto_region 12 with fail
     clear q0 q1;generalize wr.alloc (.cells #[.int .i64 x.at_,xR x.data] 94)=w4 at HXA x0 x1⊢
     have HAD:∀v8 w8,xA5 104 3 opF (w4.alloc (.cells #[.bool false,.int .i64 x.at_,xR x.data] 104)) w8 w3.heap.size u4 v8 (P1++[⟨false,x⟩])->Hid (xW 104 3 opF w8 w3.heap.size v8 ((l.take (k+1)).map oW)/\ψ w3 w8):=λv8 w8 h8=>ι ⟨by rw[HSN.o];exact h8.own,h8.bel (HXA.o.1.alloc _) ν (HXA.o.2.alloc HXA.o.2.size _) (by have:=HXA.o.2.size;simp;omega)⟩
     have HAH:=ι HAD;clear HAD
     go_wp2_with (at_builtin;refine uG yFh rfl _ _ rfl rfl rfl (HXA.o.1.alloc _) (RdR.lit (m:=[(⟨false,x⟩:Mailsack.Op)]) xAc _ _ rfl) (by have:=HKL.o;simp only[Bl,Dq] at this⊢;omega) (by have:=HXA.o.2.size;simp;omega) ?_;intro v8 w8 h8;have HA8:=HAH.o _ _ h8;clear h8)
     exact⟨⟨k+1,ω,by go_num,HA8⟩,by simp[intOf];omega⟩
    ·obtain rfl:k=l.length:=ω;rw[Cf] at HI;have HKL:Hid ((l.map oW).length<=30):=ι (by rw[Bw];omega);have HI3:Hid (xW 104 3 opF wr w.heap.size u4 (l.map oW)/\ψ w wr):=ι ⟨HI.o.1.less HW.o.2.size,HW.o.2.trans (HI.o.2.mono HW.o.2.size)⟩
     generalize l.map oW=P0 at HI3 HKL HRE;clear HI HW hlt hl30;have HWF0:=ι xDw;go_wp2_with fail
     refine cM (HWF0.o _) λw5 hb=>?_;have HI7:=ι (Ai (HI3.o.1.below hb) (bT HI3.o.2 hb));clear hb HI3 HWF0
     go_upto_region 15 with (at_builtin;refine uG yFh rfl _ _ rfl rfl rfl (HI7.o.1.alloc _) (RdR.lit (m:=[fOp]) xAc _ _ rfl) (by have:=HKL.o;simp only[Bl,Dq] at this⊢;omega) (by have:=HI7.o.2.size;simp;omega) ?_;intro v8 w8 h8;have HI4:=ι (Ai h8.own (h8.bel (HI7.o.1.alloc _) ν (HI7.o.2.alloc HI7.o.2.size _) (by have:=HI7.o.2.size;simp;omega)));clear h8)
     have HPL:Hid ((P0++[fOp]).length<=100):=ι (by have:=HKL.o;rw[Aj];simp only[Bl,Dq];omega);generalize P0++[fOp]=P2 at HI4 HPL HRE;clear HI7 HKL;have HZZ:=ι (λW=>xFb 64 W ω);obtain⟨zb,hzb⟩:=eX (xO 64);rw[hzb] at HZZ HRE
     clear hzb;have yEv:=ι (λW=>xBn 0 ⟨zb.toArray⟩ W);have HWF:=ι xDw;go_wp2_with fail
     refine cM (HZZ.o _) λw5 hb=>?_;have HI5:=ι (Ai (HI4.o.1.below hb) (bT HI4.o.2 hb));clear hb HI4 HZZ;go_wp2_with fail
     refine cM (yEv.o _) λw6 hb=>?_;have HI6:=ι (Ai (HI5.o.1.below hb) (bT HI5.o.2 hb));clear hb HI5 yEv;go_wp2_with fail
     refine cM (HWF.o _) λw7 hb=>?_;have HI7:=ι (Ai (HI6.o.1.below hb) (bT HI6.o.2 hb));clear hb HI6 HWF
     go_wp2_with (at_builtin;refine uG yFh rfl _ _ rfl rfl rfl (HI7.o.1.alloc _) (RdR.lit (m:=[wOp 0 zb,fOp]) xAc _ _ rfl) (by have:=HPL.o;simp only[Bl,Dq] at this⊢;omega) (by have:=HI7.o.2.size;simp;omega) ?_;intro v8 w8 h8;have HA8:=ι (Ai h8.own (h8.bel (HI7.o.1.alloc _) ν (HI7.o.2.alloc HI7.o.2.size _) (by have:=HI7.o.2.size;simp;omega)));clear h8)
     go_ret;refine⟨v8,rfl,?_,HA8.o.2⟩;rw[HRE.o];exact HA8.o.1.rd xAc
theorem xSm (va vb:Value) (d:Dk) (w:World) (h:RdD w w.heap.size va vb d) (hc:d.cache.length<=10000) (hT:jE w):
  Calls prog 10 #[.agg #[va,vb]] w λe w'=>∃va' vb',e=.returned (.agg #[va',vb'])/\RdD w' w'.heap.size va' vb' (xPt d)/\ψ w w':=by
 have HRP:=ι (λW (hb:ψ w W)=>xXd va vb d W ((h.below hb ν).more hb.size) (hT.below hb ν));have HRN:=ι (λW lv (hb:ψ w W) (hl:RdR 3 opF W W.heap.size lv (xA7 d))=>xSh va vb lv d (xA7 d) ((xA7 d).length:Int) W ((h.below hb ν).more hb.size) hl (by have:=xSk d;omega))
 rw[Cn,Cf] at HRN;have HRE:Hid (vJ d (xA7 d)=xPt d):=ι rfl;rw[HRE.o] at HRN;clear HRE;obtain⟨A1,c1,A2,c2,rfl,rfl⟩:=yC h;have t0:=zM w (yI (.slice A1 d.secs.length c1) (.slice A2 d.cache.length c2)) (yI (.slice none 0 0) (.slice none 0 0))
 have t1:=zI w (yI (.slice A1 d.secs.length c1) (.slice A2 d.cache.length c2)) (yI (.slice none 0 0) (.slice none 0 0));have HB:=ι ((φ w (yI (.slice A1 d.secs.length c1) (.slice A2 d.cache.length c2))).alloc σ (yI (.slice none 0 0) (.slice none 0 0)));have HT0:=ι t0
 have HT1:=ι t1;have k0:=xA t0 0;have k1:=xA t0 1;clear h hc hT t0 t1;go_enter func10,ntmps10;go_wp2_with fail
 refine(HRP.o _ HB.o).mono ?_;rintro e w1 ⟨ov,rfl,hr1,hb1⟩;have HB1:=ι (bT HB.o hb1);have HS0:=ι (xC HT0.o hb1 (xH HT0.o));have HS1:=ι (xC HT1.o hb1 (xH HT1.o));have HR1:=ι hr1;obtain⟨A3,c3,rfl,_,_⟩:=hr1;clear HB hb1 HT0 HT1 HRP k0 k1;have k0:=xA HS0.o 0
 have k1:=xA HS0.o 1;have HRN1:=ι (HRN.o _ _ HB1.o HR1.o);clear HRN HR1;go_wp2_with fail
 refine HRN1.o.mono ?_;rintro e w2 ⟨va',vb',rfl,hr2,hb2⟩;have HB2:=ι (bT HB1.o hb2);have HT2:=ι (xC HS1.o hb2 (xH HS1.o));obtain⟨A4,c4,A5,c5,rfl,rfl⟩:=yC hr2;have HR2:=ι (yHq HT2.o hr2);generalize hD:xPt d=D at HR2⊢;have HDE:=ι hD;clear hD
 clear HB1 hb2 HS0 HS1 HRN1 k0 k1 hr2;obtain⟨o0,y0,f0,o1,y1,f1,HB⟩:=xMk HT2.o HB2.o ω (.slice A4 D.secs.length c4) (.slice A5 D.cache.length c5) _ rfl;go_wp2
 refine Ak (v:=.agg #[.slice A4 D.secs.length c4,.slice A5 D.cache.length c5]) (by simp[results,results10,go_sem,f0,f1]) rfl ?_;exact⟨_,_,rfl,by rw[HDE.o];simpa[size_set] using HR2.o,HB.o⟩
end Go.Proofs.DS
namespace Go.Proofs.VA
open Go.RowKit Mailsack MM BB SH SV RK DS IX Go.Proofs.ST
theorem yDd (w:World):Calls prog 6 #[] w λe w'=>∃va vb,e=.returned (.agg #[va,vb])/\RdD w' w'.heap.size va vb qU/\ψ w w':=by
 refine(xY9 (xO 64) w (λW=>?_)).mono ?_
 ·exact xMx 64 W δ
 ·rintro e w' ⟨g,n,rfl,rfl,h1,h2,h3⟩;have hl:qU.secs.length=381:=Cv;refine⟨_,_,rfl,⟨?_,⟨none,0,rfl,Bd _,λh=>absurd h δ⟩,by rw[hl];decide,Bc _⟩,h3⟩;have:=(qA.rd h1 381 (by rw[Cv];decide)).more (B':=w'.heap.size) h1.lt
  rw[Cv] at this;exact this
theorem xRe (w:World) (hT:jE w):Calls prog 4 #[] w (pv (.bool true) w):=by
 have HT:=ι hT;have HF:=ι (yDd w);obtain⟨_,hap,hst,_⟩:=xCe (l:=awL) δ yM9;have HAP:=ι (λW va vb lv (h:RdD W W.heap.size va vb qU) (hb:ψ w W) (hl:RdR 3 chF W W.heap.size lv awL)=>xGf va vb lv qU awL W h hl δ δ (HT.o.below hb ν));rw[hap] at HAP;have HNU:=xYy;have HAC:=yMa
 generalize vO qU awL=D at HAP HNU HAC hst;have HNB:=ι (λW va vb (h:RdD W W.heap.size va vb D)=>xEy va vb D ⟨#[109]⟩ ⟨#[97,108]⟩ W h δ δ);rw[show(⟨#[109]⟩:ByteArray).data.toList=[109] from rfl,show(⟨#[97,108]⟩:ByteArray).data.toList=alB from rfl,HNU] at HNB
 have HAA:=ι (λW va vb (h:RdD W W.heap.size va vb D)=>xF9 va vb D ⟨#[97,108]⟩ W h δ);rw[HAC] at HAA;have hacr:wK D ⟨#[97,108]⟩=uB:=by unfold wK;rw[HAC,Ag δ]
 rw[hacr] at HAA;simp only[xB1,uB] at HAA;have HLG:=ι (λW va vb (h:RdD W W.heap.size va vb D)=>xJs va vb D ⟨#[97,108]⟩ ⟨#[]⟩ ⟨#[115,104,111,114,116]⟩ W h δ);clear hT hap hst HNU HAC hacr;go_enter func4,ntmps4;go_wp2_with fail
 refine HF.o.mono ?_;rintro e w1 ⟨va,vb,rfl,hr1,hb1⟩;obtain⟨A1,c1,A2,c2,rfl,rfl⟩:=yC hr1;have H1:=ι (Ai hr1 hb1);clear hr1 hb1 HF;go_wp2_with fail
 have hba:=φ w1 (.cells #[.string ⟨#[109,47,97,108,47,49,50]⟩,.string ⟨#[120]⟩,.bool false,.string ⟨#[109,47,97,108,47,51]⟩,.string ⟨#[]⟩,.bool false,.string ⟨#[109,47,97,108,47,48,51]⟩,.string ⟨#[]⟩,.bool false,.string ⟨#[113,47,97,108,47,55]⟩,.string ⟨#[]⟩,.bool false] 63)
 refine(HAP.o _ _ _ _ ((H1.o.1.below hba ν).more hba.size) (bT H1.o.2 hba) (by
  rw[Ec]
  exact RdR.lit (m:=awL) (f:=chF) (λ_=>rfl) w1 #[.string ⟨#[109,47,97,108,47,49,50]⟩,.string ⟨#[120]⟩,.bool false,.string ⟨#[109,47,97,108,47,51]⟩,.string ⟨#[]⟩,.bool false,.string ⟨#[109,47,97,108,47,48,51]⟩,.string ⟨#[]⟩,.bool false,.string ⟨#[113,47,97,108,47,55]⟩,.string ⟨#[]⟩,.bool false] rfl)).mono ?_
 rintro e w2 ⟨va',vb',rfl,hr2,hb2⟩;obtain⟨A3,c3,A4,c4,rfl,rfl⟩:=yC hr2;have hb:=H1.o.2.trans ((bT hba hb2).mono H1.o.2.size)
 have H2:=ι (Ai (hr2.below (φ w2 (yI (.slice A3 D.secs.length c3) (.slice A4 D.cache.length c4))) ν) (Ai (xJ w2 (yI (.slice A3 D.secs.length c3) (.slice A4 D.cache.length c4))) (hb.alloc hb.size (yI (.slice A3 D.secs.length c3) (.slice A4 D.cache.length c4)))))
 clear hba hr2 hb2 hb H1 HAP HT;go_upto_region 2 with fail
 obtain⟨w3,hw3⟩:=eX (w2.alloc (yI (.slice A3 D.secs.length c3) (.slice A4 D.cache.length c4)));rw[hw3] at H2;rw[hw3];have hlt:w2.heap.size<w3.heap.size:=by rw[<-hw3];simp
 clear hw3;generalize w2.heap.size=g at H2 hlt⊢;have H3:=ι (Ai (H2.o.1.more (Gt hlt)) H2.o.2);clear H2 hlt;have hb:=H3.o.2.1;obtain⟨e0,e1⟩:=uQ hb;clear hb;go_wp2_with fail
 refine(HNB.o _ _ _ H3.o.1).mono ?_;rintro e w4 ⟨v,rfl,hr4,hb4⟩;obtain⟨A5,c5,rfl,hc5,hcl⟩:=hr4;obtain⟨b5,f5,rfl,hbl,hcl⟩:=hcl δ;have HC:=ι (Ai hbl (Ai (hcl 0 3 rfl 0 _ rfl) (hcl 1 12 rfl 0 _ rfl)))
 have H4:=ι (Ai ((H3.o.1.below hb4 ν).more hb4.size) (Ai (xC H3.o.2.1 hb4 (xH H3.o.2.1)) (bT H3.o.2.2 hb4)));clear hb4 hcl hbl H3 HNB e0 e1;have hb:=H4.o.2.1;obtain⟨e0,e1⟩:=uQ hb;clear hb;go_wp2_with fail
 refine cM (HAA.o _ _ _ H4.o.1) λw5 hb5=>?_;have hb6:=hb5.alloc hb5.size (yV uB);have H6:=ι (Ai ((H4.o.1.below hb6 ν).more hb6.size) (Ai (xC H4.o.2.1 hb6 (xH H4.o.2.1)) (Ai (bT H4.o.2.2 hb6) hb6)));clear hb5 hb6 HAA e0 e1
 go_upto_region 4 with fail
 obtain⟨w6,hw6⟩:=eX (w5.alloc (yV uB));rw[hw6] at H6;simp only[yV,uB] at hw6;rw[hw6];clear hw6;have hb:=H6.o.2.1;obtain⟨e0,e1⟩:=uQ hb;clear hb;go_wp2_with fail
 refine cM (HLG.o _ _ _ H6.o.1) λw7 hb7=>?_;go_upto_region 5 with fail
 have hbz:=((hb7.alloc hb7.size jK).alloc (Bg hb7.size σ) wO);have H8:=ι (Ai (bT H6.o.2.2.2 hbz) (bT H6.o.2.2.1 hbz));have c0:=(H8.o.1.cell (p:=(θ b5 (f5+0*1+0))) HC.o.1).trans HC.o.2.1
 have c1':=(H8.o.1.cell (p:=(θ b5 (f5+1*1+0))) HC.o.1).trans HC.o.2.2;simp only[Nat.zero_mul,Nat.one_mul,Db] at c0 c1';obtain⟨w8,hw8⟩:=eX ((w7.alloc jK).alloc wO);rw[hw8] at H8 c0 c1';simp only[qE,jK,wO] at hw8;rw[hw8];have HB:=ι H8.o.2
 clear hw8 hbz hb7 H8 HC H6 H4 HLG;go_wp2;go_ret;exact⟨rfl,HB.o⟩
structure WhJ (w1:World) (D:Dk) (ae:Int) (L:Nat->Bool) (α:Nat->Value) (W:World):Prop where
 b:ψ w1 W
 f:L 0=true->L 3=false->∃va vb,α 0=.agg #[va,vb]/\RdD W W.heap.size va vb qU
 a:L 3=true->∃va vb,α 3=.tuple #[.agg #[va,vb],.int .i64 ae]/\RdD W W.heap.size va vb D/\(L 4=true->α 4=.tuple #[.agg #[va,vb],.int .i64 ae])/\(L 5=true->α 5=.agg #[va,vb])/\(L 8=true->∃g,α 7=.pointer (some (θ g 0))/\W.heap[g]?=some (yI va vb))
 c:L 8=true->L 7=true
 n:L 7=true->∃g,α 7=.pointer (some (θ g 0))/\w1.heap.size<=g/\(L 8=false->W.heap[g]?=some wO)
theorem WhJ.congr {w1:World} {D:Dk} {ae:Int} {L L':Nat->Bool} {α α':Nat->Value} {W:World} (h:WhJ w1 D ae L α W) (hl:∀i,i=0∨i=3∨i=4∨i=5∨i=7∨i=8->L i=L' i) (ha:∀i,i=0∨i=3∨i=4∨i=5∨i=7->L i=true->α i=α' i):WhJ w1 D ae L' α' W:=by
 have h98:=h.c;have l0:=hl 0 σ;have l4:=hl 3 σ;have l5:=hl 4 σ;have l6:=hl 5 σ;have l8:=hl 7 σ;have l9:=hl 8 σ;refine⟨h.b,λe f4=>?_,λe=>?_,λe=>l8.symm.trans (h98 (l9.trans e)),λe=>?_⟩
 ·rw[<-ha 0 σ (l0.trans e)];exact h.f (l0.trans e) (l4.trans f4)
 ·obtain⟨va,vb,h1,h2,h2',h3,h4⟩:=h.a (l4.trans e);refine⟨va,vb,by rw[<-ha 3 σ (l4.trans e)];exact h1,h2,λe5=>by rw[<-ha 4 σ (l5.trans e5)];exact h2' (l5.trans e5),λe6=>by rw[<-ha 5 σ (l6.trans e6)];exact h3 (l6.trans e6),λe9=>?_⟩;obtain⟨g,h5,h6⟩:=h4 (l9.trans e9)
  exact⟨g,by rw[<-ha 7 σ (h98 (l9.trans e9))];exact h5,h6⟩
 ·obtain⟨g,h1,h2,h3⟩:=h.n (l8.trans e);exact⟨g,by rw[<-ha 7 σ (l8.trans e)];exact h1,h2,λe9=>h3 (l9.trans e9)⟩
abbrev alS:Value:=.string ⟨#[97,108]⟩
section
variable {D:Dk} {A:vY} {ix:Bs} {k:Nat} {once xD pw xB t:ByteArray} {T:List ByteArray} {va vb lv:Value} {W:World}
theorem xS3 (hS:Sq D A ix (msB A once T) k k) (hk:k<=5) (hA:uL A=true) (hu:A.user=alU) (ho:once.size=32) (hT:T.getD k ⟨#[]⟩=t) (ht:t.size<=700) (h:RdD W W.heap.size va vb D) (hV:VaT W):
  Calls prog 7 #[.agg #[va,vb],alS,.string once,.string t] W λe w'=>∃v,e=.returned (.tuple #[v,.int .i64 ((k:Int)+1),.int .i64 0])/\RdR 3 chF w' w'.heap.size v (dvL A once T k)/\ψ W w':=by
 obtain⟨e1,e2,e3⟩:=hS.yLz hk hA hu ho hT ht;refine(xQy va vb D alU once t W h δ hV).mono ?_;rintro e w' ⟨v,rfl,hr,hb⟩;rw[e3] at hr;exact⟨v,by rw[e1,e2],hr,hb⟩
theorem xZz (hS:Sq D A ix (msB A once T) k k) (hR:Rm D k) (hk:k<=5) (h:RdD W W.heap.size va vb D) (hl:RdR 3 chF W W.heap.size lv (dvL A once T k)):
  Calls prog 8 #[.agg #[va,vb],lv] W λe w'=>∃v,e=.returned (.tuple #[v,.int .i64 0])/\RdW w' w'.heap.size v (yX D (dvL A once T k))/\ψ W w':=by
 have:=xLe va vb lv D (dvL A once T k) W h hl (by show 2<=500;omega);rw[(yLx hS hR hk).1] at this;exact this
theorem yJj (hS:Sq D A ix (msB A once T) k k) (hR:Rm D k) (hk:k<=5) (h:RdD W W.heap.size va vb D) (hl:RdW W W.heap.size lv (yX D (dvL A once T k))) (hV:VaT W):
  Calls prog 9 #[.agg #[va,vb],lv] W λe w'=>∃v,e=.returned (.tuple #[v,.int .i64 0])/\RdR 3 opF w' w'.heap.size v (zU (yX D (dvL A once T k)))/\ψ W w':=by
 have hp:=(hS.yDx hR hk 0 []).1;have:=xJb va vb lv D (yX D (dvL A once T k)) W h hl (by have:=(xE4 hp).2.2.1;omega) hV.se.sha;rw[hp,Ah rfl] at this;exact this
theorem wh_run (hS:Sq D A ix (msB A once T) k k) (hR:Rm D k) (hk:k<=5) (m:Int) (h:RdD W W.heap.size va vb D) (hl:RdR 3 opF W W.heap.size lv (zU (yX D (dvL A once T k)))):
  Calls prog 12 #[.agg #[va,vb],lv,.int .i64 m] W λe w'=>∃va' vb',e=.returned (.agg #[va',vb'])/\RdD w' w'.heap.size va' vb' (vJ D ((zU (yX D (dvL A once T k))).take m.toNat))/\ψ W w':=by
 have hp:=(hS.yDx hR hk 0 []).1;exact xSh va vb lv D _ m W h hl (by have:=xJa hp;rw[hS.calm.cache];simp only[Dq];omega)
theorem yFb (hS:Sq D A ix (msB A once T) k k) (hR:Rm D k) (hk:k<=5) (m:Nat) (K:List Int) (hK:K.length<=200) (h:RdD W W.heap.size va vb (vJ D ((zU (yX D (dvL A once T k))).take m))) (hl:RdR 1 xQg W W.heap.size lv K):
  Calls prog 11 #[.agg #[va,vb],lv] W λe w'=>∃va' vb',e=.returned (.agg #[va',vb'])/\RdD w' w'.heap.size va' vb' (rA (vJ D ((zU (yX D (dvL A once T k))).take m)) K)/\ψ W w':=by
 have hp:=(hS.yDx hR hk 0 []).1;exact xYj va vb lv _ K W h hl (xFq _ (xE4 hp).2.1) ω
theorem xWx (hS:Sq D A ix (msB A once T) k k) (hR:Rm D k) (hk:k<=5) (m:Nat) (K:List Int) (h:RdD W W.heap.size va vb (rA (vJ D ((zU (yX D (dvL A once T k))).take m)) K)) (hV:VaT W):
  Calls prog 10 #[.agg #[va,vb]] W λe w'=>∃va' vb',e=.returned (.agg #[va',vb'])/\RdD w' w'.heap.size va' vb' (xPt (rA (vJ D ((zU (yX D (dvL A once T k))).take m)) K))/\ψ W w':=by
 have hp:=(hS.yDx hR hk 0 []).1;refine xSm va vb _ W h ?_ hV.se.sha;unfold rA;rw[Ah (xFq _ (xE4 hp).2.1)];exact Bc _
theorem yFc (hS:Sq D A ix (msB A once T) k k) (hR:Rm D k) (hk:k<=5) (h:RdD W W.heap.size va vb D) (hl:RdR 3 chF W W.heap.size lv (dvL A once T k)) (hV:VaT W):
  Calls prog 13 #[.agg #[va,vb],lv] W λe w'=>∃va' vb',e=.returned (.tuple #[.agg #[va',vb'],.int .i64 0])/\RdD w' w'.heap.size va' vb' (vO D (dvL A once T k))/\ψ W w':=by
 have:=xGf va vb lv D (dvL A once T k) W h hl (by show 2<=500;omega) (by rw[hS.calm.cache];exact Bc _) hV.se.sha;rw[(hS.apply hR hk).1] at this;exact this
theorem yFa (hS:Sq D A (ixB xD xB qG) (msB A once T) k k) (hR:Rm D k) (hk:k<=6) (hA:uL A=true) (hu:A.user=alU) (he:A.jB=0) (hpu:A.pub=xV xD) (hp:xD.size=32) (hun:xKw A pw=0/\xOw A pw=[xD]) (hn:xB.size=12) (ho:once.size=32) (hT:∀t∈T,t.size<=700) (hpw:pw.size<=100):
  ∃so D' ix',Sq D' A ix' (msB A once T) k 0/\∀va vb W,RdD W W.heap.size va vb D->VaT W->
  Calls prog 14 #[.agg #[va,vb],alS,.string pw,.string xB] W λe w'=>∃bv sv va' vb',e=.returned (.tuple #[xXa alU xD so 0 bv sv 2,.agg #[va',vb'],.int .i64 0])/\wZ 0 w' bv sv (xK (szT T) k)/\RdD w' w'.heap.size va' vb' D'/\ψ W w':=by
 obtain⟨l1,l2,l3,l4,ix',l5⟩:=hS.login hR hk hA hu he hpu hp hun hn ho hT;refine⟨xJt D alU pw,lgD D alU pw xB,ix',l5,λva vb W h hV=>?_⟩;refine(yCa va vb D alU pw xB W h δ ω (by rw[hS.calm.cache];exact Bc _) hV).mono ?_
 rintro e w' ⟨su,sp,so,se,bv,sv,va',vb',rfl,h1,_,h3,h4,h5⟩;obtain⟨rfl,rfl,rfl,rfl⟩:=h1 l1;rw[l4] at h3;refine⟨bv,sv,va',vb',?_,h3,h4,h5⟩;rw[l1,l2,l3,l4]
 rfl
theorem yJi (hS:Sq D A ix (msB A once T) k 0) (he:A.jB=0) (hpu:A.pub=xV xD) (hp:xD.size=32) (ho:once.size=32) (so:ByteArray) (hk:k<=6) {i:Nat} (hi:i<k) (hT:T.getD i ⟨#[]⟩=t) (ht:t.size<=700) (A3 A4:Option Addr) (n3 k3 n4 k4:Nat) (h:RdD W W.heap.size va vb D) (hV:VaT W):
  Calls prog 15 #[.agg #[va,vb],xXa alU xD so 0 (.slice A3 n3 k3) (.slice A4 n4 k4) 2,.int .i64 ((i:Int)+1)] W (pv (.tuple #[.string t,.int .i64 0]) W):=by
 obtain⟨t1,t2⟩:=hS.text he hpu hp ho so (i:=i+1) ω ω (by rw[Nat.add_sub_cancel,hT];exact ht);have:=xFh va vb D alU xD so 0 2 ((i+1:Nat):Int) A3 A4 n3 k3 n4 k4 W h δ ω hV;rw[t1,t2,Nat.add_sub_cancel,hT] at this;exact this
theorem xWy (hS:Sq D A ix (msB A once T) k 0) (hk:k<=6) (h:RdD W W.heap.size va vb D):
  Calls prog 16 #[.agg #[va,vb],.string ⟨#[113]⟩,alS] W λe w'=>∃A c,e=.returned (.slice A 0 c)/\ψ W w':=by
 refine(xEy va vb D ⟨#[113]⟩ alU W h δ δ).mono ?_;rintro e w' ⟨v,rfl,hr,hb⟩;obtain⟨A,c,e1,_⟩:=hr;refine⟨A,c,?_,hb⟩;rw[e1,show wM D (⟨#[113]⟩:ByteArray).data.toList alU.data.toList=[] from(hS.numbers hk (Bc _)).2]
 rfl
end
structure WhM (w:World) (g:Nat) (fo:Obj) (D:Dk) (W:World):Prop where
 f:W.heap[w.heap.size]?=some fo
 d:∃A1 c1 A2 c2,W.heap[g]?=some (yI (.slice A1 D.secs.length c1) (.slice A2 D.cache.length c2))/\RdD W W.heap.size (.slice A1 D.secs.length c1) (.slice A2 D.cache.length c2) D
 bel:ψ w W
 hg:w.heap.size<g
section
variable {w W W':World} {g:Nat} {fo:Obj} {D D':Dk} {ua ub:Value}
theorem WhM.below (h:WhM w g fo D W) (hb:ψ W W'):WhM w g fo D W':=by
 obtain⟨A1,c1,A2,c2,h1,h2⟩:=h.d;exact⟨xC h.f hb (xH h.f),⟨A1,c1,A2,c2,xC h1 hb (xH h1),(h2.below hb ν).more hb.size⟩,bT h.bel hb,h.hg⟩
theorem WhM.put (h:WhM w g fo D W) (hr:RdD W W.heap.size ua ub D'):WhM w g fo D' ((W.setCell (θ g 0) ua).setCell (θ g 1) ub):=by
 have hg:=h.hg;obtain⟨A1,c1,A2,c2,h1,h2⟩:=h.d;obtain⟨A3,c3,A4,c4,rfl,rfl⟩:=yC hr;have e1:=yD (yD h1 0 (.slice A3 D'.secs.length c3)) 1 (.slice A4 D'.cache.length c4);simp only[Ba,Bh,Cm] at e1
 exact⟨yA (yA h.f (p:=θ g 0) (by show w.heap.size≠g;omega) _) (p:=θ g 1) (by show w.heap.size≠g;omega) _,⟨A3,c3,A4,c4,e1,xG8 h1 hr⟩,(h.bel.setCell (p:=θ g 0) (by show w.heap.size<=g;omega) _).setCell (p:=θ g 1) (by show w.heap.size<=g;omega) _,hg⟩
end
theorem xM_get (sz:Int->Int) {k i:Nat} (hi:i<k):(xM sz k)[i]?=some ⟨(i:Int)+1,32,(i:Int)+1,sz ((i:Int)+1)⟩:=by
 unfold xM;rw[Cg,List.getElem?_range' hi];show some (⟨((1+1*i:Nat):Int),32,((1+1*i:Nat):Int),sz ((1+1*i:Nat):Int)⟩:vM)=_;rw[show((1+1*i:Nat):Int)=(i:Int)+1 by omega]
theorem szT_at (T:List ByteArray) (i:Nat):szT T ((i:Int)+1)=((T.getD i ⟨#[]⟩).size:Int):=by
 unfold szT;rw[show((i:Int)+1).toNat-1=i by omega]
theorem yF9 {W:World} {b7 f7 k7 j:Nat} {sv:Value} {sz:Int->Int} (h:wZ 0 W (.slice (some (θ b7 f7)) 1 k7) sv (xK sz j)):∃A9 k9,W.cell? (θ b7 (f7+0*4+3))=some (.slice A9 j k9)/\jF W W.heap.size (.slice A9 j k9) (xM sz j):=by
 obtain⟨A,c,e,_,hbx⟩:=h.rd.boxes;injection e with e1 e2 e3;subst e1;obtain⟨b,off,e4,hb,hbx⟩:=hbx (by show 0<1;omega);injection e4 with e4;injection e4 with e5 e6;subst e5 e6;obtain⟨mv,-,-,-,hm1,hm2⟩:=hbx 0 _ rfl;have hm3:=hm2;obtain⟨A9,k9,rfl,-⟩:=hm2
 rw[show(⟨pX,1,(j:Int)+1,xM sz j⟩:pJ).yL.length=j from xLd sz j] at hm1 hm3;exact⟨A9,k9,hm1,hm3⟩
structure WtM (w:World) (g gs:Nat) (fo so:Obj) (D:Dk) (mv:Value) (M:List vM) (W:World):Prop where
 m:WhM w g fo D W
 s:W.heap[gs]?=some so
 r:jF W W.heap.size mv M
theorem WtM.below {w W W':World} {g gs:Nat} {fo so:Obj} {D:Dk} {mv:Value} {M:List vM} (h:WtM w g gs fo so D mv M W) (hb:ψ W W'):WtM w g gs fo so D mv M W':=
 ⟨h.m.below hb,xC h.s hb (xH h.s),(h.r.below hb ν).more hb.size⟩
theorem yIb {w:World} {B:Nat} {A:Option Addr} {n c:Nat} {l:List Bs} (h:RdS w B (.slice A n c) l) {j:Nat} {x:Bs} (hx:l[j]?=some x):∃b off,A=some (θ b off)/\b<B/\w.cell? (θ b (off+j))=some (xR x):=by
 obtain⟨A',c',e,_,h3⟩:=h;injection e with e1 e2 e3;subst e1 e2;obtain⟨b,off,h4,h5,h6⟩:=h3 (by have:=(Ar.1 hx).1;omega);exact⟨b,off,h4,h5,h6 j x hx⟩
theorem xWw (pw xP xB xD once:ByteArray) (r m:Int) (tv kv:Value) (L:List Bs) (K:List Int) (w:World) (hL:RdS w w.heap.size tv L) (hK:RdR 1 xQg w w.heap.size kv K) (hT:VaT w) (h1:6<L.length∨100<pw.size∨200<K.length):
  Calls prog 3 #[.string pw,xDe xP xB xD r,.string once,tv,.int .i64 m,kv] w (pv (.bool true) w):=by
 obtain⟨A1,c1,rfl,_,_⟩:=hL;obtain⟨A2,c2,rfl,_,_⟩:=hK;have H0:=ι (Ai (xJ w (uX xP xB xD r)) (φ w (uX xP xB xD r)));have HAW:=ι (λW (hb:ψ w W)=>xRe W (hT.se.sha.below hb ν));clear hT;go_enter func3,ntmps3;go_upto_region 1 with fail
 obtain⟨w1,hw1⟩:=eX (w.alloc (uX xP xB xD r));rw[hw1] at H0;rw[hw1];clear hw1;have H1:=H0;clear H0
 by_cases k1:6<L.length
 ·have k1':(6:Int)<(L.length:Int):=ω;clear h1 k1;go_wp2_with fail
  refine cM (HAW.o _ H1.o.2) λw2 hb2=>?_;have HB:=ι (bT H1.o.2 hb2);clear hb2 H1 HAW;go_wp2;go_ret;exact⟨rfl,HB.o⟩
 ·have k1':¬((6:Int)<(L.length:Int)):=ω
  by_cases k2:100<pw.size
  ·have k2':(100:Int)<(pw.size:Int):=ω;clear h1 k1 k2;go_wp2_with fail
   refine cM (HAW.o _ H1.o.2) λw2 hb2=>?_;have HB:=ι (bT H1.o.2 hb2);clear hb2 H1 HAW;go_wp2;go_ret;exact⟨rfl,HB.o⟩
  ·have k2':¬((100:Int)<(pw.size:Int)):=ω;have k3':(200:Int)<(K.length:Int):=by rcases h1 with h|h|h<;>omega
   clear h1 k1 k2;go_wp2_with fail
   refine cM (HAW.o _ H1.o.2) λw2 hb2=>?_;have HB:=ι (bT H1.o.2 hb2);clear hb2 H1 HAW;go_wp2;go_ret;exact⟨rfl,HB.o⟩
theorem xWv (pw xP xB xD once:ByteArray) (r m:Int) (tv kv:Value) (L:List Bs) (K:List Int) (w:World) (hL:RdS w w.heap.size tv L) (hK:RdR 1 xQg w w.heap.size kv K) (hT:VaT w) (h1:L.length<=6) (h2:pw.size<=100) (h3:K.length<=200):
  Calls prog 3 #[.string pw,xDe xP xB xD r,.string once,tv,.int .i64 m,kv] w (pv (.bool true) w):=by
 have HTX:=ι hL;have HKP:=ι (Ai hK h3);obtain⟨AT,cT,rfl,_,_⟩:=hL;obtain⟨AK,cK,rfl,_,_⟩:=hK;have H0:=ι (Ai (xJ w (uX xP xB xD r)) (φ w (uX xP xB xD r)));have HAW:=ι (λW (hb:ψ w W)=>xRe W (hT.se.sha.below hb ν));have hua:zS alU=true:=δ
 obtain⟨ae,D,HAD,HDD⟩:∃ae D,Hid (∀W va vb,RdD W W.heap.size va vb qU->ψ w W->Calls prog 5 #[.agg #[va,vb],alS,.string pw,xDe xP xB xD r] W λe w'=>∃va' vb',e=.returned (.tuple #[.agg #[va',vb'],.int .i64 ae])/\RdD w' w'.heap.size va' vb' D/\ψ W w')/\Hid (ae=1∨(ae=0/\∃rn:Nat,r=(rn:Int)/\uR xP xB xD (rn:Int)=true/\D=frD alU pw xP xB xD rn)):=by
  cases hok:uR xP xB xD r with
  |false=>
   refine⟨1,⟨[],[]⟩,ι λW va vb hr hb=>?_,ι (.inl rfl)⟩;refine(yMb va vb qU alU pw xP xB xD r W hr δ (by rw[hok,Gq])).mono ?_;rintro e w' ⟨rfl,hb'⟩
   exact⟨_,_,rfl,⟨⟨none,0,rfl,Bd _,λh=>absurd h δ⟩,⟨none,0,rfl,Bd _,λh=>absurd h δ⟩,Bc _,Bc _⟩,hb'⟩
  |true=>
   obtain⟨rn,rfl⟩:∃rn:Nat,r=(rn:Int):=by
    have:=hok;unfold uR jN at this;simp only[Au,Be] at this;exact⟨r.toNat,ω⟩
   refine⟨0,frD alU pw xP xB xD rn,ι λW va vb hr hb=>?_,ι (.inr ⟨rfl,rn,rfl,hok,rfl⟩)⟩;have:=add_ok va vb qU alU pw xP xB xD rn W hr hua hok ω (yLt _) δ (hT.se.sha.below hb ν);rw[(yD9 (pw:=pw) hua hok).1] at this;exact this
 have HFM:=ι (λW=>yDd W);have HT:=ι hT;have k1:¬((6:Int)<(L.length:Int)):=ω;have k2:¬((100:Int)<(pw.size:Int)):=ω;have k3:¬((200:Int)<(K.length:Int)):=ω;have HLS:=ι h1;have HPW:=ι h2;clear hT h1 h2 h3;go_enter func3,ntmps3;go_upto_region 1 with fail
 have hs1:Hid ((w.alloc (uX xP xB xD r)).heap.size=w.heap.size+1):=ι σ;obtain⟨w1,hw1⟩:=eX (w.alloc (uX xP xB xD r));rw[hw1] at H0 hs1;rw[hw1];clear hw1;go_upto_region 3 with fail
 refine RG.vE [8] [0,3,4,5,7] (λL α W=>Hid (WhJ w1 D ae L α W)) (λL L' α α' W hl ha h=>ι (h.o.congr (λi hi=>hl i (by simp;omega)) (λi hi=>ha i (by simp;omega)))) κ κ κ (ι ⟨(Aq _ _).drew,λe _=>(by cases e),λe=>(by cases e),λe=>(by cases e),λe=>(by cases e)⟩) ?_;apply RG.rT
 ·rfl
 ·intro α L w9 h0 hcl xQ hw9;have e4:L 3=false:=hcl.not 10 (i:=3) h0 κ;have e9:L 8=false:=hcl.not 10 (i:=8) h0 κ;repeat go_step
  refine(HFM.o _).mono ?_;rintro e w10 ⟨va,vb,rfl,hr,hb⟩;simp only[];repeat go_step
  refine⟨rfl,_,rfl,?_⟩;refine ι ⟨bT hw9.o.b hb,λ_ _=>⟨va,vb,RG.zL _ _ _,hr⟩,λe=>absurd (show L 3=true by simpa using e) (by rw[e4];simp),λe=>absurd (show L 8=true by simpa using e) (by rw[e9];simp),λe=>?_⟩;obtain⟨g,n1,n2,n3⟩:=hw9.o.n (by simpa using e)
  exact⟨g,n1,n2,λ_=>xC (n3 e9) hb (xH (n3 e9))⟩
 ·intro b α;rfl
 refine RG.vS ?_;refine RG.vF (λα L w9 h0 hcl xQ hw9=>have hb:=xC H0.o.1 hw9.o.b (xH H0.o.1);Ai (hb) (xW9 hb)) ?_;apply RG.rT
 ·rfl
 ·intro α L w9 h0 hcl xQ hw9
  have f0:L 0=true:=by
   have:=xQ.yes 10 (i:=3) (j:=0) σ κ;simpa using this
  have e5:L 4=false:=hcl.not 10 (i:=4) h0 κ;have e6:L 5=false:=hcl.not 10 (i:=5) h0 κ;have e9:L 8=false:=hcl.not 10 (i:=8) h0 κ;obtain⟨va,vb,q1,q2⟩:=hw9.o.f f0 h0;have Q1:=ι q1;rw[show α 0=_ from q1];clear q1;repeat go_step
  refine(HAD.o _ _ _ q2 (H0.o.2.trans (hw9.o.b.mono H0.o.2.size))).mono ?_;rintro e w10 ⟨va',vb',rfl,hr,hb⟩;simp only[];repeat go_step
  refine⟨rfl,_,rfl,?_⟩
  refine ι ⟨bT hw9.o.b hb,λ_ e=>absurd (show(3==0+1+1+1||L 3)=false from e) σ,λ_=>⟨va',vb',RG.zL _ _ _,hr,λe=>absurd (show L 4=true by simpa using e) (by rw[e5];simp),λe=>absurd (show L 5=true by simpa using e) (by rw[e6];simp),λe=>absurd (show L 8=true by simpa using e) (by rw[e9];simp)⟩,λe=>absurd (show L 8=true by simpa using e) (by rw[e9];simp),λe=>?_⟩
  obtain⟨g,n1,n2,n3⟩:=hw9.o.n (by simpa using e);exact⟨g,n1,n2,λ_=>xC (n3 e9) hb (xH (n3 e9))⟩
 ·intro b α;rfl
 apply RG.rT
 ·rfl
 ·intro α L w9 h0 hcl xQ hw9
  have f4:L 3=true:=by
   have:=xQ.yes 10 (i:=4) (j:=3) σ κ;simpa using this
  have e6:L 5=false:=hcl.not 10 (i:=5) h0 κ;have e9:L 8=false:=hcl.not 10 (i:=8) h0 κ;obtain⟨va,vb,q1,q2,_,q3,q4⟩:=hw9.o.a f4;have Q1:=ι q1;clear q1;repeat go_step
  refine⟨rfl,_,rfl,?_⟩
  refine ι ⟨hw9.o.b,λe e4=>hw9.o.f (by simpa using e) (by simpa using e4),λ_=>⟨va,vb,Q1.o,q2,λ_=>(RG.zL _ _ _).trans Q1.o,λe=>absurd (show L 5=true by simpa using e) (by rw[e6];simp),λe=>absurd (show L 8=true by simpa using e) (by rw[e9];simp)⟩,λe=>absurd (show L 8=true by simpa using e) (by rw[e9];simp),λe=>?_⟩
  obtain⟨g,n1,n2,n3⟩:=hw9.o.n (by simpa using e);exact⟨g,n1,n2,λ_=>n3 e9⟩
 ·intro b α;rfl
 apply RG.qP
 ·rfl
 ·intro α L w9 h0 hcl xQ hw9
  have f4:L 3=true:=by
   have:=xQ.yes 10 (i:=5) (j:=3) σ κ;simpa using this
  have f5:L 4=true:=by
   have:=xQ.yes 10 (i:=5) (j:=4) σ κ;simpa using this
  have e9:L 8=false:=hcl.not 10 (i:=8) h0 κ;obtain⟨va,vb,q1,q2,q5,q3,q4⟩:=hw9.o.a f4;have Q5:=ι (q5 f5);have Q1:=ι q1;have Q2:=ι q2;refine⟨.agg #[va,vb],λbv hbv=>?_⟩;rw[show α (0+1+1+1+1)=_ from Q5.o];clear q1 q2 q3 q4 q5;repeat go_step
  rw[<-show α (0+1+1+1+1)=_ from Q5.o,<-hbv];refine RG.xE ?_
  refine ι ⟨hw9.o.b,λe e4=>hw9.o.f (by simpa using e) (by simpa using e4),λ_=>⟨va,vb,Q1.o,Q2.o,λ_=>Q5.o,λ_=>(RG.zL _ _ _).trans hbv,λe=>absurd (show L 8=true by simpa using e) (by rw[e9];simp)⟩,λe=>absurd (show L 8=true by simpa using e) (by rw[e9];simp),λe=>?_⟩
  obtain⟨g,n1,n2,n3⟩:=hw9.o.n (by simpa using e);exact⟨g,n1,n2,λ_=>n3 e9⟩
 ·intro b α;rfl
 apply RG.zR (v:=.int .i64 ae)
 ·rfl
 ·rfl
 ·intro α L w9 h0 hcl xQ hw9
  have f4:L 3=true:=by
   have:=xQ.yes 10 (i:=6) (j:=3) σ κ;simpa using this
  have f5:L 4=true:=by
   have:=xQ.yes 10 (i:=6) (j:=4) σ κ;simpa using this
  obtain⟨va,vb,q1,q2,q5,q3,q4⟩:=hw9.o.a f4;have Q5:=ι (q5 f5);rw[show α (0+1+1+1+1)=_ from Q5.o];clear q1 q2 q3 q4 q5;repeat go_step
  rw[<-show α (0+1+1+1+1)=_ from Q5.o];exact RG.xE hw9
 ·intro α;rfl
 apply RG.qP
 ·rfl
 ·intro α L w9 h0 hcl xQ hw9;have e9:L 8=false:=hcl.not 10 (i:=8) h0 κ;refine⟨.pointer (some (θ w9.heap.size 0)),λbv hbv=>?_⟩;repeat go_step
  rw[<-hbv];refine RG.xE ?_;have hal:=φ w9 wO;refine ι ⟨bT hw9.o.b hal,λe e4=>?_,λe=>?_,λe=>absurd (show L 8=true by simpa using e) (by rw[e9];simp),λ_=>⟨w9.heap.size,(RG.zL _ _ _).trans hbv,hw9.o.b.size,λ_=>xJ _ _⟩⟩
  ·obtain⟨va,vb,q1,q2⟩:=hw9.o.f (by simpa using e) (by simpa using e4);exact⟨va,vb,q1,(q2.below hal ν).more hal.size⟩
  ·obtain⟨va,vb,q1,q2,q3,q4,_⟩:=hw9.o.a (by simpa using e);exact⟨va,vb,q1,(q2.below hal ν).more hal.size,λe5=>q3 (by simpa using e5),λe6=>q4 (by simpa using e6),λe=>absurd (show L 8=true by simpa using e) (by rw[e9];simp)⟩
 ·intro b α;rfl
 apply RG.xDu (v:=undef)
 ·rfl
 ·rfl
 ·intro α L w9 h0 hcl xQ hw9
  have f8:L 7=true:=by
   have:=xQ.yes 10 (i:=8) (j:=7) σ κ;simpa using this
  have f6:L 5=true:=by
   have:=xQ.yes 10 (i:=8) (j:=5) σ κ;simpa using this
  have f4:L 3=true:=by
   have:=xQ.yes 10 (i:=8) (j:=3) σ κ;simpa using this
  obtain⟨va,vb,q1,q2,q3,q4,_⟩:=hw9.o.a f4;obtain⟨g,n1,n2,n3⟩:=hw9.o.n f8;have hx:=n3 h0;obtain⟨A1,c1,A2,c2,rfl,rfl⟩:=yC q2;have HS:=ι (xG8 hx q2);have Q6:=ι (q4 f6);have N1:=ι n1;have Q1:=ι q1;have Q3:=ι q3
  obtain⟨o0,y0,f0,o1,y1,f1,HB⟩:=xMk hx hw9.o.b ω (.slice A1 D.secs.length c1) (.slice A2 D.cache.length c2) _ rfl;have hx2:=vC (b:=g) (l:=[.slice A1 D.secs.length c1,.slice A2 D.cache.length c2]) hx rfl;simp only[yE,Nat.reduceAdd] at hx2;have HX:=ι hx2
  rw[show α (0+1+1+1+1+1)=_ from Q6.o,show α (0+1+1+1+1+1+1+1)=_ from N1.o];clear hx hx2 q1 q2 q3 q4 n1 n3;repeat go_step
  rw[<-show α (0+1+1+1+1+1)=_ from Q6.o,<-show α (0+1+1+1+1+1+1+1)=_ from N1.o];refine RG.xE ?_
  exact ι ⟨HB.o,λ_ e4=>absurd (show L 3=false by simpa using e4) (by rw[f4];simp),λ_=>⟨_,_,Q1.o,HS.o,λe=>Q3.o (by simpa using e),λ_=>Q6.o,λ_=>⟨g,N1.o,HX.o⟩⟩,λ_=>by simpa using f8,λ_=>⟨g,N1.o,n2,λe=>by simp at e⟩⟩
 ·intro α;rfl
 refine RG.vS ?_;refine RG.xA6 (λα w2 hw2=>?_);obtain⟨va,vb,q1,q2,q5,q6,q9⟩:=hw2.o.a rfl;obtain⟨g,p8,hx⟩:=q9 rfl
 replace q5:=q5 rfl
 replace q6:=q6 rfl
 have hgw:w.heap.size<g:=by
  obtain⟨g',n1,n2,_⟩:=hw2.o.n rfl;rw[p8] at n1;injection n1 with n1;injection n1 with n1;injection n1 with n1;have:=hs1.o;omega
 obtain⟨Ad,cd,Ae,ce,rfl,rfl⟩:=yC q2;have HM:Hid (WhM w g (uX xP xB xD r) D w2):=ι ⟨xC H0.o.1 hw2.o.b (xH H0.o.1),⟨Ad,cd,Ae,ce,hx,q2⟩,H0.o.2.trans (hw2.o.b.mono H0.o.2.size),hgw⟩;simp only[Ay,Nat.reduceAdd];clear hw2 q2 hx q9 HAD HFM H0 hs1
 rw[show α 7=_ from p8,show α 5=_ from q6,show α 4=_ from q5,show α 3=_ from q1];clear p8 q1 q5 q6 k1 k2 k3;rcases HDD.o with rfl|⟨rfl,rn,rfl,hf,rfl⟩
 ·have H1:=ι (Ai trivial HM.o.bel);clear HM HDD HT;go_wp2_with fail
  refine cM (HAW.o _ H1.o.2) λw2 hb2=>?_;have HB:=ι (bT H1.o.2 hb2);clear hb2 H1 HAW;go_wp2;go_ret;exact⟨rfl,HB.o⟩
 by_cases ho:once.size=32
 case neg=>
  have ho1:((once.size:Int)==32)=false:=by simp;omega
  have ho2:((once.size:Int)!=32)=true:=by simp;omega
  have H1:=ι (Ai trivial HM.o.bel);clear HM HDD HT ho;go_wp2_with fail
  refine cM (HAW.o _ H1.o.2) λw2 hb2=>?_;have HB:=ι (bT H1.o.2 hb2);clear hb2 H1 HAW;go_wp2;go_ret;exact⟨rfl,HB.o⟩
 have ho1:((once.size:Int)==32)=true:=by simp;omega
 have ho2:((once.size:Int)!=32)=false:=by simp;omega
 obtain⟨T,hT⟩:∃T:List ByteArray,L.map (λy=>(⟨y.toArray⟩:ByteArray))=T:=⟨_,rfl⟩;obtain⟨hS0,hR0⟩:=yFu (pw:=pw) hf (msB (rP alU pw xP xB xD rn) once T);obtain⟨f1,f2,f3,f4,f5,f6,f7,f8⟩:=yBv (pw:=pw) hf;obtain⟨A,hA⟩:=eX (rP alU pw xP xB xD rn);rw[hA] at hS0 f1 f2 f3 f4 f7 f8
 have HF:Hid (uL A=true/\A.user=alU/\A.jB=0/\A.pub=xV xD/\xD.size=32/\xB.size=12/\(xKw A pw=0/\xOw A pw=[xD])/\once.size=32/\pw.size<=100):=ι ⟨f1,f2,f3,f4,f5,f6,⟨f7,f8⟩,ho,HPW.o⟩
 have HTL:Hid (T.length=L.length/\∀(k:Nat) y,L[k]?=some y->T.getD k ⟨#[]⟩=⟨y.toArray⟩/\T[k]?=some ⟨y.toArray⟩):=ι ⟨by rw[<-hT,Bw],λk y hy=>by
  have:T[k]?=some ⟨y.toArray⟩:=by rw[<-hT,Cg,hy];rfl
  exact⟨by rw[Aa,this];rfl,this⟩⟩
 have HI0:Hid (∃D,WhM w g (uX xP xB xD rn) D w2/\Sq D A (ixB xD xB qG) (msB A once T) 0 0/\Rm D 0):=ι ⟨_,HM.o,hS0,hR0⟩;generalize frD alU pw xP xB xD rn=D0;clear HM HDD hS0 hR0 f1 f2 f3 f4 f5 f6 f7 f8 hA hT ho hf hua hgw HPW
 go_upto_block 0 with fail
 go_cut [] (λwx=>Hid (∃j,(j<=6/\(j=L.length∨j+1=L.length))/\(∀t∈T,t.size<=700)/\∃D,WhM w g (uX xP xB xD rn) D wx/\Sq D A (ixB xD xB qG) (msB A once T) j j/\Rm D j))
 case first=>
  go_wp2_with fail
  go_loopw [62] (λiv wr=>∃k:Nat,k<=L.length/\iv=.int .i64 k/\Hid (∃D,WhM w g (uX xP xB xD rn) D wr/\Sq D A (ixB xD xB qG) (msB A once T) k k/\Rm D k)/\Hid (∀i,i<k->(T.getD i ⟨#[]⟩).size<=700)) (λiv _=>L.length- (intOf iv).toNat)
  case atStart=>exact⟨0,Bc _,rfl,HI0,ι (λi h=>by omega)⟩
  case round=>
   obtain⟨k,hk,rfl,HI,h700⟩:=hrel;clear HI0
   by_cases hlt:k<L.length
   ·obtain⟨D,hM,hS,hR⟩:=HI.o;have HS:=ι (Ai hS hR);have HM:=ι hM;clear HI hM hS hR;obtain⟨y,hy⟩:∃y,L[k]?=some y:=⟨_,Af hlt⟩;obtain⟨hTk,hTm⟩:=HTL.o.2 k y hy;obtain⟨b,off,rfl,hbw,q⟩:=yIb HTX.o hy
    have cy:=(HM.o.bel.cell (p:=(θ b (off+k))) hbw).trans q;rw[show xR y=.string ⟨y.toArray⟩ from rfl] at cy;generalize (⟨y.toArray⟩:ByteArray)=t at cy hTk hTm;have HTK:=ι (Ai hTk hTm);clear hy q hbw hTk hTm
    by_cases g7:t.size<=700
    case neg=>
     have g7i:(700:Int)<(t.size:Int):=ω;have H1:=ι (Ai trivial HM.o.bel);clear HM HS HTK g7 h700;go_wp2_with fail
     refine cM (HAW.o _ H1.o.2) λw2 hb2=>?_;have HB:=ι (bT H1.o.2 hb2);clear hb2 H1 HAW;go_wp2;go_ret;exact⟨rfl,HB.o⟩
    have g7i:¬((700:Int)<(t.size:Int)):=ω;have kb:(k:Int)<=6:=by have:=HLS.o;omega
    have HDL:=ι (λW va vb (h:RdD W W.heap.size va vb D) (hb:ψ w W)=>xS3 HS.o.1 (by have:=HLS.o;omega) HF.o.1 HF.o.2.1 HF.o.2.2.2.2.2.2.2.1 HTK.o.1 g7 h (HT.o.below hb))
    have H7:Hid (∀i,i<k+1->(T.getD i ⟨#[]⟩).size<=700):=ι (λi h=>by
     by_cases hik:i<k
     ·exact h700.o i hik
     ·obtain rfl:i=k:=ω;rw[HTK.o.1];exact g7)
    clear h700 g7;obtain⟨A1,c1,A2,c2,hd,hrd⟩:=HM.o.d;obtain⟨e0,e1⟩:=uQ hd;have HRD:=ι hrd;clear hd hrd;go_wp2_with fail
    refine(HDL.o _ _ _ HRD.o HM.o.bel).mono ?_;rintro e w3 ⟨lv,rfl,hr3,hb3⟩;have HM3:=ι (HM.o.below hb3);have HL3:=ι hr3;obtain⟨A3,c3,rfl,_,_⟩:=hr3;rw[show(dvL A once T k).length=2 from rfl] at HL3⊢;clear HM HRD HDL hb3 e0 e1 cy g7i;obtain⟨A1,c1,A2,c2,hd,hrd⟩:=HM3.o.d
    obtain⟨e0,e1⟩:=uQ hd;have y0:=xG hd 0;have y1:=xG hd 1;have HRD:=ι hrd;clear hd hrd
    by_cases hla:k+1=L.length
    ·have hla1:(L.length:Int)-1=(k:Int):=ω;have HWR:=ι (xZz HS.o.1 HS.o.2 (by have:=HLS.o;omega) HRD.o HL3.o);go_wp2_with fail
     refine HWR.o.mono ?_;rintro e w4 ⟨wv,rfl,hw4,hb4⟩;have HM4:=ι (HM3.o.below hb4);obtain⟨A1,c1,A2,c2,hd,hrd⟩:=HM4.o.d;have HPL:=ι (yJj (W:=w4) HS.o.1 HS.o.2 (by have:=HLS.o;omega) hrd hw4 (HT.o.below HM4.o.bel));obtain⟨A4,c4,rfl,_,_⟩:=hw4
     clear HM3 HWR HL3 HRD hb4 e0 e1 y0 y1;generalize (yX D (dvL A once T k)).length=wn at HPL⊢;obtain⟨e0,e1⟩:=uQ hd;clear hd hrd;go_wp2_with fail
     refine HPL.o.mono ?_;rintro e w5 ⟨ov,rfl,ho5,hb5⟩;have HM5:=ι (HM4.o.below hb5);obtain⟨A5,c5,rfl,_,_⟩:=id ho5;have HO5:=ι ho5;clear HM4 HPL hb5 ho5 e0 e1;obtain⟨A1,c1,A2,c2,hd,hrd⟩:=HM5.o.d;have HRU:=ι (wh_run HS.o.1 HS.o.2 (by have:=HLS.o;omega) m hrd HO5.o)
     generalize (zU (yX D (dvL A once T k))).length=on at HRU⊢;obtain⟨e0,e1⟩:=uQ hd;clear HO5 hd hrd;go_wp2_with fail
     refine HRU.o.mono ?_;rintro e w6 ⟨ua,ub,rfl,hr6,hb6⟩;have HM6:=ι (HM5.o.below hb6);have HCR:=ι (yFb (W:=w6) HS.o.1 HS.o.2 (by have:=HLS.o;omega) m.toNat K HKP.o.2 hr6 ((HKP.o.1.below HM6.o.bel ν).more HM6.o.bel.size));clear HM5 HRU hr6 hb6 e0 e1;go_wp2_with fail
     refine HCR.o.mono ?_;rintro e w7 ⟨ua,ub,rfl,hr7,hb7⟩;have HM7:=ι (HM6.o.below hb7);have HRC:=ι (xWx (W:=w7) HS.o.1 HS.o.2 (by have:=HLS.o;omega) m.toNat K hr7 (HT.o.below HM7.o.bel));clear HM6 HCR hr7 hb7;go_wp2_with fail
     refine HRC.o.mono ?_;rintro e w8 ⟨ua,ub,rfl,hr8,hb8⟩;obtain⟨A7,c7,A8,c8,rfl,rfl⟩:=yC hr8;obtain⟨_,j,hjk,hS8,hR8⟩:=HS.o.1.yDx HS.o.2 (by have:=HLS.o;omega) m.toNat K;have HM8:=ι (HM7.o.below hb8);have HP8:=ι (Ai (HM8.o.put hr8) (Ai hS8 hR8))
     clear HM7 HRC hr8 hb8 hS8 hR8;generalize xPt (rA (vJ D ((zU (yX D (dvL A once T k))).take m.toNat)) K)=D' at HP8⊢;obtain⟨A1,c1,A2,c2,hd,hrd⟩:=HM8.o.d;obtain⟨e0,e1⟩:=uQ hd;have y0:=xG hd 0;have y1:=xG hd 1;clear hd hrd HM8
     have HEX:Hid (∃j,(j<=6/\(j=L.length∨j+1=L.length))/\(∀t∈T,t.size<=700)/\∃D,WhM w g (uX xP xB xD rn) D ((w8.setCell (θ g 0) (.slice A7 D'.secs.length c7)).setCell (θ g 1) (.slice A8 D'.cache.length c8))/\Sq D A (ixB xD xB qG) (msB A once T) j j/\Rm D j):=ι ⟨j,⟨by have:=HLS.o;omega,ω⟩,λt ht=>by
      obtain⟨i,hi,rfl⟩:=List.mem_iff_getElem.1 ht;have:=H7.o i (by have:=HTL.o.1;omega);rw[Aa,Af hi] at this;exact this,_,HP8.o⟩
     clear HP8 HS H7 HTK hla1 hla hjk;go_wp2_with fail
     go_meet;exact HEX
    ·have hla2:¬((k:Int)=(L.length:Int)-1):=ω;have hla1:((k:Int)==(L.length:Int)-1)=false:=by simp;omega
     have kc:(L.length:Int)<=6:=by have:=HLS.o;omega
     have HAP:=ι (yFc HS.o.1 HS.o.2 (by have:=HLS.o;omega) HRD.o HL3.o (HT.o.below HM3.o.bel));go_wp2_with fail
     refine HAP.o.mono ?_;rintro e w4 ⟨ua,ub,rfl,hr4,hb4⟩;obtain⟨A4,c4,A5,c5,rfl,rfl⟩:=yC hr4;obtain⟨_,hS5,hR5⟩:=HS.o.1.apply HS.o.2 (by have:=HLS.o;omega);have HM4:=ι (HM3.o.below hb4);have HP4:=ι (Ai (HM4.o.put hr4) (Ai hS5 hR5))
     clear HM3 HAP HL3 HRD hb4 hr4 e0 e1 y0 y1 hS5 hR5;generalize vO D (dvL A once T k)=D' at HP4⊢;obtain⟨A1,c1,A2,c2,hd,hrd⟩:=HM4.o.d;obtain⟨e0,e1⟩:=uQ hd;have y0:=xG hd 0;have y1:=xG hd 1;clear hd hrd HM4;go_wp2
     exact⟨⟨k+1,ω,by go_num,ι ⟨_,HP4.o.1,HP4.o.2.1,HP4.o.2.2⟩,H7⟩,by simp[intOf];omega⟩
   ·obtain rfl:k=L.length:=ω
    have HEX:Hid (∃j,(j<=6/\(j=L.length∨j+1=L.length))/\(∀t∈T,t.size<=700)/\∃D,WhM w g (uX xP xB xD rn) D wr/\Sq D A (ixB xD xB qG) (msB A once T) j j/\Rm D j):=ι ⟨L.length,⟨HLS.o,.inl rfl⟩,λt ht=>by
     obtain⟨i,hi,rfl⟩:=List.mem_iff_getElem.1 ht;have:=h700.o i (by have:=HTL.o.1;omega);rw[Aa,Af hi] at this;exact this,HI.o⟩
    clear HI h700;go_wp2_with fail
    go_meet;exact HEX
 case rest=>
 obtain⟨j,hj,ht7,hI⟩:=hcut.o;have HT7:=ι ht7;have HI:=ι hI;clear hcut ht7 hI;have HAJ:Hid (j<=6/\(j=L.length∨j+1=L.length)):=ι hj;obtain⟨D5,hM,hS,hR⟩:=HI.o
 obtain⟨so,D6,ix6,hS6,hlg⟩:=yFa hS hR hj.1 HF.o.1 HF.o.2.1 HF.o.2.2.1 HF.o.2.2.2.1 HF.o.2.2.2.2.1 HF.o.2.2.2.2.2.2.1 HF.o.2.2.2.2.2.1 HF.o.2.2.2.2.2.2.2.1 HT7.o HF.o.2.2.2.2.2.2.2.2;have HLG:=ι hlg;have HS6:=ι hS6;have HM:=ι hM;clear hM hS hR hS6 hlg HI hj
 obtain⟨A1,c1,A2,c2,hd,hrd⟩:=HM.o.d;have HRD:=ι hrd;obtain⟨e0,e1⟩:=uQ hd;have hf:=HM.o.f;obtain⟨f0,f1,f2,f3⟩:=xW9 hf;clear hd hrd hf;go_wp2_with fail
 refine(HLG.o _ _ _ HRD.o (HT.o.below HM.o.bel)).mono ?_;rintro e w7 ⟨bv,sv,va',vb',rfl,ho7,hr7,hb7⟩;clear HLG HRD e0 e1 f0 f1 f2 f3;obtain⟨A7,k7,rfl,-,hbx⟩:=ho7.rd.boxes;obtain⟨A8,k8,rfl,-⟩:=ho7.rd.subs;obtain⟨b7,f7,rfl,-,-⟩:=hbx (by show 0<1;omega)
 rw[show(xK (szT T) j).boxes.length=1 from rfl,show(xK (szT T) j).subs.length=0 from rfl] at ho7⊢;clear hbx;obtain⟨A3,c3,A4,c4,rfl,rfl⟩:=yC hr7;have HM7:=ι (HM.o.below hb7);have HO7:=ι (Ai ho7 hr7);clear HM hb7 ho7 hr7;obtain⟨A5,c5,A6,c6,hd,hrd⟩:=HM7.o.d;have hgl:=xH hd
 replace hd:=xN hd (.cells #[.string alU,.string xD,.string so,.int .i64 0,.slice (some (θ b7 f7)) 1 k7,.slice A8 0 k8,.int .i64 2] 50)
 obtain⟨e0,e1⟩:=uQ hd;have y0:=xG hd 0;have y1:=xG hd 1;have hal:=φ w7 (.cells #[.string alU,.string xD,.string so,.int .i64 0,.slice (some (θ b7 f7)) 1 k7,.slice A8 0 k8,.int .i64 2] 50);have hm8:=(HM7.o.below hal).put ((HO7.o.2.below hal ν).more hal.size)
 have hs8:=yA (yA (xJ w7 (.cells #[.string alU,.string xD,.string so,.int .i64 0,.slice (some (θ b7 f7)) 1 k7,.slice A8 0 k8,.int .i64 2] 50)) (p:=θ g 0) (by show w7.heap.size≠g;omega) (.slice A3 D6.secs.length c3)) (p:=θ g 1) (by show w7.heap.size≠g;omega) (.slice A4 D6.cache.length c4)
 have ho8:=(HO7.o.1.below hal).set (g:=g) hd δ δ δ [.slice A3 D6.secs.length c3,.slice A4 D6.cache.length c4] 0;simp only[yE,Ay] at ho8;obtain⟨A9,k9,hc9,hr9⟩:=yF9 ho8;have HT8:=ι (WtM.mk hm8 hs8 hr9);have HC9:=ι hc9;clear hd hrd hal hm8 hs8 ho8 hc9 hr9 HO7 HM7 hgl
 go_upto_region 23 with fail
 obtain⟨gs,hgs⟩:=eX w7.heap.size;rw[hgs] at HT8⊢
 generalize ((w7.alloc (.cells #[.string alU,.string xD,.string so,.int .i64 0,.slice (some (θ b7 f7)) 1 k7,.slice A8 0 k8,.int .i64 2] 50)).setCell (θ g 0) (.slice A3 D6.secs.length c3)).setCell (θ g 1) (.slice A4 D6.cache.length c4)=w8 at HT8 HC9⊢;clear hgs e0 e1 y0 y1
 have hs:=HT8.o.s;obtain⟨s0,s1,s2,s3,s4,s5,s6⟩:=xAr hs;have c9:=HC9.o;clear hs HC9;have h6:(j:Int)<=6:=by have:=HAJ.o;omega
 go_upto_region 26 with fail
 clear c9 s0 s1 s2 s3 s4 s5 s6;rcases HAJ.o.2 with hjl|hjl
 case' inl=>
  have q1:(j:Int)=(L.length:Int):=ω;go_upto_region 28 with fail
  have HJL:Hid (j<=L.length):=ι ω;clear q1 hjl
 case' inr=>
  have q1:¬((j:Int)=(L.length:Int)):=ω;have q2:(L.length:Int)-1=(j:Int):=ω;have q3:((j:Int)==(L.length:Int))=false:=by simp;omega
  go_upto_region 28 with fail
  have HJL:Hid (j<=L.length):=ι ω;clear q1 q2 q3 hjl
 all_goals
  go_wp2_with fail
  go_loopw [163] (λiv wr=>∃i:Nat,i<=j/\iv=.int .i64 i/\Hid (WtM w g gs (uX xP xB xD rn) (.cells #[.string alU,.string xD,.string so,.int .i64 0,.slice (some (θ b7 f7)) 1 k7,.slice A8 0 k8,.int .i64 2] 50) D6 (.slice A9 j k9) (xM (szT T) j) wr)) (λiv _=>j- (intOf iv).toNat)
  case atStart=>exact⟨0,Bc _,rfl,HT8⟩
  case round=>
   obtain⟨i,hi,rfl,HI⟩:=hrel;clear HT8
   by_cases hij:i<j
   ·obtain⟨y,hy⟩:∃y,L[i]?=some y:=⟨_,Af (by have:=HJL.o;omega)⟩;obtain⟨hTk,hTm⟩:=HTL.o.2 i y hy;obtain⟨b,off,rfl,hbw,q⟩:=yIb HTX.o hy;have HCY:=ι (λW (hb:ψ w W)=>(hb.cell (p:=(θ b (off+i))) hbw).trans q);rw[show xR y=.string ⟨y.toArray⟩ from rfl] at HCY
    have hxm:=xM_get (szT T) hij;rw[szT_at T i,hTk] at hxm;generalize (⟨y.toArray⟩:ByteArray)=t at HCY hTk hTm hxm;have ht7:=HT7.o t (Bb hTm);obtain⟨_,_,e9,_,h9⟩:=HI.o.r;injection e9 with e1 e2 e3;subst e1;obtain⟨b9,o9,rfl,hb9,h8⟩:=h9 (by rw[xLd];omega)
    obtain⟨c0,c1,c2,c3⟩:=h8 i _ hxm;simp only at c0 c1 c2 c3;have HTE:=ι (λW va vb (h:RdD W W.heap.size va vb D6) (hb:ψ w W)=>yJi HS6.o HF.o.2.2.1 HF.o.2.2.2.1 HF.o.2.2.2.2.1 HF.o.2.2.2.2.2.2.2.1 so HAJ.o.1 hij hTk ht7 (some (θ b7 f7)) A8 1 k7 0 k8 h (HT.o.below hb))
    have hal:=φ wr (.cells #[.int .i64 ((i:Int)+1),.int .i64 32,.int .i64 ((i:Int)+1),.int .i64 (t.size:Int)] 57);have HM:=ι (HI.o.below hal);have hn:=xJ wr (.cells #[.int .i64 ((i:Int)+1),.int .i64 32,.int .i64 ((i:Int)+1),.int .i64 (t.size:Int)] 57);have HN:=ι hn
    clear hy q hbw hxm hTk hTm ht7 e2 e3 h8 h9 hb9 hal hn HI;go_upto_region 31 with fail
    clear c0 c1 c2 c3;generalize wr.heap.size=mb at HN⊢;generalize wr.alloc (.cells #[.int .i64 ((i:Int)+1),.int .i64 32,.int .i64 ((i:Int)+1),.int .i64 (t.size:Int)] 57)=w9 at HM HN⊢;obtain⟨A1,c1,A2,c2,hd,hrd⟩:=HM.o.m.d;obtain⟨e0,e1⟩:=uQ hd;have hs:=HM.o.s
    obtain⟨s0,s1,s2,s3,s4,s5,s6⟩:=xAr hs;have hn:=HN.o;obtain⟨x0,x1,x2,x3⟩:=xW9 hn;have HTC:=ι (HTE.o w9 _ _ hrd HM.o.m.bel);clear hd hrd hs hn HTE;go_wp2_with fail
    refine HTC.o.mono ?_;rintro e w10 ⟨rfl,zO⟩;have HM10:=ι (HM.o.below zO);have HN10:=ι (xC HN.o zO (xH HN.o));clear HM HN HTC zO e0 e1 s0 s1 s2 s3 s4 s5 s6 x0 x1 x2 x3;have hn:=HN10.o;obtain⟨x0,x1,x2,x3⟩:=xW9 hn;have cy:=HCY.o _ HM10.o.m.bel
    have q1:(t.toList==t.toList)=true:=σ;have q2:(!t.toList==t.toList)=false:=σ;have hi6:(i:Int)<=6:=ω;have iL:(i:Int)<(L.length:Int):=by have:=HJL.o;omega
    clear hn HCY HN10;go_wp2;exact⟨⟨i+1,ω,by go_num,HM10⟩,by simp[intOf];omega⟩
   ·obtain rfl:i=j:=ω;obtain⟨A1,c1,A2,c2,hd,hrd⟩:=HI.o.m.d;obtain⟨e0,e1⟩:=uQ hd;have HNU:=ι (xWy HS6.o HAJ.o.1 hrd);clear hd hrd;go_wp2_with fail
    refine HNU.o.mono ?_;rintro e w10 ⟨A10,c10,rfl,zO⟩;have H1:=ι (Ai trivial (bT HI.o.m.bel zO));clear HI HNU zO e0 e1;go_wp2_with fail
    refine cM (HAW.o _ H1.o.2) λw2 hb2=>?_;have HB:=ι (bT H1.o.2 hb2);clear hb2 H1 HAW;go_wp2;go_ret;exact⟨rfl,HB.o⟩
theorem xZy (pw xP xB xD once:ByteArray) (r m:Int) (tv kv:Value) (L:List Bs) (K:List Int) (w:World) (hL:RdS w w.heap.size tv L) (hK:RdR 1 xQg w w.heap.size kv K) (hT:VaT w):
  Calls prog 3 #[.string pw,xDe xP xB xD r,.string once,tv,.int .i64 m,kv] w (pv (.bool true) w):=by
 by_cases h1:6<L.length∨100<pw.size∨200<K.length
 ·exact xWw pw xP xB xD once r m tv kv L K w hL hK hT h1
 ·exact xWv pw xP xB xD once r m tv kv L K w hL hK hT (Hm λh=>h1 (.inl h)) (Hm λh=>h1 (.inr (.inl h))) (Hm λh=>h1 (.inr (.inr h)))
end Go.Proofs.VA
namespace Go.Proofs.LE
open Go.ChangeShapes Go.WideShapes Go.ChangeAt Go.RowKit
section
variable {H:Type} {enc:TypeId×Value->H} {P:Program}
theorem xFe (hl:laidOutB P=true) {W W':World} (hb:ψ W W') {sp:Nat->Bool}:∀{ts:List TypeId} {vs:List Value} {ds:List (DataW H)} {ps:List MemPlace},
  (∀t∈ts,P.readableRec t=true/\t<P.types.size)->DataW.TrodAll enc P W 0 (λ_=>true) true ts vs ds ps->(∀x∈ps,x.block<W.heap.size)->(∀x∈ps,sp x.block=true)->
  DataW.TrodAll enc P W' 0 sp true ts vs ds ps
 |[],[],[],ps,_,h,_,_=>h
 |t::ts,v::vs,d::ds,ps,hr,h,hlt,hsp=>by
  obtain⟨p,q,h1,h2,rfl⟩:=h
  exact⟨p,q,WideElems.Trod_stays hl (hr t σ).1 (hr t σ).2 h1 (λx hx=>hb.same (hlt x (by simp[hx]))) (λx hx=>hsp x (by simp[hx])),
   xFe hl hb (λt ht=>hr t (by simp[ht])) h2 (λx hx=>hlt x (by simp[hx])) (λx hx=>hsp x (by simp[hx])),rfl⟩
 |[],[],_::_,_,_,h,_,_=>h.elim
 |[],_::_,_,_,_,h,_,_=>h.elim
 |_::_,[],_,_,_,h,_,_=>h.elim
 |_::_,_::_,[],_,_,h,_,_=>h.elim
theorem xVc {f:Func} {s:ChangeSpec} {apart fresh handsOn again:Bool} {W W':World} {args:Array Value} {ds gs:List (DataW H)} {before:List MemPlace} {tb:TypeId}
  (hl:laidOutB P=true) (hr:∀t∈f.params.toList,P.readableRec t=true/\t<P.types.size) (hrt:f.resultTypes=#[tb]) (htb:P.underlying tb=some .bool)
  (hW:DataW.Whole enc P f.params.toList s.vars apart W args.toList ds gs before) (hv:s.vars=[])
  (hfn:s.fn H ds={results:=[.lit (.bool true)],args:=ds}) (hb:ψ W W'):
  s.post enc P f apart fresh handsOn again W args (.bool true) W':=by
 have hlt:∀p∈before,p.block<W.heap.size:=λp hp=>hW.lt p hp;have hold:∀p∈before,(λb=>decide (b<W.heap.size)) p.block=true:=λp hp=>by simpa using hlt p hp
 have hW':=hW;obtain⟨p,q,hA,hV,rfl,hz,hn⟩:=hW;rw[hv] at hV;obtain⟨rfl,rfl⟩:=trodVars_none hV;simp only[Dw] at*
 have hres:∀(b:Nat) (sp:Nat->Bool) (hd:Bool),DataW.TrodAll enc P W' b sp hd f.resultTypes.toList ((Value.bool true).resultList f.resultTypes.size) [.lit (.bool true)] []:=by
  intro b sp hd;rw[hrt];exact trodAll_mk1 (shut_bool htb _)
 have hargs:∀sp:Nat->Bool,(∀x∈p,sp x.block=true)->DataW.TrodAll enc P W' 0 sp true f.params.toList args.toList ds p:=λsp hsp=>xFe hl hb hr hA hlt hsp;refine⟨ds,[],p,[],p,[],hW',?_,?_,?_,World.keptBut_mono (λx hx=>⟨hx,?_⟩) (hb.frame (·∈p)),λ_=>?_⟩
 ·rw[Dw,hfn];exact hres _ _ _
 ·rw[Dw,hfn];exact hargs _ hold
 ·rw[Dw,hfn,hv];rfl
 ·simp[hx]
 ·refine⟨?_,_,[],([]++p)++[],⟨[]++p,[],trodAll_append (hargs _ (λ_ _=>rfl)) (hres _ _ _),?_,rfl,?_,?_⟩,?_⟩
  ·exact ok_one hrt rfl (okWide_bool_mk htb _)
  ·rw[hv];rfl
  ·intro b off hp;have hin:MemPlace.cell b off∈p:=by simpa using hp
   rw[hb.frozen (hlt _ hin)];exact hz b off hin
  ·intro ha;simpa using hn ha
  ·intro x hx _;simpa using hx
theorem trodAll_length {W:World} {sp:Nat->Bool} {held:Bool} {base:Nat}:∀{ts:List TypeId} {vs:List Value} {ds:List (DataW H)} {ps:List MemPlace},DataW.TrodAll enc P W base sp held ts vs ds ps->ds.length=ts.length
 |[],[],[],_,_=>rfl
 |_::_,_::_,_::_,_,h=>by
  obtain⟨_,_,_,h2,_⟩:=h;simp[trodAll_length h2]
 |[],[],_::_,_,h=>h.elim
 |[],_::_,_,_,h=>h.elim
 |_::_,[],_,_,h=>h.elim
 |_::_,_::_,[],_,h=>h.elim
theorem law_lifted {C:Checked} {os:Os} {f:FuncId} {fn:Func} {s:ChangeSpec} {conds:List PathCond} {apart fresh handsOn again:Bool} {tb:TypeId}
  (own:ownKnob C.prog.godebug=none) (started:os.Started) (noInit:C.prog.inits.idxOf? f=none) (hfn:C.prog.funcs[f]?=some fn)
  (witness:∃(w:World) (tape:Tape) (i:Input),w.os=os/\(w.forCall tape i).Shaped C.prog/\i.vars=[]/\Input.okWide C.prog (w.forCall tape i) .any w.heap.size f i/\
   s.pre6 enc C.prog fn conds apart (w.forCall tape i).memory i.args/\Assume.holds {} C.prog (lone (Frame.enter C.prog f i.args .normal) [] (w.forCall tape i)))
  (hl:laidOutB C.prog=true) (hr:∀t∈fn.params.toList,C.prog.readableRec t=true/\t<C.prog.types.size) (hrt:fn.resultTypes=#[tb]) (htb:C.prog.underlying tb=some .bool)
  (hv:s.vars=[]) (hs:∀ds:List (DataW H),ds.length=fn.params.toList.length->s.fn H ds={results:=[.lit (.bool true)],args:=ds})
  (walk:∀(W:World) (base:Nat) (args:Array Value) (ds:List (DataW H)) (p:List MemPlace),
   (∀(j:Nat) t v,fn.params[j]?=some t->args[j]?=some v->Value.okWide C.prog W .any base t v)->
   DataW.TrodAll enc C.prog W 0 (λ_=>true) true fn.params.toList args.toList ds p->
   (DataW.weightsEach C.prog (fn.params.toList++s.plain.varTypes C.prog) (ds++[])).all (·<=reachBytes)=true->
   W.ShapedOpen C.prog->Calls C.prog f args W (pv (.bool true) W)):
  ReturnsInHanded {} C os f .any (s.pre6 enc C.prog fn conds apart) (s.post enc C.prog fn apart fresh handsOn again):=by
 refine returnsInHanded_of_change_shaped own started noInit hfn witness ?_;intro W base args ds gs before hval hW _ hwt hsh _;have hW':=hW;obtain⟨p,q,hA,hV,rfl,_,_⟩:=hW;rw[hv] at hV;obtain⟨rfl,rfl⟩:=trodVars_none hV
 refine(walk W base args ds p hval hA hwt hsh).mono λe W' ⟨he,hb⟩=>?_;subst he;exact⟨_,rfl,xVc hl hr hrt htb hW' hv (hs ds (trodAll_length hA)) hb⟩
end
end Go.Proofs.LE
namespace Go.Proofs.LE
open Go.ChangeShapes Go.WideShapes Go.ChangeAt Go.RowKit
section
variable {H:Type} {enc:TypeId×Value->H}
theorem yL7 {C:Checked} {os:Os} {f:FuncId} {fn:Func} {s:ChangeSpec} {F:Stop.Interp} {conds:List PathCond} {apart fresh handsOn again:Bool} {laid:List (String×DataW Unit)} {tb:TypeId}
  (own:ownKnob C.prog.godebug=none) (started:os.Started) (noInit:C.prog.inits.idxOf? f=none) (hfn:C.prog.funcs[f]?=some fn)
  (witness:∃(w:World) (tape:Tape) (i:Input),w.os=os/\(w.forCall tape i).Shaped C.prog/\i.vars=[]/\Input.okWide C.prog (w.forCall tape i) .any w.heap.size f i/\
   (OpenSpec.ofChange s).preRow enc C.prog fn conds apart laid (w.forCall tape i).memory i.args/\({}:Assume).holds C.prog (lone (Frame.enter C.prog f i.args .normal) [] (w.forCall tape i)))
  (hl:laidOutB C.prog=true) (hr:∀t∈fn.params.toList,C.prog.readableRec t=true/\t<C.prog.types.size) (hrt:fn.resultTypes=#[tb]) (htb:C.prog.underlying tb=some .bool)
  (hv:s.vars=[]) (hs:∀ds:List (DataW H),ds.length=fn.params.toList.length->s.fn H ds={results:=[.lit (.bool true)],args:=ds})
  (walk:∀(W:World) (base:Nat) (args:Array Value) (ds:List (DataW H)) (p:List MemPlace),
   (∀(j:Nat) t v,fn.params[j]?=some t->args[j]?=some v->Value.okWide C.prog W .any base t v)->
   DataW.TrodAll enc C.prog W 0 (λ_=>true) true fn.params.toList args.toList ds p->
   W.ShapedOpen C.prog->laidMetH C.prog laid W->Calls C.prog f args W (pv (.bool true) W)):
  ReturnsInHanded {} C os f .any ((OpenSpec.ofChange s).preRow enc C.prog fn conds apart laid) (((OpenSpec.ofChange s).at F).post enc C.prog fn apart fresh handsOn again):=by
 refine returnsInHanded_of_row own started noInit hfn witness ?_;intro W base args ds gs before hval hW _ _ _ hL hsh _;have hW':DataW.Whole enc C.prog fn.params.toList s.vars apart W args.toList ds gs before:=hW;have hW2:=hW';obtain⟨p,q,hA,hV,rfl,_,_⟩:=hW2;rw[hv] at hV
 obtain⟨rfl,rfl⟩:=trodVars_none hV;refine(walk W base args ds p hval hA hsh hL).mono λe W' ⟨he,hb⟩=>?_;subst he;exact⟨_,rfl,xVc hl hr hrt htb hW' hv (hs ds (trodAll_length hA)) hb⟩
end
def xMp:DataW Unit->List Value
 |.agg l=>l.map λd=>match d with
  |.lit (.int k n)=>.int k n
  |_=>.bool false
 |_=>[]
def put (l:List Value):Obj->Obj
 |.cells _ t frozen=>.cells l.toArray t frozen
 |o=>o
end Go.Proofs.LE
namespace Go.Proofs.MM
open Go.Joins Go.ChangeShapes Go.WideShapes Go.RowKit Go.Deep
theorem xSv {H:Type} {enc:TypeId×Value->H} {P:Program} {w:World} {base:Nat} {spare:Nat->Bool} {held:Bool} {r:Reach} {b0:Nat} {t:TypeId} {fs:Array Field} {v:Value} {d:DataW H} {p:List MemPlace}
  (hs:P.underlying t=some (.struct fs)) (hone:oneCellFields P fs=true) (hC:P.cellsOf t=fs.size) (hv:Value.okWide P w r b0 t v) (h:DataW.Trod enc P w base spare held t v d p):
  ∃cs:List Value,v=.agg cs.toArray/\cs.length=fs.size/\∀(j:Nat) (f:Field),fs[j]?=some f->∃(c:Value) (y:DataW H×List MemPlace) (n:Nat),cs[j]?=some c/\DataW.trod enc P w base spare held n f.type [c]=some y:=by
 obtain⟨cs,rfl,hsz⟩:=okWide_struct hs hv;obtain⟨l⟩:=cs;have hl:l.length=fs.size:=by simpa using hsz.trans hC
 obtain⟨fuel,hf⟩:=h;obtain⟨xs,n,_,hx,_,hlen,hg⟩:=DataW.trod_struct hs hf;refine⟨l,rfl,hl,λj f hj=>?_⟩;obtain⟨ho,hk⟩:=hone_of hone j f hj;have hjl:j<fs.size:=(Ca.1 hj).1;have h1:=hg j f hj;rw[ho,hk] at h1;have hv:(Value.agg l.toArray).cells.toList=l:=rfl
 rw[hv] at h1
 have hone':(l.drop j).take 1=[l[j]'ω]:=by
  rw[Dj ω]
  rfl
 rw[hone'] at h1;have hys:xs[j]?=some (xs[j]'ω):=Af ω;exact⟨_,_,_,Af ω,h1.trans hys⟩
end Go.Proofs.MM
namespace Go.Proofs.SV
open Go.Joins Go.ChangeShapes Go.WideShapes Go.RowKit Go.Deep MM Mailsack
theorem xEc {W:World} {name:String} {g:Nat} {cs:Array Value} (hg:prog.globalNamed name=some g) (h:W.var? prog name=some cs):∃t fr,W.heap[g]?=some (.cells cs t fr):=by
 unfold World.var? at h;rw[hg] at h;simp only[Ho] at h;split at h
 ·rename_i c t fr hw
  injection h with h;subst h;exact⟨t,fr,hw⟩
 ·cases h
theorem xIz {W:World} {a b:String} (ha:prog.globalNamed a=some 0) (hb:prog.globalNamed b=some 2) (h1:Lib.TabIs prog W a .u32 xY5) (h2:Lib.TabIs prog W b .u32 xBr):SH.jE W:=
 ⟨xEc ha h1,xEc hb h2⟩
theorem xXq {H:Type} {enc:TypeId×Value->H} {w:World} {base:Nat} {v:Value} {d:DataW H} {p:List MemPlace}
  (hv:Value.okWide prog w .any base 23 v) (h:DataW.Trod enc prog w 0 (λ_=>true) true 23 v d p):
  ∃(a b c:ByteArray) (n:Int),v=.agg #[.string a,.string b,.string c,.int .i64 n]:=by
 obtain⟨cs,rfl,hl,hf⟩:=xSv underlying23 κ κ hv h;obtain⟨c0,y0,n0,e0,t0⟩:=hf 0 _ rfl;obtain⟨c1,y1,n1,e1,t1⟩:=hf 1 _ rfl;obtain⟨c2,y2,n2,e2,t2⟩:=hf 2 _ rfl;obtain⟨c3,y3,n3,e3,t3⟩:=hf 3 _ rfl;obtain⟨x0,r0,_⟩:=DataW.trod_string underlying9 t0
 obtain⟨x1,r1,_⟩:=DataW.trod_string underlying9 t1;obtain⟨x2,r2,_⟩:=DataW.trod_string underlying9 t2;obtain⟨x3,r3,_⟩:=DataW.trod_int underlying3 t3;injection r0 with r0;injection r1 with r1;injection r2 with r2;injection r3 with r3;subst r0 r1 r2 r3
 refine⟨x0,x1,x2,x3,?_⟩
 match cs,hl with
 |[_,_,_,_],_=>
  simp at e0 e1 e2 e3;subst e0 e1 e2 e3
  rfl
theorem yA2 {W w':World} {name:String} {g:Nat} {cs:Array Value} (hg:prog.globalNamed name=some g) (h:W.var? prog name=some cs) (hb:ψ W w'):w'.var? prog name=some cs:=by
 obtain⟨t,fr,h1⟩:=xEc hg h;have h2:=xC h1 hb (xH h1);unfold World.var?;rw[hg];simp only[Ho,h2]
theorem xS4 {W : World} {a b c : String} (ha : prog.globalNamed a = some 0) (hb : prog.globalNamed b = some 2) (hc : prog.globalNamed c = some 1) (he : prog.globalNamed "internal/strconv.uint64pow10" = some 4)
  (h1 : Lib.TabIs prog W a .u32 xY5) (h2 : Lib.TabIs prog W b .u32 xBr) (h3 : Lib.TabIs prog W c .i64 [128,256,512,704]) (h4 : Lib.TabIs prog W "internal/strconv.uint64pow10" .u64 Lib.pow10Tab) : Go.Proofs.VA.VaT W :=
 ⟨⟨xIz ha hb h1 h2,⟨xEc hc h3⟩⟩,λ_ hb=>yA2 he h4 hb⟩
end Go.Proofs.SV
namespace Go.Proofs.MM
open Go.ChangeShapes Go.WideShapes Go.ChangeAt Go.RowKit
def RdK (k:IntKind) (w:World) (B:Nat) (v:Value) (L:List Int):Prop:=
 ∃A c,v=.slice A L.length c/\L.length<=c/\(0<L.length->∃b off,A=some (θ b off)/\b<B/\∀j r,L[j]?=some r->w.cell? (θ b (off+j))=some (.int k r))
theorem yGc {H:Type} {enc:TypeId×Value->H} {P:Program} {w:World} {base:Nat} {t e:TypeId} {k:IntKind} {v:Value} {d:DataW H} {p:List MemPlace}
  (ht:P.underlying t=some (.slice e)) (he:P.underlying e=some (.int k)) (hc:P.cellsOf e=1) (hv:Value.okWide P w .any base t v) (h:DataW.Trod enc P w 0 (λ_=>true) true t v d p):
  ∃L:List Int,RdK k w w.heap.size v L/\(∀n∈L,(Lit.int k n).wf=true)/\L.length<=9223372036854775807:=by
 obtain⟨a0,len,cap,rfl⟩:=okWide_slice ht hv;obtain⟨fuel,hf⟩:=h;have hf':DataW.trod enc P w 0 (λ_=>true) true fuel t [.slice a0 len cap]=some (d,p):=by simpa[Value.cells] using hf
 rcases open_ints ht he hc hf' with ⟨hcs,_⟩|⟨a,len',cap',zs,hcs,_,hl,hm,hz,_,hcell,hws⟩
 ·have hcs':Value.slice a0 len cap=.slice none 0 0:=by simpa using hcs
  rw[hcs'];exact⟨[],⟨none,0,rfl,Bd _,λh=>absurd h (Nat.lt_irrefl _)⟩,σ,σ⟩
 ·have hcs':Value.slice a0 len cap=.slice (some a) len' cap':=by simpa using hcs
  rw[hcs'];unfold maxLen at hm;have hzz:zs.length=cap':=by simpa using hz
  have hlen:(zs.take len').length=len':=by rw[Ck];omega
  refine⟨zs.take len',⟨some a,cap',by rw[hlen],ω,λhn=>?_⟩,λn hn=>hws n (Dc hn),ω⟩;obtain⟨b,off,spot⟩:=a;have h0:=hcell 0 ω;have hspot:spot=none:=by simpa[Addr.add] using World.cell?_spot h0
  subst hspot;refine⟨b,off,rfl,Gp w _ (by simpa[Addr.add] using h0),λj x hx=>?_⟩;rw[Ea] at hx;split at hx
  ·have hjs:j<zs.length:=(Ar.1 hx).1;have h1:=hcell j hjs;have hadd:(⟨b,off,none⟩:Addr).add j=⟨b,off+j,none⟩:=by unfold Addr.add;split<;>simp_all
   rw[hadd] at h1;rw[h1,Aa,hx]
   rfl
  ·simp at hx
end Go.Proofs.MM
namespace Go.Proofs.SV
open Go.Joins Go.ChangeShapes Go.WideShapes Go.RowKit Go.Deep MM Mailsack
theorem xS8 {H:Type} {enc:TypeId×Value->H} {P:Program} {w:World} {base:Nat} {spare:Nat->Bool} {held:Bool} {t t1 t2 t3 t4 t5:TypeId} {args:Array Value} {ds:List (DataW H)} {ps:List MemPlace} (h:DataW.TrodAll enc P w base spare held [t,t1,t2,t3,t4,t5] args.toList ds ps):
  ∃v v1 v2 v3 v4 v5 d d1 d2 d3 d4 d5 p p1 p2 p3 p4 p5,args=#[v,v1,v2,v3,v4,v5]/\ds=[d,d1,d2,d3,d4,d5]/\ps=p++p1++p2++p3++p4++p5/\DataW.Trod enc P w base spare held t v d p/\DataW.Trod enc P w base spare held t1 v1 d1 p1/\DataW.Trod enc P w base spare held t2 v2 d2 p2/\DataW.Trod enc P w base spare held t3 v3 d3 p3/\DataW.Trod enc P w base spare held t4 v4 d4 p4/\DataW.Trod enc P w base spare held t5 v5 d5 p5:=by
 obtain⟨v,vs,d,ds',p,q,hargs,rfl,rfl,hd,hrest⟩:=trodAll_cons h;obtain⟨v',vs',d',ds'',p',q',rfl,rfl,rfl,hd',hrest'⟩:=trodAll_cons hrest;obtain⟨v2,vs2,d2,ds2,p2,q2,rfl,rfl,rfl,hd2,hrest2⟩:=trodAll_cons hrest';obtain⟨v3,vs3,d3,ds3,p3,q3,rfl,rfl,rfl,hd3,hrest3⟩:=trodAll_cons hrest2
 obtain⟨v4,vs4,d4,ds4,p4,q4,rfl,rfl,rfl,hd4,hrest4⟩:=trodAll_cons hrest3;obtain⟨v5,vs5,d5,ds5,p5,q5,rfl,rfl,rfl,hd5,hrest5⟩:=trodAll_cons hrest4;obtain⟨rfl,rfl,rfl⟩:=trodAll_nil hrest5
 exact⟨v,v',v2,v3,v4,v5,d,d',d2,d3,d4,d5,p,p',p2,p3,p4,p5,by cases args;simp_all,rfl,σ,hd,hd',hd2,hd3,hd4,hd5⟩
theorem xXe {w:World} {B:Nat} {v:Value} {L:List Int} (h:RdK .i64 w B v L):RK.RdR 1 (λz:Int=>[Value.int .i64 z]) w B v L:=by
 obtain⟨A,c,h1,h2,h3⟩:=h;refine⟨A,c,h1,h2,λhn=>?_⟩;obtain⟨b,off,h4,h5,h6⟩:=h3 hn;refine⟨b,off,h4,h5,λj x hx i u hu=>?_⟩;have hi:i<1:=by simpa using(Ar.1 hu).1
 obtain rfl:i=0:=ω;obtain rfl:Value.int .i64 x=u:=by simpa using hu
 rw[Gr,Db];exact h6 j x hx
end Go.Proofs.SV
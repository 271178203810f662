/- Contracts of functions. Conditions: as stated. -/
import Derived.Test.YtjdkeibcoiiliaaGreatDoorVaultWholeProofB01
import Derived.Shelf.Strings.OnBuilder
import Derived.Shelf.Small.Bits
import Derived.Shelf.Small.Wraps
import Derived.Shelf.Strconv.Itoa3
import Derived.Shelf.Strconv.Clone
import Derived.Shelf.Sort.Plain
import Derived.Shelf.Strings.Repeat
import Derived.Shelf.Strings.BuilderCap
import Derived.Shelf.Slices.Cells
import Derived.Shelf.SortM.SortNone
open Go.Proofs.Tryz
set_option maxHeartbeats 8000000
set_option maxRecDepth 100000
namespace Mailsack
def uH (S:List Bs) (x:Wr):List Bs:=S.set x.at_.toNat x.data
def xZ (S:List Bs) (C:List Wr):List Bs:=C.foldl uH S
theorem uT:∀(C:List Wr) (S:List Bs),(xZ S C).length=S.length
 |[],_=>rfl
 |x::C,S=>by
  show(xZ (uH S x) C).length=_;rw[uT C,uH,Bf]
theorem qK (S:List Bs) (A B:List Wr):xZ S (A++B)=xZ (xZ S A) B:=by unfold xZ;rw[Gc]
theorem xLy (C:List Wr) (S:List Bs):∀k,k<=C.length->kD (λ_=>true) C S k=xZ S (C.take k)
 |0,_=>rfl
 |k+1,h=>by
  unfold kD;rw[Ah rfl,xLy C S k ω,Cc,Af ω,qK];show _=uH _ _;rw[wrD,Aa,Af ω]
  rfl
theorem xAx {d:Dk} (h:yP d=true):xY d=⟨xZ d.secs d.cache,[]⟩:=by
 unfold xY;rw[Ah h,xLy _ _ _ ν,Cf]
theorem kU {d:Dk}:yP d=true↔1<=d.secs.length/\d.secs.length<=1024/\(∀s∈d.secs,s.length=64)/\∀x∈d.cache,wF x d.secs.length=true:=by
 unfold yP;simp only[Au,Be,Bv,and_assoc]
theorem pY {x:Wr} {n:Nat}:wF x n=true↔0<=x.at_/\x.at_<n/\x.data.length=64:=by
 unfold wF;simp only[Au,Be,and_assoc]
theorem xLq {d:Dk} {x:Wr} (h:yP d=true) (hx:wF x d.secs.length=true):yP (xZ9 d x)=true:=by
 rw[kU] at h⊢;obtain⟨h1,h2,h3,h4⟩:=h;refine⟨h1,h2,h3,λy hy=>?_⟩;rcases Em.1 hy with hy|hy
 ·exact h4 y hy
 ·rw[Bu.1 hy];exact hx
theorem xKp:∀(C:List Wr) (S:List Bs),(∀s∈S,s.length=64)->(∀x∈C,x.data.length=64)->∀s∈xZ S C,s.length=64
 |[],_,h,_=>h
 |x::C,S,h,hc=>by
  refine xKp C (uH S x) (λs hs=>?_) (λy hy=>hc y (Dm _ hy));rcases Dz hs with hs|rfl
  ·exact h s hs
  ·exact hc x (Cx ..)
theorem qF {d:Dk} (h:yP d=true):yP (xY d)=true:=by
 rw[xAx h];rw[kU] at h⊢;obtain⟨h1,h2,h3,h4⟩:=h;refine⟨by rw[uT];exact h1,by rw[uT];exact h2,xKp _ _ h3 (λx hx=>(pY.1 (h4 x hx)).2.2),σ⟩
theorem xBv {d:Dk} (h:yP d=true):(xY d).secs.length=d.secs.length:=by rw[xAx h,uT]
theorem kJ {d:Dk} (h:d.cache=[]):xY d=d:=by
 unfold xY;obtain⟨S,C⟩:=d;simp only at h;subst h;split<;>rfl
def oW (x:Wr):Op:=⟨false,x⟩
theorem rJ (d:Dk) (A B:List Op):vJ d (A++B)=vJ (vJ d A) B:=by unfold vJ;rw[Gc]
theorem yB0 (d:Dk) (A B C D:List Op):vJ d (A++B++C++D)=vJ (vJ (vJ (vJ d A) B) C) D:=by rw[rJ d (A++B++C),rJ d (A++B),rJ d A]
theorem xEv:∀(l:List Wr) (d:Dk),yP d=true->(∀x∈l,wF x d.secs.length=true)->vJ d (l.map oW)=⟨d.secs,d.cache++l⟩/\yP ⟨d.secs,d.cache++l⟩=true
 |[],d,h,_=>by simp[vJ];exact h
 |x::l,d,h,hl=>by
  have hx:=hl x (Cx ..);have hp:=xLq h hx;have ih:=xEv l (xZ9 d x) hp (λy hy=>hl y (Dm _ hy))
  have hs:pO d (oW x)=xZ9 d x:=by
   unfold pO oW;rw[Ag σ];simp only;rw[h,hx]
   rfl
  show vJ (pO d (oW x)) (l.map oW)=_/\_;rw[hs];simpa[xZ9] using ih
theorem kT (l:List Wr) (d:Dk) (h:yP d=true) (hl:∀x∈l,wF x d.secs.length=true):
  vJ d (l.map oW++[fOp])=⟨xZ d.secs (d.cache++l),[]⟩/\yP ⟨xZ d.secs (d.cache++l),[]⟩=true:=by
 obtain⟨h1,h2⟩:=xEv l d h hl;rw[rJ,h1];have h3:vJ ⟨d.secs,d.cache++l⟩ [fOp]=xY ⟨d.secs,d.cache++l⟩:=rfl;rw[h3,xAx h2];refine⟨rfl,?_⟩;have:=qF h2;rw[xAx h2] at this;exact this
def jW:Nat->List Wr->List Wr
 |_,[]=>[]
 |i,x::l=>⟨1+2*(i:Int),wN x.at_⟩::⟨2+2*(i:Int),x.data⟩::jW (i+1) l
theorem xT4:∀(l:List Wr) (i:Nat),xA2 i l=(jW i l).map oW
 |[],_=>rfl
 |x::l,i=>by simp[xA2,jW,xT4 l,wOp,oW]
theorem yCj:∀(l:List Wr) (i:Nat) (x:Wr),(∀y∈l,y.data.length=64)->x∈jW i l->1<=x.at_/\x.at_<=2*((i+l.length:Nat):Int)/\x.data.length=64
 |[],_,_,_,h=>by simp[jW] at h
 |y::l,i,x,hl,h=>by
  simp only[jW,De] at h;simp only[Bl];rcases h with rfl|rfl|h
  ·exact⟨by simp;omega,by simp;omega,xKc _⟩
  ·exact⟨by simp;omega,by simp;omega,hl y (Cx ..)⟩
  ·have:=yCj l (i+1) x (λz hz=>hl z (Dm _ hz)) h;refine⟨this.1,?_,this.2.2⟩;have h2:=this.2.1;omega
theorem xE4 {d:Dk} {l:List Wr} (h:vZ d l=0):61<d.secs.length/\yP d=true/\l.length<=30/\∀x∈l,61<=x.at_/\x.at_<d.secs.length/\x.data.length=64:=by
 unfold vZ at h
 by_cases h1:qO d=false∨l.length=0
 ·rw[Ah h1] at h;omega
 ·rw[Ag h1] at h
  by_cases h2:l.all (xF3 d.secs.length)=false
  ·rw[Ah h2] at h;omega
  ·rw[Ag h2] at h
   by_cases h3:30<l.length
   ·rw[Ah h3] at h;omega
   ·simp only[not_or,Bool.not_eq_false] at h1;have hs:=h1.1;unfold qO at hs;simp only[Au,Be] at hs;refine⟨hs.1,hs.2,ω,λx hx=>?_⟩;have h4:=Bv.1 (show l.all (xF3 d.secs.length)=true by simpa using h2) x hx;unfold xF3 at h4
    simp only[Au,Be] at h4;exact⟨h4.1.1,h4.1.2,h4.2⟩
theorem vK:∀(C:List Wr) (S:List Bs) (i:Nat),(∀x∈C,x.at_.toNat≠i)->(xZ S C)[i]?=S[i]?
 |[],_,_,_=>rfl
 |x::C,S,i,h=>by
  show(xZ (uH S x) C)[i]?=_;rw[vK C (uH S x) i (λy hy=>h y (Dm _ hy)),uH,Eo (h x (Cx ..))]
theorem xBc:∀(C:List Wr) (S T:List Bs) (i:Nat),S.length=T.length->S[i]?=T[i]?->(xZ S C)[i]?=(xZ T C)[i]?
 |[],_,_,_,_,h=>h
 |x::C,S,T,i,hl,h=>by
  refine xBc C (uH S x) (uH T x) i (by simp[uH,hl]) ?_;unfold uH;rw[Co,Co,hl,h]
theorem xH3 {d:Dk} {l:List Wr} (h:vZ d l=0):∃S',xCi d l=⟨S',[]⟩/\yP ⟨S',[]⟩=true/\S'.length=d.secs.length/\S'[0]?=some (xO 64)/\∀i,61<=i->S'[i]?=(xZ (xY d).secs l)[i]?:=by
 obtain⟨h61,hr,h30,hall⟩:=xE4 h;have hj:=yCj l 0;have hn:=(kU.1 hr).2.1
 have e0:zU l=(jW 0 l).map oW++[fOp]++([(⟨0,wE l.length (jD l)⟩:Wr)].map oW++[fOp])++(l.map oW++[fOp])++([(⟨0,xO 64⟩:Wr)].map oW++[fOp]):=by
  unfold zU;rw[xT4];simp[oW,wOp]
 have f1:∀x∈jW 0 l,wF x d.secs.length=true:=λx hx=>by
  obtain⟨a1,a2,a3⟩:=hj x (λy hy=>(hall y hy).2.2) hx;exact pY.2 ⟨ω,ω,a3⟩
 obtain⟨r1,r2⟩:=kT (jW 0 l) d hr f1;have l1:=uT (d.cache++jW 0 l) d.secs
 have f2:∀x∈[(⟨0,wE l.length (jD l)⟩:Wr)],wF x (xZ d.secs (d.cache++jW 0 l)).length=true:=λx hx=>by
  rw[Bu.1 hx,l1];exact pY.2 ⟨σ,by simp;omega,xJy _ _⟩
 obtain⟨r3,r4⟩:=kT _ ⟨xZ d.secs (d.cache++jW 0 l),[]⟩ r2 f2;simp only[Es] at r3 r4;have l2:=uT [(⟨0,wE l.length (jD l)⟩:Wr)] (xZ d.secs (d.cache++jW 0 l))
 have f3:∀x∈l,wF x (xZ (xZ d.secs (d.cache++jW 0 l)) [(⟨0,wE l.length (jD l)⟩:Wr)]).length=true:=λx hx=>by
  obtain⟨a1,a2,a3⟩:=hall x hx;rw[l2,l1];exact pY.2 ⟨ω,a2,a3⟩
 obtain⟨r5,r6⟩:=kT l ⟨_,[]⟩ r4 f3;simp only[Es] at r5 r6;have l3:=uT l (xZ (xZ d.secs (d.cache++jW 0 l)) [(⟨0,wE l.length (jD l)⟩:Wr)])
 have f4:∀x∈[(⟨0,xO 64⟩:Wr)],wF x (xZ (xZ (xZ d.secs (d.cache++jW 0 l)) [(⟨0,wE l.length (jD l)⟩:Wr)]) l).length=true:=λx hx=>by
  rw[Bu.1 hx,l3,l2,l1];exact pY.2 ⟨σ,by simp;omega,yR _⟩
 obtain⟨r7,r8⟩:=kT _ ⟨_,[]⟩ r6 f4;simp only[Es] at r7 r8;refine⟨_,?_,r8,?_,?_,λi hi=>?_⟩
 ·unfold xCi;rw[Ah h,e0,yB0,r1,r3,r5,r7]
 ·rw[uT,l3,l2,l1]
 ·show(uH _ _)[0]?=_;unfold uH;exact Cw (by simp only[Int.toNat_zero];rw[l3,l2,l1];omega)
 ·rw[vK [(⟨0,xO 64⟩:Wr)] _ i (λx hx=>by rw[Bu.1 hx];simp;omega)];refine xBc l _ _ i (by rw[l2,l1,xBv hr]) ?_;rw[vK [(⟨0,wE l.length (jD l)⟩:Wr)] _ i (λx hx=>by rw[Bu.1 hx];simp;omega),qK,xAx hr]
  exact vK _ _ i (λx hx=>by
   obtain⟨a1,a2,a3⟩:=hj x (λy hy=>(hall y hy).2.2) hx;omega)
theorem pF {α:Type} (p:α->Bool):∀(l:List α),(qH p l=-1/\∀x∈l,p x=false)∨∃(i:Nat) (x:α),qH p l=i/\l[i]?=some x/\p x=true/\∀(j:Nat) y,j<i->l[j]?=some y->p y=false
 |[]=>.inl ⟨rfl,σ⟩
 |x::l=>by
  unfold qH;cases hx:p x with
  |true=>exact .inr ⟨0,x,σ,rfl,hx,λj y hj=>by omega⟩
  |false=>
   rw[Ag σ];rcases pF p l with ⟨h,ha⟩|⟨i,y,h,h1,h2,h3⟩
   ·refine .inl ⟨by rw[h];rfl,λz hz=>?_⟩;rcases De.1 hz with rfl|hz
    ·exact hx
    ·exact ha z hz
   ·refine .inr ⟨i+1,y,by rw[h,Ag ω];rfl,by simpa using h1,h2,λj z hj hz=>?_⟩;cases j with
    |zero=>simp at hz;subst hz;exact hx
    |succ j=>exact h3 j z ω (by simpa using hz)
theorem yLg {α:Type} {p:α->Bool} {l:List α} {i:Nat} {x:α} (h1:l[i]?=some x) (h2:p x=true) (h3:∀(j:Nat) y,j<i->l[j]?=some y->p y=false):qH p l=i:=by
 rcases pF p l with ⟨_,ha⟩|⟨k,y,h,k1,k2,k3⟩
 ·rw[ha x (Bb h1)] at h2;cases h2
 ·rw[h];rcases Nat.lt_trichotomy k i with hlt|rfl|hlt
  ·rw[h3 k y hlt k1] at k2;cases k2
  ·rfl
  ·rw[k3 i x hlt h1] at h2;cases h2
theorem xQm {α:Type} {p:α->Bool} {l:List α} (h:∀x∈l,p x=false):qH p l=-1:=by
 rcases pF p l with ⟨h1,_⟩|⟨k,y,_,k1,k2,_⟩
 ·exact h1
 ·rw[h y (Bb k1)] at k2;cases k2
structure xHq (t:Slot):Prop where
 cls:t.cls<=1
 blk:t.blk<vQ t.cls
 size:t.size<=rE t.cls
 n1:1<=t.name.length
 n2:t.name.length<=24
theorem xOq (c:Nat):rE c<=1024:=by unfold rE;split<;>omega
theorem xHa (c:Nat):vQ c<=24:=by unfold vQ;split<;>omega
theorem octN (n:Nat) (h:n<256):(oct (n:Int)).toNat=n:=by
 have:=wW (n:Int);omega
theorem octN2 (n:Nat):(oct (n:Int)).toNat=n % 256:=by
 have:=wW (n:Int);omega
theorem yDs {t:Slot} (h:t.used=true):tX t=1::oct t.cls::oct t.blk::oct t.size::oct (t.size / 256:Nat)::oct t.name.length::(t.name++xO (64- (xX8 t).length)):=by
 unfold tX xNi;rw[Ah h];simp[xX8]
theorem xW2 {t:Slot} (h:t.used=true->t.name.length<=58):(tX t).length=64:=by
 unfold tX xNi;split
 ·rename_i hu
  have:=h hu;have e:(xX8 t).length=6+t.name.length:=by simp[xX8];omega
  rw[Aj,yR];omega
 ·simp[xO]
theorem yM0 {t:Slot} (hu:t.used=true) (h:xHq t):xMj (tX t)=t:=by
 have e:=yDs hu;have hb:=xHa t.cls;have hc:=xOq t.cls;have h1:=h.blk;have h2:=h.size;have h3:=h.n2;have h4:=h.cls;have b0:bN (tX t) 0=1:=by rw[e];rfl
 have b1:bN (tX t) 1=t.cls:=by rw[e];exact octN _ ω
 have b2:bN (tX t) 2=t.blk:=by rw[e];exact octN _ ω
 have b3:bN (tX t) 3=t.size % 256:=by rw[e];exact octN2 _
 have b4:bN (tX t) 4=t.size / 256:=by rw[e];exact octN _ ω
 have b5:bN (tX t) 5=t.name.length:=by rw[e];exact octN _ ω
 have b34:bN (tX t) 3+256*bN (tX t) 4=t.size:=by rw[b3,b4];omega
 have hn:((tX t).drop 6).take (bN (tX t) 5)=t.name:=by rw[b5,e];simp
 have hs:pQ (tX t)=t:=by
  unfold pQ;rw[b1,b2,b34,hn,<-hu]
 have hok:xM0 (tX t)=true:=by
  unfold xM0;rw[b34,b0,b1,b2,b5];simp only[Au,Be];exact⟨⟨⟨⟨⟨trivial,h4⟩,h1⟩,h2⟩,h.n1⟩,ω⟩
 unfold xMj;rw[Ah hok,hs,Ah rfl]
theorem yHs:xMj (tX noSlot)=noSlot:=by
 unfold xMj;rw[Ag δ]
theorem xKd (s:Bs):xMj s=noSlot∨(xMj s).used=true/\xHq (xMj s):=by
 unfold xMj;split
 ·rename_i h
  split
  ·rename_i h2
   right
   unfold xM0 at h;simp only[Au,Be] at h;obtain⟨⟨⟨⟨⟨h0,h1⟩,h3⟩,h4⟩,h5⟩,h6⟩:=h
   have hlen:s.length=64∨(pQ s).name.length>58:=by
    by_cases hx:(pQ s).name.length<=58
    ·left
     rw[h2];exact xW2 (λ_=>hx)
    ·right;omega
   have hnl:(pQ s).name.length<=bN s 5:=by simp[pQ];omega
   have h64:s.length=64:=by rcases hlen with h|h;exact h;omega
   have hn:(pQ s).name.length=bN s 5:=by simp[pQ,h64];omega
   exact⟨rfl,⟨h1,h3,h4,ω,ω⟩⟩
  ·exact .inl rfl
 ·exact .inl rfl
theorem jM (S:List Bs) (k:Nat):(yG S)[k]?=if k<32 then(S[61+k]?).map xMj else none:=by
 unfold yG;rw[Cg,Ea];split
 ·rw[Fx]
 ·rfl
theorem qD {S:List Bs} (h:S.length=381):(yG S).length=32:=by simp[yG,h]
theorem xCw {S T:List Bs} (h:∀i,61<=i->S[i]?=T[i]?):yG S=yG T:=by
 apply Dt;intro k;rw[jM,jM,h (61+k) ω]
theorem xCa {S T:List Bs} {t:Slot} (h:∀i,vN t.cls t.blk<=i->i<vN t.cls t.blk+countP t.cls->S[i]?=T[i]?):xEf S t=xEf T t:=by
 unfold xEf
 congr 2
 apply Dt;intro k;rw[Ea,Ea];split
 ·rw[Fx,Fx];exact h _ ω ω
 ·rfl
theorem xG5 (c b:Nat):93<=vN c b:=by unfold vN;split<;>omega
theorem xIf {c b:Nat} (h:b<vQ c):vN c b+countP c<=381:=by
 unfold vN countP;unfold vQ at h;split<;>simp_all<;>omega
theorem xTd {c b c' b':Nat} (hc:c<=1) (hc':c'<=1) (h:b<vQ c) (h':b'<vQ c') (hne:c=c'->b≠b') (i:Nat) (h1:vN c b<=i) (h2:i<vN c b+countP c) (h3:vN c' b'<=i) (h4:i<vN c' b'+countP c'):False:=by
 unfold vN at h1 h2 h3 h4;unfold countP at h2 h4;unfold vQ at h h';rcases(show c=0∨c=1 by omega) with rfl|rfl<;>rcases(show c'=0∨c'=1 by omega) with rfl|rfl<;>simp at*<;>omega
theorem xK3 {c b:Nat} {data:Bs} {x:Wr} (h:x∈vI c b data):∃i,i<countP c/\x=⟨((vN c b+i:Nat):Int),((xNi data (rE c)).drop (i*64)).take 64⟩:=by
 unfold vI at h;obtain⟨i,hi,rfl⟩:=Ew.1 h;exact⟨i,El.1 hi,rfl⟩
theorem xMt:∀(C:List Wr) (S:List Bs) (j:Nat) (x:Wr),C[j]?=some x->x.at_.toNat<S.length->(∀(k:Nat) y,j<k->C[k]?=some y->y.at_.toNat≠x.at_.toNat)->(xZ S C)[x.at_.toNat]?=some x.data
 |[],_,_,_,h,_,_=>by simp at h
 |y::C,S,0,x,h,hl,ha=>by
  simp at h;subst h;show(xZ (uH S y) C)[y.at_.toNat]?=_
  rw[vK C _ _ (λz hz=>by
   obtain⟨k,hk⟩:=Hd hz;exact ha (k+1) z ω (by simpa using hk))]
  unfold uH;rw[Cw hl]
 |y::C,S,j+1,x,h,hl,ha=>by
  refine xMt C (uH S y) j x (by simpa using h) (by simpa[uH] using hl) (λk z hk hz=>ha (k+1) z ω (by simpa using hz))
theorem xK0 {n:Nat}:∀(k:Nat) (s:Bs),s.length=k*n->((List.range k).map λi=>(s.drop (i*n)).take n).flatten=s
 |0,s,h=>by
  have:s=[]:=Cs (by simpa using h);subst this;rfl
 |k+1,s,h=>by
  rw[List.range_succ_eq_map,Du,Fb,List.map_map];have hl:(s.drop n).length=k*n:=by rw[Eb,h,Fj];omega
  have ih:=xK0 k (s.drop n) hl
  have e:((λi=>(s.drop (i*n)).take n)∘Nat.succ)=λi=>((s.drop n).drop (i*n)).take n:=by
   funext i
   simp only[Function.comp,List.drop_drop,Fj,Nat.add_comm]
  rw[e,ih];simp
theorem xNh {s:Bs} {n:Nat} (h:s.length<=n):(xNi s n).length=n:=by simp[xNi,yR];omega
theorem xOr {c:Nat} (h:c<=1):rE c=countP c*64:=by
 unfold rE countP;rcases(show c=0∨c=1 by omega) with rfl|rfl<;>rfl
theorem xTz {S:List Bs} {c b:Nat} (hS:S.length=381) (hb:b<vQ c) (data:Bs) {i:Nat} (hi:i<countP c):(xZ S (vI c b data))[vN c b+i]?=some (((xNi data (rE c)).drop (i*64)).take 64):=by
 have hl:=xIf hb
 have:=xMt (vI c b data) S i ⟨((vN c b+i:Nat):Int),((xNi data (rE c)).drop (i*64)).take 64⟩ (by simp[vI,hi]) (by simp;omega) (λk y hk hy=>by
  simp only[vI,Cg,Df] at hy;obtain⟨z,hz,rfl⟩:=hy
  rw[Fg (by
   have:=(Ar.1 hz).1;simpa using this)] at hz
  injection hz with hz;subst hz;simp;omega)
 simp only[Cn] at this;exact this
theorem yB7 {S:List Bs} (hS:S.length=381) {t:Slot} {data:Bs} (hc:t.cls<=1) (hb:t.blk<vQ t.cls) (hd:data.length<=rE t.cls) (hs:t.size=data.length):xEf (xZ S (vI t.cls t.blk data)) t=data:=by
 have hl:=xIf hb
 have e:((xZ S (vI t.cls t.blk data)).drop (vN t.cls t.blk)).take (countP t.cls)=(List.range (countP t.cls)).map λi=>((xNi data (rE t.cls)).drop (i*64)).take 64:=by
  apply Dt;intro k;rw[Ea,Cg]
  by_cases hk:k<countP t.cls
  ·rw[Ah hk,Fx,xTz hS hb data hk,Fg hk]
   rfl
  ·rw[Ag hk,Bz (by simp;omega)]
   rfl
 unfold xEf;rw[e,xK0 _ _ (by rw[xNh hd,xOr hc]),hs];unfold xNi;simp
theorem swap_perm (h:List Nat) (i j:Nat) (hi:i<h.length) (hj:j<h.length):((h.set i (h.getD j 0)).set j (h.getD i 0)).Perm h:=by
 rw[Aa,Aa,Af hi,Af hj];simp only[Hq];exact List.set_set_perm hi hj
theorem xGz (n:Nat):∀(f i:Nat) (h:List Nat),n<=h.length->i<h.length->(jU h n f i).Perm h
 |0,_,_,_,_=>List.Perm.refl _
 |f+1,i,h,hn,hi=>by
  unfold jU;split
  ·exact List.Perm.refl _
  ·rename_i hj
   simp only;generalize hje:(if 2*i+2<n/\h.getD (2*i+2) 0<h.getD (2*i+1) 0 then 2*i+2 else 2*i+1)=j
   have hjl:j<h.length:=by
    rw[<-hje];split<;>omega
   split
   ·refine(xGz n f j _ (by simpa using hn) (by simpa using hjl)).trans (swap_perm h i j hi hjl)
   ·exact List.Perm.refl _
theorem xH0 (n:Nat):∀(f i:Nat) (h:List Nat) (k:Nat),n<=k->i<n->(jU h n f i)[k]?=h[k]?
 |0,_,_,_,_,_=>rfl
 |f+1,i,h,k,hk,hi=>by
  unfold jU;split
  ·rfl
  ·rename_i hj
   simp only;generalize hje:(if 2*i+2<n/\h.getD (2*i+2) 0<h.getD (2*i+1) 0 then 2*i+2 else 2*i+1)=j
   have hjl:j<n:=by
    rw[<-hje];split<;>omega
   split
   ·rw[xH0 n f j _ k hk hjl,Eo ω,Eo ω]
   ·rfl
theorem xMb:∀(i:Nat) (h:List Nat),i<=h.length->(xQh h i).Perm h
 |0,_,_=>List.Perm.refl _
 |i+1,h,hi=>by
  unfold xQh;have hp:=xGz h.length h.length i h ν ω;exact(xMb i _ (by rw[hp.length_eq];omega)).trans hp
theorem xE8 (h:List Nat):(xY7 h).Perm h:=xMb _ _ ω
theorem xI3 {h:List Nat} (h0:h.length≠0):(h.getD 0 0::xAb h).Perm h:=by
 unfold xAb;generalize hg:(h.set 0 (h.getD (h.length-1) 0)).set (h.length-1) (h.getD 0 0)=g;have hgp:g.Perm h:=by rw[<-hg];exact swap_perm h 0 (h.length-1) ω ω
 have hgl:g.length=h.length:=hgp.length_eq;have hd:=xGz (h.length-1) (h.length-1) 0 g ω ω
 have hlast:(jU g (h.length-1) (h.length-1) 0)[h.length-1]?=some (h.getD 0 0):=by
  by_cases h1:h.length=1
  ·have hk:jU g (h.length-1) (h.length-1) 0=g:=by rw[h1];rfl
   rw[hk,<-hg,Cw (by simp;omega)]
  ·rw[xH0 _ _ _ _ _ ν ω,<-hg,Cw (by simp;omega)]
 generalize jU g (h.length-1) (h.length-1) 0=e at hd hlast;have hel:e.length=h.length:=hd.length_eq.trans hgl;have hne:e≠[]:=by intro e0;subst e0;simp at hel;omega
 have hgl2:e.getLast hne=h.getD 0 0:=by
  rw[<-hel,<-List.getLast?_eq_getElem?,List.getLast?_eq_some_getLast hne] at hlast;injection hlast
 have hsplit:=List.dropLast_concat_getLast hne;rw[hgl2] at hsplit;refine List.Perm.trans ?_ (hd.trans hgp);refine List.Perm.trans ?_ (List.Perm.of_eq hsplit);exact(List.perm_append_singleton _ _).symm
theorem xSr {h:List Nat} (h0:h.length≠0):(xAb h).length+1=h.length:=by
 have:=(xI3 h0).length_eq;simpa using this
def xFa (l:List Slot):Prop:=∀(i j:Nat) (t u:Slot),l[i]?=some t->l[j]?=some u->t.used=true->u.used=true->t.name=u.name->i=j
def wT (l:List Slot) (S:List Bs) (n:Bs):Option Bs:=if wU l n<0 then none else some (xEf S (xCx l (wU l n)))
structure Inv (s:StS) (S:List Bs):Prop where
 len:S.length=381
 slots:yG S=s.slots
 ok:∀t∈s.slots,t.used=true->xHq t
 nd:∀c,c<=1->(s.free c).Nodup
 low:∀c,c<=1->∀b∈s.free c,b<vQ c
 apart:∀c,c<=1->∀b∈s.free c,∀t∈s.slots,t.used=true->t.cls=c->t.blk≠b
 uniq:xFa s.slots
theorem Inv.slen {s:StS} {S:List Bs} (h:Inv s S):s.slots.length=32:=by rw[<-h.slots];exact qD h.len
theorem xM4 {n:Bs} {t:Slot}:xHi n t=true↔t.used=true/\t.name=n:=by simp[xHi]
theorem qI (l:List Slot) (n:Bs):(wU l n=-1/\∀t∈l,t.used=true->t.name≠n)∨∃(i:Nat) (t:Slot),wU l n=i/\l[i]?=some t/\t.used=true/\t.name=n/\i<l.length:=by
 rcases pF (xHi n) l with ⟨h,ha⟩|⟨i,t,h,h1,h2,_⟩
 ·refine .inl ⟨h,λt ht hu he=>?_⟩;have:=ha t ht;rw[xM4.2 ⟨hu,he⟩] at this;cases this
 ·obtain⟨a,b⟩:=xM4.1 h2;exact .inr ⟨i,t,h,h1,a,b,(Ar.1 h1).1⟩
theorem xLj {l:List Slot} {i:Nat} {t:Slot} (h:l[i]?=some t):xCx l (i:Int)=t:=by
 unfold xCx;rw[Aa,Cn,h]
 rfl
theorem xD8 {l:List Slot} {S:List Bs} {n:Bs}:wT l S n=none↔∀t∈l,t.used=true->t.name≠n:=by
 unfold wT;rcases qI l n with ⟨h,ha⟩|⟨i,t,h,h1,h2,h3,_⟩
 ·rw[h,Ah ω];exact⟨λ_=>ha,λ_=>rfl⟩
 ·rw[h,Ag ω];exact⟨λe=>(by cases e),λe=>absurd h3 (e t (Bb h1) h2)⟩
theorem xT0 {l:List Slot} {S:List Bs} (hu:xFa l) {i:Nat} {t:Slot} (h1:l[i]?=some t) (h2:t.used=true):wT l S t.name=some (xEf S t):=by
 unfold wT;rcases qI l t.name with ⟨h,ha⟩|⟨j,u,h,k1,k2,k3,_⟩
 ·exact absurd rfl (ha t (Bb h1) h2)
 ·obtain rfl:=hu i j t u h1 k1 h2 k2 k3.symm;rw[k1] at h1;injection h1 with h1;subst h1;rw[h,Ag ω,xLj k1]
theorem xCy {l:List Slot} {i j:Nat} {t u:Slot} (h:(l.set i t)[j]?=some u):(j=i/\u=t)∨(j≠i/\l[j]?=some u):=by
 rw[Co] at h
 by_cases e:i=j
 ·rw[Ah e] at h;split at h
  ·injection h with h;exact .inl ⟨e.symm,h.symm⟩
  ·cases h
 ·rw[Ag e] at h;exact .inr ⟨λx=>e x.symm,h⟩
theorem xM5 {l:List Slot} {S S':List Bs} {i:Nat} {t:Slot} {n:Bs} (hl:xFa l) (hl':xFa (l.set i t)) (ht:t.used=true->t.name≠n) (hi:∀u,l[i]?=some u->u.used=true->u.name≠n)
  (hr:∀(j:Nat) (u:Slot),j≠i->l[j]?=some u->u.used=true->xEf S' u=xEf S u):wT (l.set i t) S' n=wT l S n:=by
 cases hk:wT l S n with
 |none=>
  rw[xD8] at hk⊢;intro u hu hus;obtain⟨j,hj⟩:=Hd hu;rcases xCy hj with ⟨_,rfl⟩|⟨hne,h2⟩
  ·exact ht hus
  ·exact hk u (Bb h2) hus
 |some d=>
  rcases qI l n with ⟨h,ha⟩|⟨j,u,h,k1,k2,k3,_⟩
  ·rw[xD8.2 ha] at hk;cases hk
  ·have hne:j≠i:=λe=>hi u (e▸k1) k2 k3;have e1:=xT0 (S:=S) hl k1 k2;have e2:=xT0 (S:=S') hl' (i:=j) (t:=u) (by rw[Eo (En hne)];exact k1) k2;rw[k3] at e1 e2;rw[e2,hr j u hne k1 k2,<-e1,hk]
theorem xLk {S:List Bs} (hS:S.length=381) {i:Nat} (hi:i<32) (t:Slot):yG (uH S (setW i t))=(yG S).set i (xMj (tX t)):=by
 apply Dt;intro k;rw[jM,Co,jM,qD hS];unfold uH setW;simp only[Cn];rw[Co]
 by_cases hk:k<32
 ·by_cases e:i=k
  ·subst e;rw[Ah hk,Ah rfl,Ah ω,Ah rfl,Ah hi]
   rfl
  ·rw[Ah hk,Ag ω,Ag e,Ah hk]
 ·rw[Ag hk,Ag ω,Ag hk]
theorem xJ1 {S:List Bs} {i:Nat} (hi:i<32) (t u:Slot):xEf (uH S (setW i t)) u=xEf S u:=by
 refine xCa (λk h1 _=>?_);have:=xG5 u.cls u.blk;unfold uH setW;simp only[Cn];rw[Eo ω]
theorem xTf (S:List Bs) (c b:Nat) (data:Bs):yG (xZ S (vI c b data))=yG S:=by
 apply Dt;intro k;rw[jM,jM];split
 ·rw[vK];intro x hx;obtain⟨i,hi,rfl⟩:=xK3 hx;have:=xG5 c b;simp;omega
 ·rfl
theorem xYb (S:List Bs) {c b:Nat} (data:Bs) {u:Slot} (hc:c<=1) (hb:b<vQ c) (hu:xHq u) (hne:u.cls=c->u.blk≠b):xEf (xZ S (vI c b data)) u=xEf S u:=by
 refine xCa (λk h1 h2=>?_);rw[vK];intro x hx;obtain⟨i,hi,rfl⟩:=xK3 hx;simp only[Cn];intro e;exact xTd hu.cls hc hu.blk hb hne k h1 h2 ω ω
theorem xUf {l:List Slot} (hl:xFa l) {i:Nat} {t:Slot} (h:t.used=true->∀(j:Nat) u,j≠i->l[j]?=some u->u.used=true->u.name≠t.name):xFa (l.set i t):=by
 intro a b x y hx hy hxu hyu hn;rcases xCy hx with ⟨e1,e2⟩|⟨hax,hx'⟩<;>rcases xCy hy with ⟨e3,e4⟩|⟨hby,hy'⟩
 ·omega
 ·subst e2;exact absurd hn.symm (h hxu b y hby hy' hyu)
 ·subst e4;exact absurd hn (h hyu a x hax hx' hxu)
 ·exact hl a b x y hx' hy' hxu hyu hn
theorem yH7 {s:StS} {S:List Bs} (h:Inv s S) {i:Nat} (hi:i<32):Inv (putAt s i noSlot) (uH S (setW i noSlot)):=by
 have hsl:=xLk h.len hi noSlot;rw[yHs,h.slots] at hsl;have hu:xFa (s.slots.set i noSlot):=xUf h.uniq (λe=>by cases e)
 have hm:∀t∈s.slots.set i noSlot,t.used=true->t∈s.slots:=λt ht htu=>by
  rcases Dz ht with ht|rfl
  ·exact ht
  ·cases htu
 exact⟨by simp[uH,h.len],hsl,λt ht htu=>h.ok t (hm t ht htu) htu,h.nd,h.low,λc hc b hb t ht htu=>h.apart c hc b hb t (hm t ht htu) htu,hu⟩
theorem StS.xVm {s:StS} {c:Nat} (c':Nat) (hc:c<=1) (hc':c'<=1):(wH s c).free c'=if c'=c then xAb (s.free c) else s.free c':=by
 unfold wH StS.free;rcases(show c=0∨c=1 by omega) with rfl|rfl<;>rcases(show c'=0∨c'=1 by omega) with rfl|rfl<;>rfl
theorem tO (s:StS) (c:Nat):(wH s c).slots=s.slots:=by unfold wH;split<;>rfl
theorem xHg (s:StS) (c:Nat):(wH s c).writes=s.writes:=by unfold wH;split<;>rfl
theorem xGa (d:Bs):yJ d<=1:=by unfold yJ;split<;>omega
theorem xR5 {d:Bs} (h:d.length<=1024):d.length<=rE (yJ d):=by
 unfold yJ rE;split<;>simp<;>omega
theorem yLd {s:StS} {S:List Bs} (h:Inv s S) {i:Nat} (hi:i<32) {c:Ch} (hn:1<=c.name.length) (hn2:c.name.length<=24) (hd:c.data.length<=1024) (hf:(s.free (yJ c.data)).length≠0)
  (hw:∀(j:Nat) u,j≠i->s.slots[j]?=some u->u.used=true->u.name≠c.name):
  Inv (putAt {(wH s (yJ c.data)) with writes:=(wH s (yJ c.data)).writes++vI (yJ c.data) ((s.free (yJ c.data)).getD 0 0) c.data} i (zH c ((s.free (yJ c.data)).getD 0 0)))
   (uH (xZ S (vI (yJ c.data) ((s.free (yJ c.data)).getD 0 0) c.data)) (setW i (zH c ((s.free (yJ c.data)).getD 0 0))))/\
  (∀n,n≠c.name->(∀u,s.slots[i]?=some u->u.used=true->u.name≠n)->wT (s.slots.set i (zH c ((s.free (yJ c.data)).getD 0 0))) (uH (xZ S (vI (yJ c.data) ((s.free (yJ c.data)).getD 0 0) c.data)) (setW i (zH c ((s.free (yJ c.data)).getD 0 0)))) n=wT s.slots S n)/\
  wT (s.slots.set i (zH c ((s.free (yJ c.data)).getD 0 0))) (uH (xZ S (vI (yJ c.data) ((s.free (yJ c.data)).getD 0 0) c.data)) (setW i (zH c ((s.free (yJ c.data)).getD 0 0)))) c.name=some c.data:=by
 have hk:=xGa c.data;generalize hke:yJ c.data=k at hk hf⊢;have hcap:c.data.length<=rE k:=by rw[<-hke];exact xR5 hd
 have hpp:=xI3 hf;have hbm:(s.free k).getD 0 0∈s.free k:=hpp.mem_iff.1 (Cx ..);generalize (s.free k).getD 0 0=b at hpp hbm⊢;have hb:b<vQ k:=h.low k hk b hbm;have hse:zH c b=⟨true,k,b,c.data.length,c.name⟩:=by unfold zH;rw[hke]
 have hok:xHq (zH c b):=by rw[hse];exact⟨hk,hb,hcap,hn,hn2⟩
 have hus:(zH c b).used=true:=rfl;have hnm:(zH c b).name=c.name:=rfl;have hS1:(xZ S (vI k b c.data)).length=381:=by rw[uT,h.len]
 have hsl:=xLk hS1 hi (zH c b);rw[yM0 hus hok,xTf,h.slots] at hsl;have hu:xFa (s.slots.set i (zH c b)):=xUf h.uniq (λ_ j u hj hju hjs=>hw j u hj hju hjs);have hil:i<s.slots.length:=by rw[h.slen];exact hi
 have hnd:=hpp.nodup_iff.2 (h.nd k hk);rw[List.nodup_cons] at hnd;have hmem:∀x∈xAb (s.free k),x∈s.free k:=λx hx=>hpp.mem_iff.1 (Dm _ hx)
 have hfree:∀c',c'<=1->∀x∈(wH s k).free c',x∈s.free c'/\(c'=k->x≠b):=λc' hc' x hx=>by
  rw[StS.xVm c' hk hc'] at hx;split at hx
  ·rename_i e
   subst e;exact⟨hmem x hx,λ_ e2=>hnd.1 (e2▸hx)⟩
  ·rename_i e
   exact⟨hx,λe2=>absurd e2 e⟩
 refine⟨⟨by simp[uH,uT,h.len],?_,?_,?_,?_,?_,?_⟩,?_,?_⟩
 ·show yG _=(wH s k).slots.set i _;rw[tO];exact hsl
 ·show ∀t∈(wH s k).slots.set i _,_;rw[tO];intro t ht htu;rcases Dz ht with ht|rfl
  ·exact h.ok t ht htu
  ·exact hok
 ·intro c' hc';show((wH s k).free c').Nodup;rw[StS.xVm c' hk hc'];split
  ·exact hnd.2
  ·exact h.nd c' hc'
 ·intro c' hc' x hx;exact h.low c' hc' x (hfree c' hc' x hx).1
 ·intro c' hc' x hx t ht htu htc;have ht':t∈(wH s k).slots.set i (zH c b):=ht;rw[tO] at ht';rcases Dz ht' with ht|rfl
  ·exact h.apart c' hc' x (hfree c' hc' x hx).1 t ht htu htc
  ·rw[hse] at htc⊢;exact λe=>(hfree c' hc' x hx).2 htc.symm e.symm
 ·show xFa ((wH s k).slots.set i _);rw[tO];exact hu
 ·intro n hne hin;refine xM5 h.uniq hu (λ_ e=>hne (hnm▸e).symm) hin (λj u hj hju hjs=>?_);have hum:=Bb hju;rw[xJ1 hi,xYb S c.data hk hb (h.ok u hum hjs) (λe=>h.apart k hk b hbm u hum hjs e)]
 ·have:=xT0 (S:=uH (xZ S (vI k b c.data)) (setW i (zH c b))) hu (i:=i) (t:=zH c b) (Cw hil) hus;rw[hnm] at this;rw[this,xJ1 hi]
  congr 1
  have hr:=yB7 h.len (t:=zH c b) (data:=c.data) hok.cls hok.blk (by rw[hse];exact hcap) (by rw[hse]);rw[show(zH c b).cls=k from hke,show(zH c b).blk=b from rfl] at hr;exact hr
def jS (m:Bs->Option Bs) (c:Ch) (n:Bs):Option Bs:=if n=c.name then(if c.gone=true then none else some c.data) else m n
def xOz (s:StS) (c:Ch):List Wr:=
 if c.gone=true then[setW (wU s.slots c.name).toNat noSlot]
 else vI (yJ c.data) ((s.free (yJ c.data)).getD 0 0) c.data++[setW (qY s.slots c.name).toNat (zH c ((s.free (yJ c.data)).getD 0 0))]
theorem xCj (s:StS) (c:Ch):(jC s c).writes=s.writes++xOz s c:=by
 unfold jC xOz;split
 ·rfl
 ·simp[putAt,xHg]
theorem xGc {s:StS} {c:Ch} (h:kE s c=0):1<=c.name.length/\c.name.length<=24:=by
 unfold kE at h
 by_cases h1:c.name.length<1∨24<c.name.length
 ·rw[Ah h1] at h;omega
 ·omega
theorem xR7 {s:StS} {c:Ch} (h:kE s c=0) (hg:c.gone=true):∃(i:Nat) (t:Slot),wU s.slots c.name=i/\s.slots[i]?=some t/\t.used=true/\t.name=c.name/\i<s.slots.length:=by
 unfold kE at h;have h1:=xGc (s:=s) (c:=c) h;rw[Ag ω,Ah hg] at h;rcases qI s.slots c.name with ⟨h2,_⟩|h2
 ·rw[h2,Ah ω] at h;omega
 ·exact h2
theorem xW7 {s:StS} {c:Ch} (h:kE s c=0) (hg:¬c.gone=true):c.data.length<=1024/\0<=qY s.slots c.name/\(s.free (yJ c.data)).length≠0:=by
 unfold kE at h;have h1:=xGc (s:=s) (c:=c) h;rw[Ag ω,Ag hg] at h
 by_cases h2:1024<c.data.length
 ·rw[Ah h2] at h;omega
 ·rw[Ag h2] at h
  by_cases h3:qY s.slots c.name<0
  ·rw[Ah h3] at h;omega
  ·rw[Ag h3] at h
   by_cases h4:(s.free (yJ c.data)).length=0
   ·rw[Ah h4] at h;omega
   ·exact⟨ω,ω,h4⟩
theorem xJc {l:List Slot} {n:Bs} (hu:xFa l) (h:0<=qY l n):∃i:Nat,qY l n=i/\i<l.length/\(∀(j:Nat) u,j≠i->l[j]?=some u->u.used=true->u.name≠n)/\∀u,l[i]?=some u->u.used=true->u.name=n:=by
 unfold qY at h⊢;rcases qI l n with ⟨h1,ha⟩|⟨i,t,h1,k1,k2,k3,k4⟩
 ·rw[Ah ω] at h⊢;rcases pF (λt:Slot=>!t.used) l with ⟨h2,_⟩|⟨i,t,h2,k1,k2,_⟩
  ·rw[h2] at h;omega
  ·refine⟨i,h2,(Ar.1 k1).1,λj u _ hj hju=>ha u (Bb hj) hju,λu hu2 hus=>?_⟩;rw[k1] at hu2;injection hu2 with hu2;subst hu2;rw[hus] at k2;cases k2
 ·rw[Ag ω];refine⟨i,h1,k4,λj u hne hj hju e=>hne (hu j i u t hj k1 hju k2 (e.trans k3.symm)),λu hu2 _=>?_⟩;rw[k1] at hu2;injection hu2 with hu2;subst hu2;exact k3
theorem xNz {s:StS} {S:List Bs} (h:Inv s S) {c:Ch} (he:kE s c=0):Inv (jC s c) (xZ S (xOz s c))/\∀n,wT (jC s c).slots (xZ S (xOz s c)) n=jS (wT s.slots S) c n:=by
 obtain⟨n1,n2⟩:=xGc he
 by_cases hg:c.gone=true
 ·obtain⟨i,t,h1,h2,h3,h4,h5⟩:=xR7 he hg;have hi:i<32:=by rw[h.slen] at h5;exact h5
  have e1:jC s c=putAt s i noSlot:=by unfold jC;rw[Ah hg,h1];rfl
  have e2:xOz s c=[setW i noSlot]:=by unfold xOz;rw[Ah hg,h1];rfl
  have e3:xZ S (xOz s c)=uH S (setW i noSlot):=by rw[e2];rfl
  have hv:=yH7 h hi;rw[e1,e3];refine⟨hv,λn=>?_⟩;show wT (s.slots.set i noSlot) _ n=_;unfold jS
  by_cases hn:n=c.name
  ·rw[Ah hn,Ah hg,xD8];intro u hu hus e;obtain⟨j,hj⟩:=Hd hu;rcases xCy hj with ⟨_,rfl⟩|⟨hne,hj⟩
   ·cases hus
   ·exact hne (h.uniq j i u t hj h2 hus h3 (e.trans (hn.trans h4.symm)))
  ·rw[Ag hn]
   exact xM5 h.uniq hv.uniq (λe=>by cases e) (λu hu hus e=>by
    rw[h2] at hu;injection hu with hu;subst hu;exact hn (e.symm.trans h4)) (λj u _ _ _=>xJ1 hi _ _)
 ·obtain⟨d1,d2,d3⟩:=xW7 he hg;obtain⟨i,h1,h2,h3,h4⟩:=xJc h.uniq d2;have hi:i<32:=by rw[h.slen] at h2;exact h2
  obtain⟨r1,r2,r3⟩:=yLd h hi n1 n2 d1 d3 h3
  have e1:jC s c=putAt {(wH s (yJ c.data)) with writes:=(wH s (yJ c.data)).writes++vI (yJ c.data) ((s.free (yJ c.data)).getD 0 0) c.data} i (zH c ((s.free (yJ c.data)).getD 0 0)):=by
   unfold jC;rw[Ag hg,h1]
   rfl
  have e2:xOz s c=vI (yJ c.data) ((s.free (yJ c.data)).getD 0 0) c.data++[setW i (zH c ((s.free (yJ c.data)).getD 0 0))]:=by
   unfold xOz;rw[Ag hg,h1]
   rfl
  have e3:xZ S (xOz s c)=uH (xZ S (vI (yJ c.data) ((s.free (yJ c.data)).getD 0 0) c.data)) (setW i (zH c ((s.free (yJ c.data)).getD 0 0))):=by
   rw[e2,qK]
   rfl
  have e4:(jC s c).slots=s.slots.set i (zH c ((s.free (yJ c.data)).getD 0 0)):=by
   rw[e1];show(wH s _).slots.set i _=_;rw[tO]
  rw[e4,e3];rw[<-e1] at r1;refine⟨r1,λn=>?_⟩;unfold jS
  by_cases hn:n=c.name
  ·rw[Ah hn,Ag hg,hn];exact r3
  ·rw[Ag hn];exact r2 n hn (λu hu hus e=>hn (e.symm.trans (h4 u hu hus)))
theorem yBw {s:StS} {S:List Bs} (h:Inv s S) {c:Ch} (he:kE s c=0):∀x∈xOz s c,xF3 381 x=true:=by
 have hset:∀(i:Nat) (t:Slot),i<32->(t.used=true->t.name.length<=58)->xF3 381 (setW i t)=true:=λi t hi ht=>by
  unfold xF3 setW;simp only[Au,Be];exact⟨⟨ω,ω⟩,xW2 ht⟩
 obtain⟨n1,n2⟩:=xGc he;intro x hx;unfold xOz at hx
 by_cases hg:c.gone=true
 ·rw[Ah hg] at hx;obtain⟨i,t,h1,h2,h3,h4,h5⟩:=xR7 he hg;rw[h1] at hx;rw[Bu.1 hx];exact hset _ _ (by rw[h.slen] at h5;simpa using h5) (λe=>by cases e)
 ·rw[Ag hg] at hx;obtain⟨d1,d2,d3⟩:=xW7 he hg;obtain⟨i,h1,h2,_,_⟩:=xJc h.uniq d2;rcases Em.1 hx with hx|hx
  ·obtain⟨k,hk,rfl⟩:=xK3 hx;have hc:=xGa c.data;have hpp:=xI3 d3;have hb:=h.low _ hc _ (hpp.mem_iff.1 (Cx ..));have:=xIf hb;have h93:=xG5 (yJ c.data) ((s.free (yJ c.data)).getD 0 0);have hcap:=xR5 d1;unfold xF3;simp only[Au,Be]
   refine⟨⟨ω,ω⟩,?_⟩;rw[Ck,Eb,xNh hcap,xOr hc];have:=Nat.mul_le_mul_right 64 (show k+1<=countP (yJ c.data) by omega);omega
  ·rw[Bu.1 hx,h1];exact hset _ _ (by rw[h.slen] at h2;simpa using h2) (λ_=>by show c.name.length<=58;omega)
def xF2 (m:Bs->Option Bs) (l:List Ch):Bs->Option Bs:=l.foldl jS m
theorem xT9:∀(l:List Ch) (s:StS) (S:List Bs),Inv s S->(zF s l).2=0->∃W,(zF s l).1.writes=s.writes++W/\Inv (zF s l).1 (xZ S W)/\(∀n,wT (zF s l).1.slots (xZ S W) n=xF2 (wT s.slots S) l n)/\∀x∈W,xF3 381 x=true
 |[],s,S,h,_=>⟨[],by simp[zF],h,λ_=>rfl,σ⟩
 |c::l,s,S,h,he=>by
  unfold zF at he⊢
  by_cases hc:kE s c=0
  ·rw[Ah hc] at he⊢;obtain⟨h1,h2⟩:=xNz h hc;obtain⟨W,w1,w2,w3,w4⟩:=xT9 l (jC s c) _ h1 he;refine⟨xOz s c++W,by rw[w1,xCj,Cy],by rw[qK];exact w2,λn=>?_,λx hx=>?_⟩
   ·rw[qK,w3 n];show List.foldl jS _ l n=List.foldl jS (jS _ c) l n;rw[show wT (jC s c).slots (xZ S (xOz s c))=jS (wT s.slots S) c from funext h2]
   ·rcases Em.1 hx with hx|hx
    ·exact yBw h hc x hx
    ·exact w4 x hx
  ·rw[Ag hc] at he;exact absurd he hc
def uZ (d:Dk):List Slot:=yG (xY d).secs
def vH (d:Dk) (n:Bs):Option Bs:=wT (uZ d) (xY d).secs n
structure Store (d:Dk):Prop where
 cont:wX d=true
 uniq:xFa (uZ d)
theorem Store.right {d:Dk} (h:Store d):d.secs.length=381/\yP d=true:=by
 have:=h.cont;unfold wX at this;simpa using this
theorem xGx {n:Nat} {tk:List Nat}:(xBh n tk).Nodup/\∀b∈xBh n tk,b<n/\b∉tk:=by
 have hp:=xE8 ((List.range n).filter λi=>!tk.contains i);refine⟨hp.nodup_iff.2 (List.Pairwise.filter _ List.nodup_range),λb hb=>?_⟩;have:=hp.mem_iff.1 hb;simp at this;exact this
theorem yAg {l:List Slot} {t:Slot} (h:t∈l) (hu:t.used=true):t.blk∈uJ l t.cls:=by
 unfold uJ;refine Ew.2 ⟨t,Gv.2 ⟨h,by simp[hu]⟩,rfl⟩
theorem Store.inv {d:Dk} (h:Store d):Inv (stS d) (xY d).secs:=by
 obtain⟨h1,h2⟩:=h.right
 have hf:∀c,c<=1->(stS d).free c=xBh (vQ c) (uJ (uZ d) c):=λc hc=>by
  rcases(show c=0∨c=1 by omega) with rfl|rfl<;>rfl
 refine⟨by rw[xBv h2,h1],rfl,λt ht htu=>?_,λc hc=>?_,λc hc b hb=>?_,λc hc b hb t ht htu htc e=>?_,h.uniq⟩
 ·have ht':t∈yG (xY d).secs:=ht;unfold yG at ht';obtain⟨s,_,rfl⟩:=Ew.1 ht';rcases xKd s with e|⟨_,e⟩
  ·rw[e] at htu;cases htu
  ·exact e
 ·rw[hf c hc];exact xGx.1
 ·rw[hf c hc] at hb;exact(xGx.2 b hb).1
 ·rw[hf c hc] at hb;refine(xGx.2 b hb).2 ?_;have:=yAg ht htu;rw[htc,e] at this;exact this
theorem xGe {d:Dk} (h:Store d) {l:List Ch} (he:uY d l=0):xAj d l=0/\Store (vO d l)/\∀n,vH (vO d l) n=xF2 (vH d) l n:=by
 obtain⟨h1,h2⟩:=h.right;have he':=he;unfold uY at he;rw[Ah h.cont] at he
 have hc2:(zF (stS d) l).2=0:=by
  by_cases hx:(zF (stS d) l).2=0
  ·exact hx
  ·rw[Ag hx] at he;exact absurd he hx
 rw[Ah hc2] at he
 have h30:(zF (stS d) l).1.writes.length<=30:=by
  by_cases hx:30<(zF (stS d) l).1.writes.length
  ·rw[Ah hx] at he;omega
  ·omega
 obtain⟨W,w1,w2,w3,w4⟩:=xT9 l (stS d) _ h.inv hc2;have hw:yX d l=W:=by unfold yX;rw[Ah he',w1];rfl
 have hWl:W.length<=30:=by rw[w1] at h30;simpa[stS] using h30
 unfold xAj vO;rw[Ah he',Ah he',hw]
 by_cases h0:W.length=0
 ·rw[Ah h0,Ah h0];have hW:W=[]:=Cs h0;subst hW;have hff:xY (xY d)=xY d:=kJ (by rw[xAx h2]);have hS:uZ (xY d)=uZ d:=by unfold uZ;rw[hff]
  have hsl:(zF (stS d) l).1.slots=uZ d:=by rw[<-w2.slots];rfl
  refine⟨rfl,⟨?_,by rw[hS];exact h.uniq⟩,λn=>?_⟩
  ·unfold wX;rw[xBv h2,h1,qF h2]
   rfl
  ·rw[<-show wT (stS d).slots (xY d).secs=vH d from rfl,<-w3 n,hsl];unfold vH;rw[hff,hS]
   rfl
 ·rw[Ag h0,Ag h0]
  have hpe:vZ d W=0:=by
   unfold vZ;rw[Ag,Ag,Ag ω]
   ·rw[h1];simp only[Bool.not_eq_false];exact Bv.2 w4
   ·unfold qO;rw[h1,h2];simp;exact λe=>h0 (by simp[e])
  obtain⟨S',c1,c2,c3,c4,c5⟩:=xH3 hpe;rw[c1];have hfl:xY ⟨S',[]⟩=⟨S',[]⟩:=kJ rfl
  have hsl:uZ ⟨S',[]⟩=(zF (stS d) l).1.slots:=by
   unfold uZ;rw[hfl,<-w2.slots];exact xCw c5
  refine⟨hpe,⟨?_,by rw[hsl];exact w2.uniq⟩,λn=>?_⟩
  ·unfold wX;simp only;rw[c3,h1,c2]
   rfl
  ·rw[<-show wT (stS d).slots (xY d).secs=vH d from rfl,<-w3 n];unfold vH;rw[hsl,hfl];unfold wT;split
   ·rfl
   ·congr 1
    refine xCa (λi hi _=>c5 i ?_);have:=xG5 (xCx (zF (stS d) l).1.slots (wU (zF (stS d) l).1.slots n)).cls (xCx (zF (stS d) l).1.slots (wU (zF (stS d) l).1.slots n)).blk;omega
theorem xO7 {d:Dk} (h:wX d=true) (n:Bs):(xAe d n=6/\vH d n=none/\xOa d n=[])∨(xAe d n=0/\vH d n=some (xOa d n)):=by
 unfold xOa xAe vH wT uZ;rw[Ah h]
 by_cases hf:wU (yG (xY d).secs) n<0
 ·left
  rw[Ah hf,Ah hf];exact⟨rfl,rfl,rfl⟩
 ·right
  rw[Ag hf,Ag hf];exact⟨rfl,rfl⟩
def jA (c:Nat) (l:List Slot):Nat:=l.countP λt=>t.used&&t.cls==c
theorem xLh (l:List Slot) (c:Nat):(uJ l c).length=jA c l:=by
 unfold uJ jA;rw[Bw,List.countP_eq_length_filter]
theorem xCt (c:Nat):∀(l:List Slot) (i:Nat) (t:Slot),jA c (l.set i t)<=jA c l+(if (t.used&&t.cls==c)=true then 1 else 0)
 |[],_,_=>by simp[jA]
 |x::l,0,t=>by
  unfold jA;rw[Bh,Gm,Gm];omega
 |x::l,i+1,t=>by
  have:=xCt c l i t;unfold jA at this⊢;rw[Cm,Gm,Gm];omega
theorem xPc:∀(l:List Slot),(∀t∈l,t.used=true->t.cls<=1)->jA 0 l+jA 1 l<l.length->∃t∈l,t.used=false
 |[],_,h=>by simp at h
 |x::l,hc,h=>by
  cases hx:x.used with
  |false=>exact⟨x,Cx ..,hx⟩
  |true=>
   have h1:=hc x (Cx ..) hx
   obtain⟨t,ht,e⟩:=xPc l (λt ht=>hc t (Dm _ ht)) (by
    unfold jA at h⊢;rw[Gm,Gm,Bl,hx] at h;rcases(show x.cls=0∨x.cls=1 by omega) with e|e<;>rw[e] at h<;>simp at h<;>omega)
   exact⟨t,Dm _ ht,e⟩
theorem xQq:∀(tk L:List Nat),L.Nodup->L.length<=(L.filter λi=>!tk.contains i).length+tk.length
 |[],L,_=>by rw[show(L.filter λi=>!([]:List Nat).contains i)=L from List.filter_eq_self.2 (λi _=>rfl)];exact Nat.le_add_right _ _
 |x::tk,L,h=>by
  have ih:=xQq tk L h;have hn:(L.filter λi=>!tk.contains i).Nodup:=List.Pairwise.filter _ h
  have e:(L.filter λi=>!(x::tk).contains i)=(L.filter λi=>!tk.contains i).erase x:=by
   rw[hn.erase_eq_filter x,List.filter_filter];refine List.filter_congr (λi _=>?_);rw[List.contains_cons,Bool.not_or]
   rfl
  rw[e,Bl];have:=List.length_erase_le (a:=x) (l:=L.filter λi=>!tk.contains i)
  have h2:(L.filter λi=>!tk.contains i).length<=((L.filter λi=>!tk.contains i).erase x).length+1:=by
   rw[List.length_erase];split<;>omega
  omega
theorem xQr (n:Nat) (tk:List Nat):n<=(xBh n tk).length+tk.length:=by
 unfold xBh;rw[(xE8 _).length_eq];have:=xQq tk (List.range n) List.nodup_range
 rwa [List.length_range] at this
structure Cp (s:StS) (a b:Nat):Prop where
 u0:jA 0 s.slots<=a
 u1:jA 1 s.slots<=b
 f0:24<=s.jG.length+a
 f1:12<=s.xCf.length+b
theorem yHu {d:Dk} {a b:Nat} (h0:jA 0 (uZ d)<=a) (h1:jA 1 (uZ d)<=b):Cp (stS d) a b:=by
 refine⟨h0,h1,?_,?_⟩
 ·have:=xQr 24 (uJ (yG (xY d).secs) 0);rw[xLh] at this;show 24<=(xBh 24 (uJ (yG (xY d).secs) 0)).length+a;have h0':jA 0 (yG (xY d).secs)<=a:=h0;omega
 ·have:=xQr 12 (uJ (yG (xY d).secs) 1);rw[xLh] at this;show 12<=(xBh 12 (uJ (yG (xY d).secs) 1)).length+b;have h1':jA 1 (yG (xY d).secs)<=b:=h1;omega
def xWc (c:Ch):Nat:=if c.gone=true then 0 else yJ c.data
def wlC (c:Ch):Nat:=if c.gone=true then 1 else 5+12*yJ c.data
def xTy (l:List Ch):Nat:=(l.map xWc).sum
def wlL (l:List Ch):Nat:=(l.map wlC).sum
theorem yM2 {s:StS} {S:List Bs} {a b:Nat} (h:Cp s a b) {c:Ch} (hg:c.gone=true) (h1:1<=c.name.length) (h2:c.name.length<=24) (hf:wT s.slots S c.name≠none):kE s c=0/\Cp (jC s c) a b/\(jC s c).writes.length=s.writes.length+1:=by
 have hp:¬wU s.slots c.name<0:=λe=>hf (by unfold wT;rw[Ah e]);refine⟨by unfold kE;rw[Ag ω,Ah hg,Ag hp],?_,by rw[xCj];unfold xOz;rw[Ah hg];simp⟩;unfold jC;rw[Ah hg];refine⟨?_,?_,h.f0,h.f1⟩
 ·have:=xCt 0 s.slots (wU s.slots c.name).toNat noSlot;have h0:=h.u0;show jA 0 (s.slots.set _ noSlot)<=a;simp[noSlot] at this⊢;omega
 ·have:=xCt 1 s.slots (wU s.slots c.name).toNat noSlot;have h0:=h.u1;show jA 1 (s.slots.set _ noSlot)<=b;simp[noSlot] at this⊢;omega
theorem cp_put {s:StS} {S:List Bs} {a b:Nat} (hi:Inv s S) (h:Cp s a b) {c:Ch} (hg:c.gone=false) (h1:1<=c.name.length) (h2:c.name.length<=24) (hd:c.data.length<=1024) (ha:a<24) (hb:b+yJ c.data<=12) (hs:a+b<32):kE s c=0/\Cp (jC s c) (a+1) (b+yJ c.data)/\(jC s c).writes.length=s.writes.length+(5+12*yJ c.data):=by
 have hpl:¬qY s.slots c.name<0:=by
  unfold qY;split
  ·rcases pF (λt:Slot=>!t.used) s.slots with ⟨_,g2⟩|⟨k,t,g1,_,_,_⟩
   ·obtain⟨t,ht,e⟩:=xPc s.slots (λt ht htu=>(hi.ok t ht htu).cls) (by have:=hi.slen;have:=h.u0;have:=h.u1;omega);have:=g2 t ht;rw[e] at this;cases this
   ·rw[g1];omega
  ·assumption
 have hc:=xGa c.data
 have hfr:(s.free (yJ c.data)).length≠0:=by
  unfold StS.free;have:=h.f0;have:=h.f1;split<;>omega
 refine⟨by unfold kE;rw[Ag ω,hg,Ag σ,Ag ω,Ag hpl,Ag hfr],?_,?_⟩
 ·have hx:jC s c=putAt {wH s (yJ c.data) with writes:=(wH s (yJ c.data)).writes++vI (yJ c.data) ((s.free (yJ c.data)).getD 0 0) c.data} (qY s.slots c.name).toNat (zH c ((s.free (yJ c.data)).getD 0 0)):=by
   unfold jC;rw[hg,Ag σ]
  rw[hx];have hpo:=xSr hfr;generalize (s.free (yJ c.data)).getD 0 0=bk;refine⟨?_,?_,?_,?_⟩
  ·have:=xCt 0 s.slots (qY s.slots c.name).toNat (zH c bk);have h0:=h.u0;show jA 0 ((wH s (yJ c.data)).slots.set _ _)<=a+1;rw[tO];split at this<;>omega
  ·have:=xCt 1 s.slots (qY s.slots c.name).toNat (zH c bk);have h0:=h.u1;show jA 1 ((wH s (yJ c.data)).slots.set _ _)<=b+yJ c.data;rw[tO];have e:(zH c bk).cls=yJ c.data:=rfl;have e2:(zH c bk).used=true:=rfl;rw[e,e2] at this
   rcases(show yJ c.data=0∨yJ c.data=1 by omega) with e3|e3<;>rw[e3] at this⊢<;>simp at this<;>omega
  ·show 24<=(wH s (yJ c.data)).jG.length+(a+1);have:=h.f0;unfold wH StS.free at*;split at hpo<;>split<;>first|omega|(simp_all;omega)|simp_all
  ·show 12<=(wH s (yJ c.data)).xCf.length+(b+yJ c.data);have:=h.f1;unfold wH StS.free at*;split at hpo<;>split<;>first|omega|(simp_all;omega)|simp_all
 ·rw[xCj];unfold xOz;rw[hg,Ag σ];have:(vI (yJ c.data) ((s.free (yJ c.data)).getD 0 0) c.data).length=countP (yJ c.data):=by simp[vI]
  rw[Aj,Aj,this];rcases(show yJ c.data=0∨yJ c.data=1 by omega) with e3|e3<;>rw[e3]<;>simp[countP]
def xU7:(Bs->Option Bs)->List Ch->Prop
 |_,[]=>True
 |m,c::l=>1<=c.name.length/\c.name.length<=24/\(if c.gone=true then m c.name≠none else c.data.length<=1024)/\xU7 (jS m c) l
theorem xTt:∀(l:List Ch) (s:StS) (S:List Bs) (a b:Nat),Inv s S->Cp s a b->xU7 (wT s.slots S) l->a+l.length<=24->b+xTy l<=12->a+l.length+b+xTy l<=32->
  (zF s l).2=0/\Cp (zF s l).1 (a+l.length) (b+xTy l)/\(zF s l).1.writes.length=s.writes.length+wlL l
 |[],s,S,a,b,_,h,_,_,_,_=>⟨rfl,h,rfl⟩
 |c::l,s,S,a,b,hi,h,hg,ha,hb,hs=>by
  have ebig:xTy (c::l)=xWc c+xTy l:=by simp[xTy]
  have ewl:wlL (c::l)=wlC c+wlL l:=by simp[wlL]
  rw[ebig] at hb hs⊢;rw[ewl];rw[Bl] at ha hs⊢;obtain⟨g1,g2,g3,g4⟩:=hg;cases hc:c.gone with
  |true=>
   rw[Ah hc] at g3;have e1:xWc c=0:=by unfold xWc;rw[Ah hc]
   have e2:wlC c=1:=by unfold wlC;rw[Ah hc]
   obtain⟨q1,q2,q3⟩:=yM2 h hc g1 g2 g3;obtain⟨i1,i2⟩:=xNz hi q1;have i3:wT (jC s c).slots (xZ S (xOz s c))=jS (wT s.slots S) c:=funext i2;obtain⟨r1,r2,r3⟩:=xTt l (jC s c) _ a b i1 q2 (by rw[i3];exact g4) ω ω ω;unfold zF;rw[Ah q1];refine⟨r1,⟨?_,?_,?_,?_⟩,by rw[r3,q3];omega⟩
   ·have:=r2.u0;omega
   ·have:=r2.u1;omega
   ·have:=r2.f0;omega
   ·have:=r2.f1;omega
  |false=>
   rw[hc,Ag σ] at g3;have e1:xWc c=yJ c.data:=by unfold xWc;rw[hc];rfl
   have e2:wlC c=5+12*yJ c.data:=by unfold wlC;rw[hc];rfl
   rw[e1] at hb hs⊢;obtain⟨q1,q2,q3⟩:=cp_put hi h hc g1 g2 g3 ω ω ω;obtain⟨i1,i2⟩:=xNz hi q1;have i3:wT (jC s c).slots (xZ S (xOz s c))=jS (wT s.slots S) c:=funext i2;obtain⟨r1,r2,r3⟩:=xTt l (jC s c) _ (a+1) (b+yJ c.data) i1 q2 (by rw[i3];exact g4) ω ω ω;unfold zF;rw[Ah q1]
   refine⟨r1,⟨?_,?_,?_,?_⟩,by rw[r3,q3];omega⟩
   ·have:=r2.u0;omega
   ·have:=r2.u1;omega
   ·have:=r2.f0;omega
   ·have:=r2.f1;omega
theorem xSi {d:Dk} (h:Store d) {l:List Ch} {a b:Nat} (h0:jA 0 (uZ d)<=a) (h1:jA 1 (uZ d)<=b) (hg:xU7 (vH d) l) (ha:a+l.length<=24) (hb:b+xTy l<=12) (hs:a+l.length+b+xTy l<=32) (hw:wlL l<=30):
  uY d l=0/\(yX d l).length=wlL l/\jA 0 (zF (stS d) l).1.slots<=a+l.length/\jA 1 (zF (stS d) l).1.slots<=b+xTy l:=by
 obtain⟨r1,r2,r3⟩:=xTt l (stS d) _ a b h.inv (yHu h0 h1) hg ha hb hs;have r3':(zF (stS d) l).1.writes.length=wlL l:=by rw[r3];simp[stS]
 have he:uY d l=0:=by unfold uY;rw[Ah h.cont,Ah r1,Ag ω]
 exact⟨he,by unfold yX;rw[Ah he];exact r3',r2.u0,r2.u1⟩
end Mailsack
namespace Go.Proofs.SV
open Go.RowKit MM
structure Tn (P:Nat->Prop) (w w':World):Prop where
 os:w'.os=w.os
 tape:w'.tape=w.tape
 output:w'.output=w.output
 size:w.heap.size<=w'.heap.size
 block:∀k,k<w.heap.size->¬P k->w'.heap[k]?=w.heap[k]?
section
variable {P:Nat->Prop} {a b c:World}
theorem Tn.refl (P:Nat->Prop) (w:World):Tn P w w:=⟨rfl,rfl,rfl,Bd _,λ_ _ _=>rfl⟩
theorem Tn.trans (h:Tn P a b) (k:Tn P b c):Tn P a c:=
 ⟨k.os.trans h.os,k.tape.trans h.tape,k.output.trans h.output,Bg h.size k.size,λi hi hp=>(k.block i (Bt hi h.size) hp).trans (h.block i hi hp)⟩
theorem Tn.of (h:ψ a b):Tn P a b:=⟨h.os,h.tape,h.output,h.size,λi hi _=>h.block i hi⟩
theorem Tn.call (h:Tn P a b) (k:ψ b c):Tn P a c:=h.trans (Tn.of k)
theorem Tn.set (h:Tn P a b) {p:Addr} (hp:P p.block∨a.heap.size<=p.block) (u:Value):Tn P a (b.setCell p u):=
 ⟨h.os,h.tape,h.output,by rw[size_set];exact h.size,λi hi hq=>by
  rw[Gs b p u i (λe=>by subst e;rcases hp with hp|hp;exact hq hp;omega)];exact h.block i hi hq⟩
theorem Tn.alloc (h:Tn P a b) (o:Obj):Tn P a (b.alloc o):=h.call ((Aq _ b).alloc ν o)
theorem Tn.drew (h:Tn P a b):Tn P a b.drew:=⟨h.os,h.tape,h.output,h.size,h.block⟩
theorem Tn.below {B:Nat} (h:Tn P a b) (hP:∀k,P k->B<=k) (hB:B<=a.heap.size):Below B a b:=
 ⟨h.os,h.tape,h.output,h.size,λi hi=>h.block i (Bt hi hB) (λhp=>by have:=hP i hp;omega)⟩
theorem Tn.blk (h:Tn P a b) {k:Nat} {o:Obj} (hk:a.heap[k]?=some o) (hp:¬P k):b.heap[k]?=some o:=(h.block k (xH hk) hp).trans hk
theorem Tn.more {P':Nat->Prop} (h:Tn P a b) (hP:∀k,P k->P' k):Tn P' a b:=⟨h.os,h.tape,h.output,h.size,λi hi hp=>h.block i hi (λq=>hp (hP i q))⟩
end
def yE (b:Nat):Nat->List Value->World->World
 |_,[],W=>W
 |i,a::l,W=>yE b (i+1) l (W.setCell (θ b i) a)
theorem yH {b g:Nat} {o:Obj} (hne:g≠b):∀(l:List Value) (i:Nat) (W:World),W.heap[g]?=some o->(yE b i l W).heap[g]?=some o
 |[],_,_,h=>h
 |_::l,i,_,h=>yH hne l (i+1) _ (yA h (p:=θ b i) hne _)
theorem xJ2 {P:Nat->Prop} {a:World} {b:Nat} (hb:P b∨a.heap.size<=b):∀(l:List Value) (i:Nat) (W:World),Tn P a W->Tn P a (yE b i l W)
 |[],_,_,h=>h
 |_::l,i,_,h=>xJ2 hb l (i+1) _ (h.set (p:=θ b i) hb _)
theorem zG {B:Nat} {a:World} {b:Nat} (hb:B<=b):∀(l:List Value) (i:Nat) (W:World),Below B a W->Below B a (yE b i l W)
 |[],_,_,h=>h
 |_::l,i,_,h=>zG hb l (i+1) _ (h.setCell (p:=θ b i) hb _)
theorem xDx {b:Nat} {t:TypeId}:∀(l:List Value) (i:Nat) (W:World) (cs:Array Value),W.heap[b]?=some (.cells cs t (0,0))->i+l.length<=cs.size->
  (yE b i l W).heap[b]?=some (.cells (cs.toList.take i++l++cs.toList.drop (i+l.length)).toArray t (0,0))
 |[],i,W,cs,h,_=>by
  unfold yE;rw[h];simp
 |a::l,i,W,cs,h,hi=>by
  simp only[Bl] at hi;have h1:=yD h i a;have h2:=xDx l (i+1) _ _ h1 (by simp;omega);unfold yE;rw[h2]
  congr 2
  apply Ap;apply Dt;intro j;simp only[Ha,List.getElem?_append,Ck,Bf,Cu,Ea,Fx,Co,Aj,Bl]
  by_cases h1:j<i
  ·rw[Ah ω,Ah ω,Ah ω,Ag ω,Ah ω,Ah ω,Ah ω]
  ·by_cases h2:j=i
   ·subst h2;rw[Ah ω,Ah ω,Ah ω,Ah rfl,Ah ω,Ah ω,Ag ω,show j-min j cs.size=0 by omega]
    rfl
   ·by_cases h3:j<i+1+l.length
    ·rw[Ah ω,Ag ω,Ah ω,Ag ω,show j-min i cs.size=(j-min (i+1) cs.size)+1 by omega,List.getElem?_cons_succ]
    ·rw[Ag ω,Ag ω,Ag ω]
     congr 1
     omega
theorem vC {b:Nat} {t:TypeId} {l:List Value} {W:World} {cs:Array Value} (h:W.heap[b]?=some (.cells cs t (0,0))) (hl:l.length=cs.size):(yE b 0 l W).heap[b]?=some (.cells l.toArray t (0,0)):=by
 rw[xDx l 0 W cs h ω,show 0+l.length=cs.toList.length by simp[hl]];simp
theorem _root_.xMk {W a:World} {b B:Nat} {t:TypeId} {c0 c1:Value} (ho:W.heap[b]?=some (.cells #[c0,c1] t (0,0))) (hb:Below B a W) (hB:B<=b) (v0 v1:Value) (U:World) (h:U=(W.setCell ⟨b,0,none⟩ v0).setCell ⟨b,1,none⟩ v1):W.cell? ⟨b,0,none⟩=some c0/\W.frozen? ⟨b,0,none⟩=false/\U.cell? ⟨b,0,none⟩=some v0/\W.cell? ⟨b,1,none⟩=some c1/\W.frozen? ⟨b,1,none⟩=false/\U.cell? ⟨b,1,none⟩=some v1/\Hid (Below B a U):=by
 subst h;have hs:=vC (b:=b) (l:=[v0,v1]) ho rfl;exact⟨xA ho 0,xG ho 0,xA hs 0,xA ho 1,xG ho 1,xA hs 1,ι (zG hB [v0,v1] 0 _ hb)⟩
theorem _root_.xP2 {W a:World} {b B:Nat} {t:TypeId} {c0 c1 c2:Value} (ho:W.heap[b]?=some (.cells #[c0,c1,c2] t (0,0))) (hb:Below B a W) (hB:B<=b) (v0 v1 v2:Value) (U:World) (h:U=((W.setCell ⟨b,0,none⟩ v0).setCell ⟨b,1,none⟩ v1).setCell ⟨b,2,none⟩ v2):W.cell? ⟨b,0,none⟩=some c0/\W.frozen? ⟨b,0,none⟩=false/\U.cell? ⟨b,0,none⟩=some v0/\W.cell? ⟨b,1,none⟩=some c1/\W.frozen? ⟨b,1,none⟩=false/\U.cell? ⟨b,1,none⟩=some v1/\W.cell? ⟨b,2,none⟩=some c2/\W.frozen? ⟨b,2,none⟩=false/\U.cell? ⟨b,2,none⟩=some v2/\Hid (Below B a U):=by
 subst h;have hs:=vC (b:=b) (l:=[v0,v1,v2]) ho rfl;exact⟨xA ho 0,xG ho 0,xA hs 0,xA ho 1,xG ho 1,xA hs 1,xA ho 2,xG ho 2,xA hs 2,ι (zG hB [v0,v1,v2] 0 _ hb)⟩
theorem _root_.cpl4 {W a:World} {b B:Nat} {t:TypeId} {c0 c1 c2 c3:Value} (ho:W.heap[b]?=some (.cells #[c0,c1,c2,c3] t (0,0))) (hb:Below B a W) (hB:B<=b) (v0 v1 v2 v3:Value) (U:World) (h:U=(((W.setCell ⟨b,0,none⟩ v0).setCell ⟨b,1,none⟩ v1).setCell ⟨b,2,none⟩ v2).setCell ⟨b,3,none⟩ v3):W.cell? ⟨b,0,none⟩=some c0/\W.frozen? ⟨b,0,none⟩=false/\U.cell? ⟨b,0,none⟩=some v0/\W.cell? ⟨b,1,none⟩=some c1/\W.frozen? ⟨b,1,none⟩=false/\U.cell? ⟨b,1,none⟩=some v1/\W.cell? ⟨b,2,none⟩=some c2/\W.frozen? ⟨b,2,none⟩=false/\U.cell? ⟨b,2,none⟩=some v2/\W.cell? ⟨b,3,none⟩=some c3/\W.frozen? ⟨b,3,none⟩=false/\U.cell? ⟨b,3,none⟩=some v3/\Hid (Below B a U):=by
 subst h;have hs:=vC (b:=b) (l:=[v0,v1,v2,v3]) ho rfl;exact⟨xA ho 0,xG ho 0,xA hs 0,xA ho 1,xG ho 1,xA hs 1,xA ho 2,xG ho 2,xA hs 2,xA ho 3,xG ho 3,xA hs 3,ι (zG hB [v0,v1,v2,v3] 0 _ hb)⟩
theorem _root_.yHt {W a:World} {b B:Nat} {t:TypeId} {c0 c1 c2 c3 c4:Value} (ho:W.heap[b]?=some (.cells #[c0,c1,c2,c3,c4] t (0,0))) (hb:Below B a W) (hB:B<=b) (v0 v1 v2 v3 v4:Value) (U:World) (h:U=((((W.setCell ⟨b,0,none⟩ v0).setCell ⟨b,1,none⟩ v1).setCell ⟨b,2,none⟩ v2).setCell ⟨b,3,none⟩ v3).setCell ⟨b,4,none⟩ v4):W.cell? ⟨b,0,none⟩=some c0/\W.frozen? ⟨b,0,none⟩=false/\U.cell? ⟨b,0,none⟩=some v0/\W.cell? ⟨b,1,none⟩=some c1/\W.frozen? ⟨b,1,none⟩=false/\U.cell? ⟨b,1,none⟩=some v1/\W.cell? ⟨b,2,none⟩=some c2/\W.frozen? ⟨b,2,none⟩=false/\U.cell? ⟨b,2,none⟩=some v2/\W.cell? ⟨b,3,none⟩=some c3/\W.frozen? ⟨b,3,none⟩=false/\U.cell? ⟨b,3,none⟩=some v3/\W.cell? ⟨b,4,none⟩=some c4/\W.frozen? ⟨b,4,none⟩=false/\U.cell? ⟨b,4,none⟩=some v4/\Hid (Below B a U):=by
 subst h;have hs:=vC (b:=b) (l:=[v0,v1,v2,v3,v4]) ho rfl;exact⟨xA ho 0,xG ho 0,xA hs 0,xA ho 1,xG ho 1,xA hs 1,xA ho 2,xG ho 2,xA hs 2,xA ho 3,xG ho 3,xA hs 3,xA ho 4,xG ho 4,xA hs 4,ι (zG hB [v0,v1,v2,v3,v4] 0 _ hb)⟩
theorem _root_.cpl7 {W a:World} {b B:Nat} {t:TypeId} {c0 c1 c2 c3 c4 c5 c6:Value} (ho:W.heap[b]?=some (.cells #[c0,c1,c2,c3,c4,c5,c6] t (0,0))) (hb:Below B a W) (hB:B<=b) (v0 v1 v2 v3 v4 v5 v6:Value) (U:World) (h:U=((((((W.setCell ⟨b,0,none⟩ v0).setCell ⟨b,1,none⟩ v1).setCell ⟨b,2,none⟩ v2).setCell ⟨b,3,none⟩ v3).setCell ⟨b,4,none⟩ v4).setCell ⟨b,5,none⟩ v5).setCell ⟨b,6,none⟩ v6):W.cell? ⟨b,0,none⟩=some c0/\W.frozen? ⟨b,0,none⟩=false/\U.cell? ⟨b,0,none⟩=some v0/\W.cell? ⟨b,1,none⟩=some c1/\W.frozen? ⟨b,1,none⟩=false/\U.cell? ⟨b,1,none⟩=some v1/\W.cell? ⟨b,2,none⟩=some c2/\W.frozen? ⟨b,2,none⟩=false/\U.cell? ⟨b,2,none⟩=some v2/\W.cell? ⟨b,3,none⟩=some c3/\W.frozen? ⟨b,3,none⟩=false/\U.cell? ⟨b,3,none⟩=some v3/\W.cell? ⟨b,4,none⟩=some c4/\W.frozen? ⟨b,4,none⟩=false/\U.cell? ⟨b,4,none⟩=some v4/\W.cell? ⟨b,5,none⟩=some c5/\W.frozen? ⟨b,5,none⟩=false/\U.cell? ⟨b,5,none⟩=some v5/\W.cell? ⟨b,6,none⟩=some c6/\W.frozen? ⟨b,6,none⟩=false/\U.cell? ⟨b,6,none⟩=some v6/\Hid (Below B a U):=by
 subst h;have hs:=vC (b:=b) (l:=[v0,v1,v2,v3,v4,v5,v6]) ho rfl;exact⟨xA ho 0,xG ho 0,xA hs 0,xA ho 1,xG ho 1,xA hs 1,xA ho 2,xG ho 2,xA hs 2,xA ho 3,xG ho 3,xA hs 3,xA ho 4,xG ho 4,xA hs 4,xA ho 5,xG ho 5,xA hs 5,xA ho 6,xG ho 6,xA hs 6,ι (zG hB [v0,v1,v2,v3,v4,v5,v6] 0 _ hb)⟩
theorem _root_.xZd {W a:World} {b B:Nat} {t:TypeId} {c0 c1 c2 c3 c4 c5 c6 c7:Value} (ho:W.heap[b]?=some (.cells #[c0,c1,c2,c3,c4,c5,c6,c7] t (0,0))) (hb:Below B a W) (hB:B<=b) (v0 v1 v2 v3 v4 v5 v6 v7:Value) (U:World) (h:U=(((((((W.setCell ⟨b,0,none⟩ v0).setCell ⟨b,1,none⟩ v1).setCell ⟨b,2,none⟩ v2).setCell ⟨b,3,none⟩ v3).setCell ⟨b,4,none⟩ v4).setCell ⟨b,5,none⟩ v5).setCell ⟨b,6,none⟩ v6).setCell ⟨b,7,none⟩ v7):W.cell? ⟨b,0,none⟩=some c0/\W.frozen? ⟨b,0,none⟩=false/\U.cell? ⟨b,0,none⟩=some v0/\W.cell? ⟨b,1,none⟩=some c1/\W.frozen? ⟨b,1,none⟩=false/\U.cell? ⟨b,1,none⟩=some v1/\W.cell? ⟨b,2,none⟩=some c2/\W.frozen? ⟨b,2,none⟩=false/\U.cell? ⟨b,2,none⟩=some v2/\W.cell? ⟨b,3,none⟩=some c3/\W.frozen? ⟨b,3,none⟩=false/\U.cell? ⟨b,3,none⟩=some v3/\W.cell? ⟨b,4,none⟩=some c4/\W.frozen? ⟨b,4,none⟩=false/\U.cell? ⟨b,4,none⟩=some v4/\W.cell? ⟨b,5,none⟩=some c5/\W.frozen? ⟨b,5,none⟩=false/\U.cell? ⟨b,5,none⟩=some v5/\W.cell? ⟨b,6,none⟩=some c6/\W.frozen? ⟨b,6,none⟩=false/\U.cell? ⟨b,6,none⟩=some v6/\W.cell? ⟨b,7,none⟩=some c7/\W.frozen? ⟨b,7,none⟩=false/\U.cell? ⟨b,7,none⟩=some v7/\Hid (Below B a U):=by
 subst h;have hs:=vC (b:=b) (l:=[v0,v1,v2,v3,v4,v5,v6,v7]) ho rfl
 exact⟨xA ho 0,xG ho 0,xA hs 0,xA ho 1,xG ho 1,xA hs 1,xA ho 2,xG ho 2,xA hs 2,xA ho 3,xG ho 3,xA hs 3,xA ho 4,xG ho 4,xA hs 4,xA ho 5,xG ho 5,xA hs 5,xA ho 6,xG ho 6,xA hs 6,xA ho 7,xG ho 7,xA hs 7,ι (zG hB [v0,v1,v2,v3,v4,v5,v6,v7] 0 _ hb)⟩
end Go.Proofs.SV
namespace Go.Proofs
open Go.Shelf
open Go.RowKit in
def Tryz.lays169_ren:Go.Shelf.Ren:=⟨fun|169=>41|n=>n,fun|70=>95|9=>9|0=>0|72=>98|37=>96|127=>161|3=>3|5=>5|n=>n,fun|n=>n⟩
theorem Tryz.lays169:Go.Proofs.Lays.n169 prog Tryz.lays169_ren:={
 mixed:=κ
 f169:=func41.trans (Ap some κ)
 t0:=underlying0
 a0:=isAgg0
 z0:=sizeOf0
 v0:=zeroValue0
 t3:=underlying3
 a3:=isAgg3
 z3:=sizeOf3
 v3:=zeroValue3
 t9:=underlying9
 a9:=isAgg9
 z9:=sizeOf9
 v9:=zeroValue9
 t37:=underlying96
 a37:=isAgg96
 z37:=sizeOf96
 v37:=zeroValue96
 t70:=underlying95
 a70:=isAgg95
 z70:=sizeOf95
 v70:=zeroValue95
 t72:=underlying98
 a72:=isAgg98
 z72:=sizeOf98
 v72:=zeroValue98
 t127:=underlying161
 a127:=isAgg161
 z127:=sizeOf161
 v127:=zeroValue161}
theorem Tryz.Builder_Extra_169:Builder.Extra prog Tryz.lays169_ren:={
 sizeBuilder:=κ
 liesBuilder:=κ
 t5:=underlying5
 a5:=isAgg5
 z5:=sizeOf5
 v5:=zeroValue5
 infoByte:=κ
 cellsByte:=κ
 sizeByte:=κ
 neB5:=δ}
open Go.RowKit in
def Tryz.lays156_ren:Go.Shelf.Ren:=⟨fun|156=>65|165=>108|166=>37|169=>41|240=>85|241=>156|276=>131|277=>198|n=>n,fun|31=>24|9=>9|3=>3|4=>4|0=>0|20=>20|72=>98|76=>101|70=>95|37=>96|75=>100|127=>161|164=>204|5=>5|80=>108|n=>n,fun|n=>n⟩
theorem Tryz.lays156:Go.Proofs.Lays.n156 prog Tryz.lays156_ren:={
 mixed:=κ
 f156:=func65.trans (Ap some κ)
 f165:=func108.trans (Ap some κ)
 f166:=func37.trans (Ap some κ)
 f169:=func41.trans (Ap some κ)
 f240:=func85.trans (Ap some κ)
 f241:=func156.trans (Ap some κ)
 f276:=func131.trans (Ap some κ)
 f277:=func198.trans (Ap some κ)
 t0:=underlying0
 a0:=isAgg0
 z0:=sizeOf0
 v0:=zeroValue0
 t3:=underlying3
 a3:=isAgg3
 z3:=sizeOf3
 v3:=zeroValue3
 t4:=underlying4
 a4:=isAgg4
 z4:=sizeOf4
 v4:=zeroValue4
 t9:=underlying9
 a9:=isAgg9
 z9:=sizeOf9
 v9:=zeroValue9
 t20:=underlying20
 a20:=isAgg20
 z20:=sizeOf20
 v20:=zeroValue20
 t31:=underlying24
 a31:=isAgg24
 z31:=sizeOf24
 v31:=zeroValue24
 t37:=underlying96
 a37:=isAgg96
 z37:=sizeOf96
 v37:=zeroValue96
 t70:=underlying95
 a70:=isAgg95
 z70:=sizeOf95
 v70:=zeroValue95
 t72:=underlying98
 a72:=isAgg98
 z72:=sizeOf98
 v72:=zeroValue98
 t75:=underlying100
 a75:=isAgg100
 z75:=sizeOf100
 v75:=zeroValue100
 t76:=underlying101
 a76:=isAgg101
 z76:=sizeOf101
 v76:=zeroValue101
 t127:=underlying161
 a127:=isAgg161
 z127:=sizeOf161
 v127:=zeroValue161
 t164:=underlying204
 a164:=isAgg204
 z164:=sizeOf204
 v164:=zeroValue204}
theorem Tryz.Builder_Extra_156:Builder.Extra prog Tryz.lays156_ren:={
 sizeBuilder:=κ
 liesBuilder:=κ
 t5:=underlying5
 a5:=isAgg5
 z5:=sizeOf5
 v5:=zeroValue5
 infoByte:=κ
 cellsByte:=κ
 sizeByte:=κ
 neB5:=δ}
open Go.RowKit in
theorem Tryz.strings_Join (bk o c:Nat) (xs:List ByteArray) (sep:ByteArray) (w:World) (hcells:∀(j:Nat) x,xs[j]?=some x->w.cell? (θ bk (o+j))=some (.string x)) (hbk:bk<w.heap.size) (hN:xs.length<=140737488355328) (hcap:xs.length<=c) (hlen:(Lib.join (xs.map (·.data.toList)) sep.data.toList).length<=140737488355328):
  Calls prog 65 #[.slice (some (θ bk o)) xs.length c,.string sep] w (pv (.string ⟨(Lib.join (xs.map (·.data.toList)) sep.data.toList).toArray⟩) w):=Any.strings_Join Tryz.lays156 Tryz.Builder_Extra_156 bk o c xs sep w hcells hbk hN hcap hlen
open Go.RowKit in
def Tryz.lays103_ren:Go.Shelf.Ren:=⟨fun|103=>55|210=>101|206=>144|n=>n,fun|9=>9|4=>4|24=>123|3=>3|n=>n,fun|n=>n⟩
theorem Tryz.lays103:Go.Proofs.Lays.n103 prog Tryz.lays103_ren:={
 mixed:=κ
 f103:=func55.trans (Ap some κ)
 f206:=func144.trans (Ap some κ)
 f210:=func101.trans (Ap some κ)
 t3:=underlying3
 a3:=isAgg3
 z3:=sizeOf3
 v3:=zeroValue3
 t4:=underlying4
 a4:=isAgg4
 z4:=sizeOf4
 v4:=zeroValue4
 t9:=underlying9
 a9:=isAgg9
 z9:=sizeOf9
 v9:=zeroValue9
 t24:=underlying123
 a24:=isAgg123
 z24:=sizeOf123
 v24:=zeroValue123}
open Go.RowKit in
theorem Tryz.strings_CutPrefix (s p:ByteArray) (w:World):
  Calls prog 55 #[.string s,.string p] w λe w'=>e=.returned (.tuple #[.string ⟨(Lib.trimPrefix s.data.toList p.data.toList).toArray⟩,.bool (Lib.hasPrefix s.data.toList p.data.toList)])/\w'=w:=Any.strings_CutPrefix Tryz.lays103 s p w
open Go.RowKit in
theorem Tryz.Builder_String_k (B b:Nat) (l:List UInt8) (w:World) (h:Lib.IsBuilderF 98 5 B b (Lib.byteCells l) w) (h0:l≠[]):
  Calls prog 41 #[.pointer (some (θ b 0))] w λe w'=>e=.returned (.string ⟨l.toArray⟩)/\(Lib.IsBuilderF 98 5 B b (Lib.byteCells l) w'/\Below B w w'/\Lib.OthersKept 5 (some b) w w'):=Any.Builder_String_k Tryz.lays169 Tryz.Builder_Extra_169 B b l w h h0
open Go.RowKit Go.Sort Go.Lib in
def Tryz.laysM246_ren:Go.Shelf.Ren:=⟨fun|246=>173|283=>207|284=>208|285=>209|286=>210|129=>155|317=>219|318=>220|319=>221|320=>222|337=>224|338=>225|n=>n,fun|2=>2|3=>3|9=>9|4=>4|171=>278|0=>0|53=>186|37=>96|5=>5|173=>280|212=>291|51=>181|20=>20|213=>292|46=>176|232=>228|233=>232|n=>n,fun|17=>4|18=>5|19=>6|n=>n⟩
open Go.RowKit Go.Sort Go.Lib in
def Tryz.laysM243_ren:Go.Shelf.Ren:=⟨fun|243=>126|246=>173|283=>207|284=>208|285=>209|286=>210|129=>155|317=>219|318=>220|319=>221|320=>222|337=>224|338=>225|n=>n,fun|3=>3|9=>9|2=>2|4=>4|171=>278|0=>0|53=>186|37=>96|5=>5|173=>280|212=>291|51=>181|20=>20|213=>292|46=>176|232=>228|233=>232|n=>n,fun|17=>4|18=>5|19=>6|n=>n⟩
open Go.RowKit Go.Sort Go.Lib in
def Tryz.laysM171_ren:Go.Shelf.Ren:=⟨fun|171=>76|243=>126|246=>173|283=>207|284=>208|285=>209|286=>210|129=>155|317=>219|318=>220|319=>221|320=>222|337=>224|338=>225|n=>n,fun|3=>3|9=>9|2=>2|4=>4|171=>278|0=>0|53=>186|37=>96|5=>5|173=>280|212=>291|51=>181|20=>20|213=>292|46=>176|232=>228|233=>232|n=>n,fun|17=>4|18=>5|19=>6|n=>n⟩
theorem Tryz.laysM171:Go.Proofs.LaysM.n171 prog Tryz.laysM171_ren:={
 mixed:=κ
 f129:=func155.trans (Ap some κ)
 f171:=func76.trans (Ap some κ)
 f243:=func126.trans (Ap some κ)
 f246:=func173.trans (Ap some κ)
 f283:=func207.trans (Ap some κ)
 f284:=func208.trans (Ap some κ)
 f285:=func209.trans (Ap some κ)
 f286:=func210.trans (Ap some κ)
 f317:=func219.trans (Ap some κ)
 f318:=func220.trans (Ap some κ)
 f319:=func221.trans (Ap some κ)
 f320:=func222.trans (Ap some κ)
 f337:=func224.trans (Ap some κ)
 f338:=func225.trans (Ap some κ)
 t0:=underlying0
 a0:=isAgg0
 z0:=sizeOf0
 v0:=zeroValue0
 t2:=underlying2
 a2:=isAgg2
 z2:=sizeOf2
 v2:=zeroValue2
 t3:=underlying3
 a3:=isAgg3
 z3:=sizeOf3
 v3:=zeroValue3
 t4:=underlying4
 a4:=isAgg4
 z4:=sizeOf4
 v4:=zeroValue4
 t5:=underlying5
 a5:=isAgg5
 z5:=sizeOf5
 v5:=zeroValue5
 t9:=underlying9
 a9:=isAgg9
 z9:=sizeOf9
 v9:=zeroValue9
 t20:=underlying20
 a20:=isAgg20
 z20:=sizeOf20
 v20:=zeroValue20
 t37:=underlying96
 a37:=isAgg96
 z37:=sizeOf96
 v37:=zeroValue96
 t46:=underlying176
 a46:=isAgg176
 z46:=sizeOf176
 v46:=zeroValue176
 t51:=underlying181
 a51:=isAgg181
 z51:=sizeOf181
 v51:=zeroValue181
 t53:=underlying186
 a53:=isAgg186
 z53:=sizeOf186
 v53:=zeroValue186
 t171:=underlying278
 a171:=isAgg278
 z171:=sizeOf278
 v171:=zeroValue278
 t173:=underlying280
 a173:=isAgg280
 z173:=sizeOf280
 v173:=zeroValue280
 t212:=underlying291
 a212:=isAgg291
 z212:=sizeOf291
 v212:=zeroValue291
 t213:=underlying292
 a213:=isAgg292
 z213:=sizeOf292
 t232:=underlying228
 a232:=isAgg228
 z232:=sizeOf228
 v232:=zeroValue228
 t233:=underlying232
 a233:=isAgg232
 z233:=sizeOf232
 v233:=zeroValue232
 g17:=κ
 g18:=κ
 g19:=κ
 i0:=κ
 i2:=κ
 i3:=κ
 i4:=κ
 i5:=κ
 i9:=κ
 i20:=κ
 i37:=κ
 i46:=κ
 i51:=κ
 i53:=κ
 i171:=κ
 i173:=κ
 i212:=κ
 i232:=κ
 i233:=κ
 m17:=κ
 m18:=κ
 m19:=κ}
open Go.RowKit Go.Sort Go.Lib in
theorem Tryz.strconv_Itoa (n : Int) (h0 : -9223372036854775808 ≤ n) (h1 : n ≤ 9223372036854775807) (w : World) (htab : Lib.TabIs prog w "internal/strconv.uint64pow10" .u64 Lib.pow10Tab) :
  Calls prog 76 #[.int .i64 n] w λe w'=>e=.returned (.string ⟨(Lib.itoa n).toArray⟩)/\∃k os,w'=grow (w.drewN k) os:=Any.strconv_Itoa Tryz.laysM171 n h0 h1 w htab
open Go.RowKit Go.Sort Go.Lib in
def Tryz.laysM316_ren:Go.Shelf.Ren:=⟨fun|316=>182|n=>n,fun|9=>9|3=>3|4=>4|37=>96|0=>0|127=>161|5=>5|n=>n,fun|n=>n⟩
theorem Tryz.laysM316:Go.Proofs.LaysM.n316 prog Tryz.laysM316_ren:={
 mixed:=κ
 f316:=func182.trans (Ap some κ)
 t0:=underlying0
 a0:=isAgg0
 z0:=sizeOf0
 v0:=zeroValue0
 t3:=underlying3
 a3:=isAgg3
 z3:=sizeOf3
 v3:=zeroValue3
 t4:=underlying4
 a4:=isAgg4
 z4:=sizeOf4
 v4:=zeroValue4
 t9:=underlying9
 a9:=isAgg9
 z9:=sizeOf9
 v9:=zeroValue9
 t37:=underlying96
 a37:=isAgg96
 z37:=sizeOf96
 v37:=zeroValue96
 t127:=underlying161
 a127:=isAgg161
 z127:=sizeOf161
 v127:=zeroValue161
 t5:=underlying5
 a5:=isAgg5
 z5:=sizeOf5
 v5:=zeroValue5
 i0:=κ
 i3:=κ
 i4:=κ
 i5:=κ
 i9:=κ
 i37:=κ
 i127:=κ}
open Go.RowKit in
theorem Tryz.stringslite_Clone (s:ByteArray) (w:World) (hlim:s.size<=281474976710656):
  Calls prog 182 #[.string s] w (pv (.string s) w):=Any.stringslite_Clone Tryz.laysM316 s w hlim
def Tryz.lays189_ren:Go.Shelf.Ren:=⟨fun|189=>57|125=>103|257=>102|128=>154|129=>155|294=>145|295=>146|296=>147|297=>148|298=>149|299=>150|216=>151|300=>152|301=>153|328=>192|329=>193|330=>194|331=>195|332=>196|215=>197|343=>215|n=>n,fun|28=>25|3=>3|46=>176|0=>0|51=>181|53=>186|4=>4|183=>220|182=>219|131=>125|5=>5|9=>9|218=>262|222=>266|228=>284|229=>134|n=>n,fun|n=>n⟩
theorem Tryz.lays189:Go.Proofs.Lays.n189 prog Tryz.lays189_ren:={
 mixed:=κ
 f125:=func103.trans (Ap some κ)
 f128:=func154.trans (Ap some κ)
 f129:=func155.trans (Ap some κ)
 f189:=func57.trans (Ap some κ)
 f215:=func197.trans (Ap some κ)
 f216:=func151.trans (Ap some κ)
 f257:=func102.trans (Ap some κ)
 f294:=func145.trans (Ap some κ)
 f295:=func146.trans (Ap some κ)
 f296:=func147.trans (Ap some κ)
 f297:=func148.trans (Ap some κ)
 f298:=func149.trans (Ap some κ)
 f299:=func150.trans (Ap some κ)
 f300:=func152.trans (Ap some κ)
 f301:=func153.trans (Ap some κ)
 f328:=func192.trans (Ap some κ)
 f329:=func193.trans (Ap some κ)
 f330:=func194.trans (Ap some κ)
 f331:=func195.trans (Ap some κ)
 f332:=func196.trans (Ap some κ)
 f343:=func215.trans (Ap some κ)
 t0:=underlying0
 a0:=isAgg0
 z0:=sizeOf0
 v0:=zeroValue0
 t3:=underlying3
 a3:=isAgg3
 z3:=sizeOf3
 v3:=zeroValue3
 t4:=underlying4
 a4:=isAgg4
 z4:=sizeOf4
 v4:=zeroValue4
 t5:=underlying5
 a5:=isAgg5
 z5:=sizeOf5
 v5:=zeroValue5
 t9:=underlying9
 a9:=isAgg9
 z9:=sizeOf9
 v9:=zeroValue9
 t28:=underlying25
 a28:=isAgg25
 z28:=sizeOf25
 v28:=zeroValue25
 t46:=underlying176
 a46:=isAgg176
 z46:=sizeOf176
 v46:=zeroValue176
 t51:=underlying181
 a51:=isAgg181
 z51:=sizeOf181
 v51:=zeroValue181
 t53:=underlying186
 a53:=isAgg186
 z53:=sizeOf186
 v53:=zeroValue186
 t131:=underlying125
 a131:=isAgg125
 z131:=sizeOf125
 v131:=zeroValue125
 t182:=underlying219
 a182:=isAgg219
 z182:=sizeOf219
 v182:=zeroValue219
 t183:=underlying220
 a183:=isAgg220
 z183:=sizeOf220
 v183:=zeroValue220
 t218:=underlying262
 a218:=isAgg262
 z218:=sizeOf262
 v218:=zeroValue262
 t222:=underlying266
 a222:=isAgg266
 z222:=sizeOf266
 v222:=zeroValue266
 t228:=underlying284
 a228:=isAgg284
 z228:=sizeOf284
 v228:=zeroValue284
 t229:=underlying134
 a229:=isAgg134
 z229:=sizeOf134
 v229:=zeroValue134}
open Go.Sort Go.RowKit in
theorem Tryz.slices_Sort_int (blk off cap:Nat) (zs:List Int) (w:World) (hH:Holds (Value.int .i64) w blk off zs.toArray) (hblk:blk<w.heap.size) (hsz:zs.length<4611686018427387904):
  Calls prog 57 #[.slice (some (θ blk off)) zs.length cap] w λe w'=>
   e=.returned (.tuple #[])/\∃n os,w'=grow (putRow (Value.int .i64) (Sort.ahead w n) blk off (zs.mergeSort λx y=>decide (x<=y)).toArray) os:=Any.slices_Sort_int Tryz.lays189 blk off cap zs w hH hblk hsz
def Tryz.lays190_ren:Go.Shelf.Ren:=⟨fun|190=>99|125=>103|258=>143|128=>154|129=>155|302=>183|303=>184|304=>185|305=>186|306=>187|307=>188|308=>189|309=>190|310=>191|333=>211|329=>193|330=>194|334=>212|335=>213|336=>214|344=>223|n=>n,fun|31=>24|9=>9|3=>3|46=>176|0=>0|51=>181|53=>186|4=>4|183=>220|182=>219|131=>125|5=>5|218=>262|222=>266|228=>284|229=>134|n=>n,fun|n=>n⟩
theorem Tryz.lays190:Go.Proofs.Lays.n190 prog Tryz.lays190_ren:={
 mixed:=κ
 f125:=func103.trans (Ap some κ)
 f128:=func154.trans (Ap some κ)
 f129:=func155.trans (Ap some κ)
 f190:=func99.trans (Ap some κ)
 f258:=func143.trans (Ap some κ)
 f302:=func183.trans (Ap some κ)
 f303:=func184.trans (Ap some κ)
 f304:=func185.trans (Ap some κ)
 f305:=func186.trans (Ap some κ)
 f306:=func187.trans (Ap some κ)
 f307:=func188.trans (Ap some κ)
 f308:=func189.trans (Ap some κ)
 f309:=func190.trans (Ap some κ)
 f310:=func191.trans (Ap some κ)
 f329:=func193.trans (Ap some κ)
 f330:=func194.trans (Ap some κ)
 f333:=func211.trans (Ap some κ)
 f334:=func212.trans (Ap some κ)
 f335:=func213.trans (Ap some κ)
 f336:=func214.trans (Ap some κ)
 f344:=func223.trans (Ap some κ)
 t0:=underlying0
 a0:=isAgg0
 z0:=sizeOf0
 v0:=zeroValue0
 t3:=underlying3
 a3:=isAgg3
 z3:=sizeOf3
 v3:=zeroValue3
 t4:=underlying4
 a4:=isAgg4
 z4:=sizeOf4
 v4:=zeroValue4
 t5:=underlying5
 a5:=isAgg5
 z5:=sizeOf5
 v5:=zeroValue5
 t9:=underlying9
 a9:=isAgg9
 z9:=sizeOf9
 v9:=zeroValue9
 t31:=underlying24
 a31:=isAgg24
 z31:=sizeOf24
 v31:=zeroValue24
 t46:=underlying176
 a46:=isAgg176
 z46:=sizeOf176
 v46:=zeroValue176
 t51:=underlying181
 a51:=isAgg181
 z51:=sizeOf181
 v51:=zeroValue181
 t53:=underlying186
 a53:=isAgg186
 z53:=sizeOf186
 v53:=zeroValue186
 t131:=underlying125
 a131:=isAgg125
 z131:=sizeOf125
 v131:=zeroValue125
 t182:=underlying219
 a182:=isAgg219
 z182:=sizeOf219
 v182:=zeroValue219
 t183:=underlying220
 a183:=isAgg220
 z183:=sizeOf220
 v183:=zeroValue220
 t218:=underlying262
 a218:=isAgg262
 z218:=sizeOf262
 v218:=zeroValue262
 t222:=underlying266
 a222:=isAgg266
 z222:=sizeOf266
 v222:=zeroValue266
 t228:=underlying284
 a228:=isAgg284
 z228:=sizeOf284
 v228:=zeroValue284
 t229:=underlying134
 a229:=isAgg134
 z229:=sizeOf134
 v229:=zeroValue134}
open Go.Sort Go.RowKit in
theorem Tryz.slices_Sort_string (blk off cap:Nat) (ss:List (List UInt8)) (w:World) (hH:Holds encStr w blk off ss.toArray) (hblk:blk<w.heap.size) (hsz:ss.length<4611686018427387904):
  Calls prog 99 #[.slice (some (θ blk off)) ss.length cap] w λe w'=>
   e=.returned (.tuple #[])/\∃n os,w'=grow (putRow encStr (Sort.ahead w n) blk off (ss.mergeSort λx y=>decide (x<=y)).toArray) os:=Any.slices_Sort_string Tryz.lays190 blk off cap ss w hH hblk hsz
open Go.RowKit Go.Lib in
def Tryz.lays264_ren:Go.Shelf.Ren:=⟨fun|264=>164|n=>n,fun|53=>186|46=>176|n=>n,fun|n=>n⟩
theorem Tryz.lays264:Go.Proofs.Lays.n264 prog Tryz.lays264_ren:={
 mixed:=κ
 f264:=func164.trans (Ap some κ)
 t46:=underlying176
 a46:=isAgg176
 z46:=sizeOf176
 v46:=zeroValue176
 t53:=underlying186
 a53:=isAgg186
 z53:=sizeOf186
 v53:=zeroValue186}
open Go.RowKit Go.Lib in
theorem Tryz.bits_Mul64 (x y:Nat) (hx:x<18446744073709551616) (hy:y<18446744073709551616) (w:World):
  Calls prog 164 #[.int .u64 x,.int .u64 y] w λe w'=>e=.returned (.tuple #[.int .u64 ((x*y / 18446744073709551616:Nat):Int),.int .u64 ((x*y % 18446744073709551616:Nat):Int)])/\w'=w:=Any.bits_Mul64 Tryz.lays264 x y hx hy w
open Go.RowKit Go.Lib in
def Tryz.lays105_ren:Go.Shelf.Ren:=⟨fun|105=>72|212=>115|99=>116|165=>108|166=>37|170=>117|169=>41|263=>163|264=>164|206=>144|240=>85|241=>156|276=>131|277=>198|n=>n,fun|9=>9|3=>3|4=>4|20=>20|0=>0|46=>176|109=>183|5=>5|72=>98|76=>101|51=>181|146=>237|53=>186|148=>239|70=>95|37=>96|75=>100|127=>161|164=>204|80=>108|n=>n,fun|n=>n⟩
theorem Tryz.lays105:Go.Proofs.Lays.n105 prog Tryz.lays105_ren:={
 mixed:=κ
 f99:=func116.trans (Ap some κ)
 f105:=func72.trans (Ap some κ)
 f165:=func108.trans (Ap some κ)
 f166:=func37.trans (Ap some κ)
 f169:=func41.trans (Ap some κ)
 f170:=func117.trans (Ap some κ)
 f206:=func144.trans (Ap some κ)
 f212:=func115.trans (Ap some κ)
 f240:=func85.trans (Ap some κ)
 f241:=func156.trans (Ap some κ)
 f263:=func163.trans (Ap some κ)
 f264:=func164.trans (Ap some κ)
 f276:=func131.trans (Ap some κ)
 f277:=func198.trans (Ap some κ)
 t0:=underlying0
 a0:=isAgg0
 z0:=sizeOf0
 v0:=zeroValue0
 t3:=underlying3
 a3:=isAgg3
 z3:=sizeOf3
 v3:=zeroValue3
 t4:=underlying4
 a4:=isAgg4
 z4:=sizeOf4
 v4:=zeroValue4
 t5:=underlying5
 a5:=isAgg5
 z5:=sizeOf5
 v5:=zeroValue5
 t9:=underlying9
 a9:=isAgg9
 z9:=sizeOf9
 v9:=zeroValue9
 t20:=underlying20
 a20:=isAgg20
 z20:=sizeOf20
 v20:=zeroValue20
 t37:=underlying96
 a37:=isAgg96
 z37:=sizeOf96
 v37:=zeroValue96
 t46:=underlying176
 a46:=isAgg176
 z46:=sizeOf176
 v46:=zeroValue176
 t51:=underlying181
 a51:=isAgg181
 z51:=sizeOf181
 v51:=zeroValue181
 t53:=underlying186
 a53:=isAgg186
 z53:=sizeOf186
 v53:=zeroValue186
 t70:=underlying95
 a70:=isAgg95
 z70:=sizeOf95
 v70:=zeroValue95
 t72:=underlying98
 a72:=isAgg98
 z72:=sizeOf98
 v72:=zeroValue98
 t75:=underlying100
 a75:=isAgg100
 z75:=sizeOf100
 v75:=zeroValue100
 t76:=underlying101
 a76:=isAgg101
 z76:=sizeOf101
 v76:=zeroValue101
 t109:=underlying183
 a109:=isAgg183
 z109:=sizeOf183
 v109:=zeroValue183
 t127:=underlying161
 a127:=isAgg161
 z127:=sizeOf161
 v127:=zeroValue161
 t146:=underlying237
 a146:=isAgg237
 z146:=sizeOf237
 v146:=zeroValue237
 t148:=underlying239
 a148:=isAgg239
 z148:=sizeOf239
 v148:=zeroValue239
 t164:=underlying204
 a164:=isAgg204
 z164:=sizeOf204
 v164:=zeroValue204}
theorem Tryz.Builder_Extra_105:Builder.Extra prog Tryz.lays105_ren:={
 sizeBuilder:=κ
 liesBuilder:=κ
 t5:=underlying5
 a5:=isAgg5
 z5:=sizeOf5
 v5:=zeroValue5
 infoByte:=κ
 cellsByte:=κ
 sizeByte:=κ
 neB5:=δ}
open Go.RowKit Go.Lib in
theorem Tryz.strings_Repeat (s:ByteArray) (c:Nat) (w:World) (hc:c<=9223372036854775807) (hlen:s.size*c<=140737488355328):
  Calls prog 72 #[.string s,.int .i64 c] w (pv (.string ⟨(Lib.repeatL s.data.toList c).toArray⟩) w):=Any.strings_Repeat Tryz.lays105 Tryz.Builder_Extra_105 s c w hc hlen
def Tryz.lays194_ren:Go.Shelf.Ren:=⟨fun|194=>100|n=>n,fun|31=>24|9=>9|3=>3|4=>4|0=>0|n=>n,fun|n=>n⟩
theorem Tryz.lays194:Go.Proofs.Lays.n194 prog Tryz.lays194_ren:={
 mixed:=κ
 f194:=func100.trans (Ap some κ)
 t0:=underlying0
 a0:=isAgg0
 z0:=sizeOf0
 v0:=zeroValue0
 t3:=underlying3
 a3:=isAgg3
 z3:=sizeOf3
 v3:=zeroValue3
 t4:=underlying4
 a4:=isAgg4
 z4:=sizeOf4
 v4:=zeroValue4
 t9:=underlying9
 a9:=isAgg9
 z9:=sizeOf9
 v9:=zeroValue9
 t31:=underlying24
 a31:=isAgg24
 z31:=sizeOf24
 v31:=zeroValue24}
open Go.RowKit Go.Lib Go.Sort in
theorem Tryz.slices_Compact_string (blk off cap:Nat) (zs:List (List UInt8)) (w:World) (hH:Holds encStr w blk off zs.toArray) (hsz:zs.length<=9223372036854775807) (hcap:zs.length<=cap):
  Calls prog 100 #[.slice (some (θ blk off)) zs.length cap] w λe w'=>e=.returned (.slice (some (θ blk off)) (Lib.compact zs).length cap)/\∃q,w'=putRow encStr (Sort.ahead w q) blk off (Lib.compact zs++List.replicate (zs.length- (Lib.compact zs).length) []).toArray:=Any.slices_Compact_string Tryz.lays194 blk off cap zs w hH hsz hcap
open Go.RowKit Go.Lib Go.Sort in
theorem Tryz.slices_Compact_string_empty (a:Option Addr) (cap:Nat) (w:World):
  Calls prog 100 #[.slice a 0 cap] w λe w'=>e=.returned (.slice a 0 cap)/\w'=w:=Any.slices_Compact_string_empty Tryz.lays194 a cap w
open Go.RowKit Go.Lib Go.Sort in
def Tryz.laysSlM6_f99_ren:Go.Shelf.Ren:=⟨fun|6=>99|8=>103|9=>143|19=>154|20=>155|21=>183|22=>184|23=>185|24=>186|25=>187|26=>188|27=>189|28=>190|29=>191|36=>211|31=>193|32=>194|37=>212|38=>213|39=>214|41=>223|n=>n,fun|27=>24|29=>9|3=>3|32=>176|26=>24|0=>0|44=>181|46=>186|4=>4|36=>220|35=>219|41=>125|5=>5|9=>9|53=>262|57=>266|63=>284|64=>134|n=>n,fun|n=>n⟩
theorem Tryz.laysSlM6_f99:Go.Proofs.SlLaysM.n6 prog Tryz.laysSlM6_f99_ren:={
 mixed:=κ
 f6:=⟨Tryz.f99.name,δ,func99.trans (Ap some κ)⟩
 f8:=func103.trans (Ap some κ)
 f9:=⟨Tryz.f143.name,δ,func143.trans (Ap some κ)⟩
 f19:=func154.trans (Ap some κ)
 f20:=func155.trans (Ap some κ)
 f21:=⟨Tryz.f183.name,δ,func183.trans (Ap some κ)⟩
 f22:=⟨Tryz.f184.name,δ,func184.trans (Ap some κ)⟩
 f23:=⟨Tryz.f185.name,δ,func185.trans (Ap some κ)⟩
 f24:=⟨Tryz.f186.name,δ,func186.trans (Ap some κ)⟩
 f25:=⟨Tryz.f187.name,δ,func187.trans (Ap some κ)⟩
 f26:=⟨Tryz.f188.name,δ,func188.trans (Ap some κ)⟩
 f27:=⟨Tryz.f189.name,δ,func189.trans (Ap some κ)⟩
 f28:=⟨Tryz.f190.name,δ,func190.trans (Ap some κ)⟩
 f29:=⟨Tryz.f191.name,δ,func191.trans (Ap some κ)⟩
 f31:=func193.trans (Ap some κ)
 f32:=func194.trans (Ap some κ)
 f36:=⟨Tryz.f211.name,δ,func211.trans (Ap some κ)⟩
 f37:=⟨Tryz.f212.name,δ,func212.trans (Ap some κ)⟩
 f38:=⟨Tryz.f213.name,δ,func213.trans (Ap some κ)⟩
 f39:=⟨Tryz.f214.name,δ,func214.trans (Ap some κ)⟩
 f41:=⟨Tryz.f223.name,δ,func223.trans (Ap some κ)⟩
 t0:=underlying0
 a0:=isAgg0
 z0:=sizeOf0
 v0:=zeroValue0
 t3:=underlying3
 a3:=isAgg3
 z3:=sizeOf3
 v3:=zeroValue3
 t4:=underlying4
 a4:=isAgg4
 z4:=sizeOf4
 v4:=zeroValue4
 t5:=underlying5
 a5:=isAgg5
 z5:=sizeOf5
 v5:=zeroValue5
 t9:=underlying9
 a9:=isAgg9
 z9:=sizeOf9
 v9:=zeroValue9
 t26:=underlying24
 a26:=isAgg24
 z26:=sizeOf24
 v26:=zeroValue24
 t27:=underlying24
 a27:=isAgg24
 z27:=sizeOf24
 v27:=zeroValue24
 t29:=underlying9
 a29:=isAgg9
 z29:=sizeOf9
 v29:=zeroValue9
 t32:=underlying176
 a32:=isAgg176
 z32:=sizeOf176
 v32:=zeroValue176
 t35:=underlying219
 a35:=isAgg219
 z35:=sizeOf219
 v35:=zeroValue219
 t36:=underlying220
 a36:=isAgg220
 z36:=sizeOf220
 v36:=zeroValue220
 t41:=underlying125
 a41:=isAgg125
 z41:=sizeOf125
 v41:=zeroValue125
 t44:=underlying181
 a44:=isAgg181
 z44:=sizeOf181
 v44:=zeroValue181
 t46:=underlying186
 a46:=isAgg186
 z46:=sizeOf186
 v46:=zeroValue186
 t53:=underlying262
 a53:=isAgg262
 z53:=sizeOf262
 v53:=zeroValue262
 t57:=underlying266
 a57:=isAgg266
 z57:=sizeOf266
 v57:=zeroValue266
 t63:=underlying284
 a63:=isAgg284
 z63:=sizeOf284
 v63:=zeroValue284
 t64:=underlying134
 a64:=isAgg134
 z64:=sizeOf134
 v64:=zeroValue134}
open Go.RowKit Go.Sort in
theorem Tryz.slices_Sort_string_none (p:Option Addr) (cap:Nat) (w:World):
  Calls prog 99 #[.slice p 0 cap] w λe w'=>e=.returned (.tuple #[])/\w'=w:=AnyM.slices_Sort_string_none Tryz.laysSlM6_f99 p cap w
def Tryz.laysSlM5_f57_ren:Go.Shelf.Ren:=⟨fun|5=>57|8=>103|7=>102|19=>154|20=>155|10=>145|11=>146|12=>147|13=>148|14=>149|15=>150|16=>151|17=>152|18=>153|30=>192|31=>193|32=>194|33=>195|34=>196|35=>197|40=>215|n=>n,fun|23=>25|25=>3|3=>3|32=>176|22=>25|0=>0|44=>181|46=>186|4=>4|36=>220|35=>219|41=>125|5=>5|9=>9|53=>262|57=>266|63=>284|64=>134|n=>n,fun|n=>n⟩
theorem Tryz.laysSlM5_f57:Go.Proofs.SlLaysM.n5 prog Tryz.laysSlM5_f57_ren:={
 mixed:=κ
 f5:=⟨Tryz.f57.name,δ,func57.trans (Ap some κ)⟩
 f7:=⟨Tryz.f102.name,δ,func102.trans (Ap some κ)⟩
 f8:=func103.trans (Ap some κ)
 f10:=⟨Tryz.f145.name,δ,func145.trans (Ap some κ)⟩
 f11:=⟨Tryz.f146.name,δ,func146.trans (Ap some κ)⟩
 f12:=⟨Tryz.f147.name,δ,func147.trans (Ap some κ)⟩
 f13:=⟨Tryz.f148.name,δ,func148.trans (Ap some κ)⟩
 f14:=⟨Tryz.f149.name,δ,func149.trans (Ap some κ)⟩
 f15:=⟨Tryz.f150.name,δ,func150.trans (Ap some κ)⟩
 f16:=⟨Tryz.f151.name,δ,func151.trans (Ap some κ)⟩
 f17:=⟨Tryz.f152.name,δ,func152.trans (Ap some κ)⟩
 f18:=⟨Tryz.f153.name,δ,func153.trans (Ap some κ)⟩
 f19:=func154.trans (Ap some κ)
 f20:=func155.trans (Ap some κ)
 f30:=⟨Tryz.f192.name,δ,func192.trans (Ap some κ)⟩
 f31:=func193.trans (Ap some κ)
 f32:=func194.trans (Ap some κ)
 f33:=⟨Tryz.f195.name,δ,func195.trans (Ap some κ)⟩
 f34:=⟨Tryz.f196.name,δ,func196.trans (Ap some κ)⟩
 f35:=⟨Tryz.f197.name,δ,func197.trans (Ap some κ)⟩
 f40:=⟨Tryz.f215.name,δ,func215.trans (Ap some κ)⟩
 t0:=underlying0
 a0:=isAgg0
 z0:=sizeOf0
 v0:=zeroValue0
 t3:=underlying3
 a3:=isAgg3
 z3:=sizeOf3
 v3:=zeroValue3
 t4:=underlying4
 a4:=isAgg4
 z4:=sizeOf4
 v4:=zeroValue4
 t5:=underlying5
 a5:=isAgg5
 z5:=sizeOf5
 v5:=zeroValue5
 t9:=underlying9
 a9:=isAgg9
 z9:=sizeOf9
 v9:=zeroValue9
 t22:=underlying25
 a22:=isAgg25
 z22:=sizeOf25
 v22:=zeroValue25
 t23:=underlying25
 a23:=isAgg25
 z23:=sizeOf25
 v23:=zeroValue25
 t25:=underlying3
 a25:=isAgg3
 z25:=sizeOf3
 v25:=zeroValue3
 t32:=underlying176
 a32:=isAgg176
 z32:=sizeOf176
 v32:=zeroValue176
 t35:=underlying219
 a35:=isAgg219
 z35:=sizeOf219
 v35:=zeroValue219
 t36:=underlying220
 a36:=isAgg220
 z36:=sizeOf220
 v36:=zeroValue220
 t41:=underlying125
 a41:=isAgg125
 z41:=sizeOf125
 v41:=zeroValue125
 t44:=underlying181
 a44:=isAgg181
 z44:=sizeOf181
 v44:=zeroValue181
 t46:=underlying186
 a46:=isAgg186
 z46:=sizeOf186
 v46:=zeroValue186
 t53:=underlying262
 a53:=isAgg262
 z53:=sizeOf262
 v53:=zeroValue262
 t57:=underlying266
 a57:=isAgg266
 z57:=sizeOf266
 v57:=zeroValue266
 t63:=underlying284
 a63:=isAgg284
 z63:=sizeOf284
 v63:=zeroValue284
 t64:=underlying134
 a64:=isAgg134
 z64:=sizeOf134
 v64:=zeroValue134}
open Go.RowKit Go.Sort in
theorem Tryz.slices_Sort_int_none (p:Option Addr) (cap:Nat) (w:World):
  Calls prog 57 #[.slice p 0 cap] w λe w'=>e=.returned (.tuple #[])/\w'=w:=AnyM.slices_Sort_int_none Tryz.laysSlM5_f57 p cap w
end Go.Proofs
namespace Mailsack
structure Q4 where
 a:Int
 b:Int
 c:Int
 d:Int
def tK (q:Q4):Q4:=
 let a1:=(q.a+q.b) % 4294967296
 let d1:=xLn (Go.bits .xor .u32 q.d a1) 16
 let c1:=(q.c+d1) % 4294967296
 let b1:=xLn (Go.bits .xor .u32 q.b c1) 12
 let a2:=(a1+b1) % 4294967296
 let d2:=xLn (Go.bits .xor .u32 d1 a2) 8
 let c2:=(c1+d2) % 4294967296
 let b2:=xLn (Go.bits .xor .u32 b1 c2) 7
 ⟨a2,b2,c2,d2⟩
theorem xLt (q:Q4):U32 (tK q).a/\U32 (tK q).b/\U32 (tK q).c/\U32 (tK q).d:=⟨jV _,xFp _ _,jV _,xFp _ _⟩
end Mailsack
namespace Go.Proofs.SH
open Go.RowKit Mailsack MM BB
theorem xSp (a b c d:Int) (w:World) (ha:U32 a) (hb:U32 b) (hc:U32 c) (hd:U32 d):
  Calls prog 216 #[.int .u32 a,.int .u32 b,.int .u32 c,.int .u32 d] w λe w'=>
   e=.returned (.tuple #[.int .u32 (tK ⟨a,b,c,d⟩).a,.int .u32 (tK ⟨a,b,c,d⟩).b,.int .u32 (tK ⟨a,b,c,d⟩).c,.int .u32 (tK ⟨a,b,c,d⟩).d])/\w'=w:=by
 obtain⟨a1,ha1⟩:=eX ((a+b) % 4294967296);have ua1:U32 a1:=ha1▸jV _;obtain⟨d1,hd1⟩:=eX (xLn (bits .xor .u32 d a1) 16);have ud1:U32 d1:=hd1▸xFp _ _;obtain⟨c1,hc1⟩:=eX ((c+d1) % 4294967296);have uc1:U32 c1:=hc1▸jV _
 obtain⟨b1,hb1⟩:=eX (xLn (bits .xor .u32 b c1) 12);have ub1:U32 b1:=hb1▸xFp _ _;obtain⟨a2,ha2⟩:=eX ((a1+b1) % 4294967296);have ua2:U32 a2:=ha2▸jV _;obtain⟨d2,hd2⟩:=eX (xLn (bits .xor .u32 d1 a2) 8);have ud2:U32 d2:=hd2▸xFp _ _
 obtain⟨c2,hc2⟩:=eX ((c1+d2) % 4294967296);have uc2:U32 c2:=hc2▸jV _;obtain⟨b2,hb2⟩:=eX (xLn (bits .xor .u32 b1 c2) 7)
 have hq:tK ⟨a,b,c,d⟩=⟨a2,b2,c2,d2⟩:=by
  subst hb2;subst hc2;subst hd2;subst ha2;subst hb1;subst hc1;subst hd1;subst ha1
  rfl
 rw[hq];have H:=ι (⟨ha1,hd1,hc1,hb1,ha2,hd2,hc2,hb2⟩:_/\_/\_/\_/\_/\_/\_/\_);have R1:=ι (λW=>pR (bits .xor .u32 d a1) 16 16 W (xCk _ _ _) δ δ);have R2:=ι (λW=>pR (bits .xor .u32 b c1) 12 12 W (xCk _ _ _) δ δ);have R3:=ι (λW=>pR (bits .xor .u32 d1 a2) 8 8 W (xCk _ _ _) δ δ)
 have R4:=ι (λW=>pR (bits .xor .u32 b1 c2) 7 7 W (xCk _ _ _) δ δ);rw[hd1] at R1;rw[hb1] at R2;rw[hd2] at R3;rw[hb2] at R4;obtain⟨ha,ha'⟩:=ha;obtain⟨hb,hb'⟩:=hb;obtain⟨hc,hc'⟩:=hc;obtain⟨hd,hd'⟩:=hd;obtain⟨ua1,ua1'⟩:=ua1;obtain⟨ud1,ud1'⟩:=ud1;obtain⟨uc1,uc1'⟩:=uc1
 obtain⟨ub1,ub1'⟩:=ub1;obtain⟨ua2,ua2'⟩:=ua2;obtain⟨ud2,ud2'⟩:=ud2;obtain⟨uc2,uc2'⟩:=uc2;clear ha1 hd1 hc1 hb1 ha2 hd2 hc2 hb2 hq;go_enter func216,ntmps216;go_upto_region 2 with fail
 rw[H.o.1];refine RG.zT (λX=>Hid (X=w)) (ι rfl) ?_;iterate 3 refine RG.dS ?_
 apply RG.xL
 ·intro w9 hw9;repeat go_step
  refine(R1.o _).mono ?_;rintro e w10 ⟨rfl,rfl⟩;simp only[];repeat go_step
  exact RG.xE hw9
 ·rfl
 refine RG.dS ?_;refine RG.xX (λw5 hw5=>?_);have ehw5:=hw5.o;subst ehw5;clear hw5;go_upto_region 4 with fail
 rw[H.o.2.2.1];refine RG.zT (λX=>Hid (X=w5)) (ι rfl) ?_;iterate 3 refine RG.dS ?_
 apply RG.xL
 ·intro w9 hw9;repeat go_step
  refine(R2.o _).mono ?_;rintro e w10 ⟨rfl,rfl⟩;simp only[];repeat go_step
  exact RG.xE hw9
 ·rfl
 refine RG.dS ?_;refine RG.xX (λw6 hw6=>?_);have ehw6:=hw6.o;subst ehw6;clear hw6;go_upto_region 6 with fail
 rw[H.o.2.2.2.2.1];refine RG.zT (λX=>Hid (X=w6)) (ι rfl) ?_;iterate 3 refine RG.dS ?_
 apply RG.xL
 ·intro w9 hw9;repeat go_step
  refine(R3.o _).mono ?_;rintro e w10 ⟨rfl,rfl⟩;simp only[];repeat go_step
  exact RG.xE hw9
 ·rfl
 refine RG.dS ?_;refine RG.xX (λw7 hw7=>?_);have ehw7:=hw7.o;subst ehw7;clear hw7;go_upto_region 8 with fail
 rw[H.o.2.2.2.2.2.2.1];refine RG.zT (λX=>Hid (X=w7)) (ι rfl) ?_;iterate 3 refine RG.dS ?_
 apply RG.xL
 ·intro w9 hw9;repeat go_step
  refine(R4.o _).mono ?_;rintro e w10 ⟨rfl,rfl⟩;simp only[];repeat go_step
  exact RG.xE hw9
 ·rfl
 refine RG.dS ?_;refine RG.xX (λw8 hw8=>?_);have ehw8:=hw8.o;subst ehw8;clear hw8;go_wp2;refine Ak (xPs rfl _ _ _) rfl ?_;exact⟨rfl,rfl⟩
end Go.Proofs.SH
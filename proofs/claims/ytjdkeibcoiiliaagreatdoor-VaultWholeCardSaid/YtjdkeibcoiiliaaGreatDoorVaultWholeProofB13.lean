/- Contracts of functions. Conditions: as stated. -/
import Derived.Test.YtjdkeibcoiiliaaGreatDoorVaultWholeProofB12
set_option maxHeartbeats 8000000
set_option maxRecDepth 100000
namespace Mailsack
open Go.Proofs.SH
theorem pU {x y:ByteArray} {n:Nat} (h:x.size=n):wD (x++y) n=x:=by
 unfold wD;apply Ee;rw[Dh,Eu];have:x.data.size=n:=h;simp[Array.extract_append,this]
theorem tH {x y:ByteArray} {n:Nat} (h:x.size=n):yQ (x++y) n=y:=by
 unfold yQ;apply Ee;rw[Dh,Eu];have:x.data.size=n:=h;have h2:(x++y).size=n+y.data.size:=by rw[Aw,h];rfl
 rw[h2,Array.extract_append,this];have e1:x.data.extract n (n+y.data.size)=#[]:=by simp;omega
 have e2:n-n=0:=ω;have e3:n+y.data.size-n=y.data.size:=ω;rw[e1,e2,e3];simp
theorem yFm {a:vY} (h:uL a=true):xCn (xAa a)=true/\xC5 (xAa a)=a:=by
 have h':=h;obtain⟨u,s,r,ep,pb,n,wr,o⟩:=a;unfold uL zS jN at h';simp only[Au,Bool.or_eq_true,Be] at h';obtain⟨⟨⟨⟨⟨⟨⟨h1,h2⟩,-⟩,⟨⟨h3,h4⟩,h5⟩,h6⟩,h7⟩,h8⟩,h9⟩,h10⟩:=h'
 have e:xAa ⟨u,s,r,ep,pb,n,wr,o⟩=bsA [oct u.size]++(u++(s++(bsA [oct r]++(bsA [oct ep]++(pb++(n++(wr++o))))))):=by
  unfold xAa;simp only[ByteArray.append_assoc];rw[show bsA [oct r,oct ep]=bsA [oct r]++bsA [oct ep] from rfl];simp only[ByteArray.append_assoc]
 have hsz:(xAa ⟨u,s,r,ep,pb,n,wr,o⟩).size=u.size+111+o.size:=by
  unfold xAa;simp only[Aw,yS,Bl,Dq];omega
 have hu:xN3 (xAa ⟨u,s,r,ep,pb,n,wr,o⟩)=u.size:=by
  rw[e];unfold xN3 yU;rw[Eu];simp[bsA,oct];omega
 have a1:yQ (xAa ⟨u,s,r,ep,pb,n,wr,o⟩) 1=u++(s++(bsA [oct r]++(bsA [oct ep]++(pb++(n++(wr++o)))))):=by
  rw[e];exact tH rfl
 have a2:=tH (y:=s++(bsA [oct r]++(bsA [oct ep]++(pb++(n++(wr++o)))))) (rfl:u.size=u.size)
 have a3:yI8 (xAa ⟨u,s,r,ep,pb,n,wr,o⟩)=bsA [oct r]++(bsA [oct ep]++(pb++(n++(wr++o)))):=by
  unfold yI8;rw[hu,a1,a2,tH h3]
 have ht:xC5 (xAa ⟨u,s,r,ep,pb,n,wr,o⟩)=⟨u,s,r,ep,pb,n,wr,o⟩:=by
  have b1:yU (bsA [oct r]) 0=r:=by
   unfold yU bsA oct;simp;omega
  have b2:yU (bsA [oct ep]) 0=ep:=by
   unfold yU bsA oct;simp;omega
  have p1:(bsA [oct r]).size=1:=rfl;have p2:(bsA [oct ep]).size=1:=rfl;unfold xC5;rw[hu,a1,a2,a3,pU (rfl:u.size=u.size),pU h3,pU p1,tH p1,pU p2,tH p2,pU h8,tH h8,pU h4,tH h4,pU h9,tH h9,b1,b2]
 refine⟨?_,ht⟩;unfold xCn;rw[ht,h,hu,hsz];simp
theorem xUm {k n ad s:ByteArray} (hs:s.size=32):w32 (wP k n ad s)=bsA (wS k n 1 s):=by
 have h1:(bsA (wS k n 1 s)).size=32:=by rw[yS,kP,hs]
 exact pU (x:=bsA (wS k n 1 s)) h1
theorem yFw {k n ad s:ByteArray} (hs:s.size=32):w16 (wP k n ad s)=kF k n ad (bsA (wS k n 1 s)):=by
 have h1:(bsA (wS k n 1 s)).size=32:=by rw[yS,kP,hs]
 have h2:(wP k n ad s).size=48:=by rw[kH,hs]
 unfold w16;rw[<-h2];exact tH (x:=bsA (wS k n 1 s)) h1
theorem yFe {u pw xP xB xD:ByteArray} {r:Nat} (hp:xD.size=32) (hr:uL (xBp u (xV xD) 0 pw xP xB r xD)=true):
  xKw (xBp u (xV xD) 0 pw xP xB r xD) pw=0/\xOw (xBp u (xV xD) 0 pw xP xB r xD) pw=[xD]:=by
 have e1:unlK (xBp u (xV xD) 0 pw xP xB r xD) pw=xEx pw xP r:=rfl
 have e2:xS7 (xBp u (xV xD) 0 pw xP xB r xD) pw=true:=by
  unfold xS7;rw[e1];simp only[xBp];rw[xUm hp,yFw hp,xGm]
 have e3:qQ (xBp u (xV xD) 0 pw xP xB r xD) pw=xD:=by
  unfold qQ;rw[e1];simp only[xBp];rw[xUm hp,xMm]
 have e4:xKw (xBp u (xV xD) 0 pw xP xB r xD) pw=0:=by
  unfold xKw;have e6:(⟨#[]⟩:ByteArray)=ByteArray.empty:=rfl;rw[hr,e2,e3];simp[xBp,xGm,e6]
 refine⟨e4,?_⟩;unfold xOw;have e6:(⟨#[]⟩:ByteArray)=ByteArray.empty:=rfl;rw[e4,e3];simp[xBp,e6]
def qU:Dk:=⟨List.replicate 381 (xO 64),[]⟩
theorem xG2:xY qU=qU:=kJ rfl
theorem xG1:yG qU.secs=List.replicate 32 noSlot:=by
 unfold yG qU;simp only[List.drop_replicate,List.take_replicate,List.map_replicate];rw[show xMj (xO 64)=noSlot by rfl]
 rfl
theorem xVp:wX qU=true:=by
 unfold wX;have h1:qU.secs.length=381:=Cv ..;rw[h1,kU.2 ⟨by rw[h1];omega,by rw[h1];omega,λs hs=>by rw[Gg hs];exact yR _,λx hx=>by cases hx⟩]
 rfl
theorem xDf:Store qU:=by
 refine⟨xVp,?_⟩;unfold uZ;rw[xG2,xG1];intro i j t u ht _ htu;rw[Gg (Bb ht)] at htu;cases htu
theorem xVn (n:Bs):vH qU n=none:=by
 unfold vH uZ;rw[xG2,xG1,xD8];intro t ht htu;rw[Gg ht] at htu;cases htu
structure Fr (s:StS) (i:Nat):Prop where
 len:s.slots.length=32
 un:∀(j:Nat) t,i<=j->s.slots[j]?=some t->t.used=false
 f0:s.jG.length+i=24
 wr:s.writes.length=5*i
theorem yHi {s:StS} {i:Nat} (h:Fr s i) (hi:i<24) (n:Bs):∃k:Nat,qY s.slots n=k/\k<=i:=by
 unfold qY;rcases qI s.slots n with ⟨h1,_⟩|⟨k,t,h1,h2,h3,_,_⟩
 ·rw[Ah ω];rcases pF (λt:Slot=>!t.used) s.slots with ⟨_,g2⟩|⟨k,t,g1,g2,g3,g4⟩
  ·have hlt:i<s.slots.length:=by rw[h.len];omega
   have e:=g2 _ (List.getElem_mem hlt);have e2:=h.un i _ ν (Af hlt);rw[e2] at e;cases e
  ·refine⟨k,g1,?_⟩;rcases Nat.lt_or_ge i k with hlt|hge
   ·have hil:i<s.slots.length:=by rw[h.len];omega
    have e:=g4 i _ hlt (Af hil);rw[h.un i _ ν (Af hil)] at e;cases e
   ·exact hge
 ·rw[Ag ω];refine⟨k,h1,?_⟩;rcases Nat.lt_or_ge k i with hlt|hge
  ·omega
  ·rw[h.un k _ hge h2] at h3;cases h3
structure ChOk (c:Ch):Prop where
 gone:c.gone=false
 lo:1<=c.name.length
 hi:c.name.length<=24
 dat:c.data.length<=256
theorem yLr {s:StS} {i:Nat} (h:Fr s i) (hi:i<24) {c:Ch} (hc:ChOk c):kE s c=0/\Fr (jC s c) (i+1):=by
 obtain⟨k,hk,hki⟩:=yHi h hi c.name;have hcl:yJ c.data=0:=by unfold yJ;rw[Ag (by have:=hc.dat;omega)]
 have hf:s.free (yJ c.data)=s.jG:=by rw[hcl];rfl
 have h0:s.jG.length≠0:=by have:=h.f0;omega
 constructor
 ·unfold kE;rw[Ag (by have:=hc.lo;have:=hc.hi;omega),hc.gone,Ag σ,Ag (by have:=hc.dat;omega),hk,Ag ω,hf,Ag h0]
 ·have hw:=xCj s c
  have hx:jC s c=putAt {wH s 0 with writes:=(wH s 0).writes++vI 0 (s.jG.getD 0 0) c.data} k (zH c (s.jG.getD 0 0)):=by
   unfold jC;rw[hc.gone,Ag σ,hcl,hk]
   rfl
  have hpl:=xSr h0;rw[hx];refine⟨?_,λj t hj ht=>?_,?_,?_⟩
  ·simp[putAt,wH,h.len]
  ·have ht':(s.slots.set k (zH c (s.jG.getD 0 0)))[j]?=some t:=ht;rcases xCy ht' with ⟨rfl,_⟩|⟨_,g⟩
   ·omega
   ·exact h.un j t ω g
  ·show(xAb s.jG).length+(i+1)=24;have:=h.f0;omega
  ·show((s.writes++vI 0 (s.jG.getD 0 0) c.data)++[setW k (zH c (s.jG.getD 0 0))]).length=5*(i+1);rw[Aj,Aj,h.wr,show(vI 0 (s.jG.getD 0 0) c.data).length=4 by simp[vI,countP]];simp;omega
theorem yIz:∀(l:List Ch) (s:StS) (i:Nat),Fr s i->i+l.length<24->(∀c∈l,ChOk c)->(zF s l).2=0/\Fr (zF s l).1 (i+l.length)
 |[],s,i,h,_,_=>⟨rfl,h⟩
 |c::l,s,i,h,hi,hl=>by
  simp only[Bl] at hi;obtain⟨h1,h2⟩:=yLr h ω (hl c (Cx ..));have:=yIz l (jC s c) (i+1) h2 ω (λx hx=>hl x (Dm _ hx));unfold zF;rw[Ah h1,Bl,show i+(l.length+1)=i+1+l.length by omega];exact this
theorem yLq:Fr (stS qU) 0:=by
 unfold stS;rw[xG2,xG1];refine⟨Cv ..,λj t _ ht=>?_,?_,rfl⟩
 ·have ht2:(List.replicate 32 noSlot)[j]?=some t:=ht;rw[Gg (Bb ht2)]
  rfl
 ·have:uJ (List.replicate 32 noSlot) 0=[]:=by unfold uJ;simp[noSlot]
  simp only[this];unfold xBh;rw[(xE8 _).length_eq]
  rfl
theorem xCe {l:List Ch} (hl:l.length<=6) (hc:∀c∈l,ChOk c):uY qU l=0/\xAj qU l=0/\Store (vO qU l)/\∀n,vH (vO qU l) n=xF2 (λ_=>none) l n:=by
 obtain⟨h1,h2⟩:=yIz l _ 0 yLq ω hc
 have he:uY qU l=0:=by
  unfold uY;have:=h2.wr;rw[Ah xVp,Ah h1,Ag ω]
 obtain⟨a1,a2,a3⟩:=xGe xDf he;refine⟨he,a1,a2,λn=>?_⟩;rw[a3,show vH qU=λ_=>none from funext xVn]
theorem yFd {d:Dk} {n:Bs}:n∈usedNames (uZ d)↔vH d n≠none:=by
 rw[xV5];unfold vH;rw[Ne,xD8]
 constructor
 ·rintro⟨t,h1,h2,h3⟩ h;exact h t h1 h2 h3
 ·intro h;refine Bo λhn=>h λt h1 h2 h3=>hn ⟨t,h1,h2,h3⟩
theorem xWz {l:List Slot} (h:xFa l):(usedNames l).Nodup:=by
 unfold usedNames;rw[List.nodup_iff_pairwise_ne,List.pairwise_map,List.pairwise_filter,List.pairwise_iff_getElem];intro i j hi hj hij u1 u2 e;have:=h i j _ _ (Af hi) (Af hj) u1 u2 e;omega
theorem xUy {d:Dk} (h:Store d) {L:List Bs} (hs:L.Pairwise (·<·)) (hm:∀n,n∈L↔vH d n≠none):xAg d=L:=by
 have hn:L.Nodup:=hs.imp λ{a b} hab e=>by subst e;exact List.lt_irrefl _ hab
 have hp:(usedNames (uZ d)).Perm L:=(List.perm_ext_iff_of_nodup (xWz h.uniq) hn).2 λn=>by rw[yFd,hm]
 have e:jZ (usedNames (uZ d))=L:=by
  unfold jZ;refine List.Perm.eq_of_pairwise (le:=λx y=>decide (x<=y)=true) ?_ (List.pairwise_mergeSort ?_ ?_ _) ?_ ((List.mergeSort_perm _ _).trans hp)
  ·intro a b _ _ h1 h2;exact List.le_antisymm (Ej h1) (Ej h2)
  ·intro a b c h1 h2;exact Bq (List.le_trans (Ej h1) (Ej h2))
  ·intro a b;rcases List.le_total a b with h|h
   ·simp[h]
   ·simp[h]
  ·exact hs.imp λ{a b} h=>Bq (List.le_of_lt h)
 unfold xAg;rw[Ah h.cont];show Go.Lib.compact (jZ (usedNames (uZ d)))=L;rw[e];refine Go.Lib.compact_all _ λj hj=>?_
 by_cases h0:j=0
 ·simp[Go.Lib.keeps,h0]
 ·refine Go.Lib.keeps_pos ?_;rw[Gd L.toArray j (by simpa using hj),Gd L.toArray (j-1) (by simp;omega)];intro e;have:=(List.pairwise_iff_getElem.1 hs) (j-1) j ω hj ω;simp only[List.getElem_toArray] at e;rw[e] at this;exact List.lt_irrefl _ this
end Mailsack
namespace Mailsack
open Go.Proofs.VA Go.Proofs.SH
def alB:Bs:=[97,108]
def awL:List Ch:=[⟨[109,47,97,108,47,49,50],[120],false⟩,⟨[109,47,97,108,47,51],[],false⟩,⟨[109,47,97,108,47,48,51],[],false⟩,⟨[113,47,97,108,47,55],[],false⟩]
theorem yM9:∀c∈awL,ChOk c:=by
 intro c hc;simp only[awL,De,Dp,Gn] at hc;rcases hc with rfl|rfl|rfl|rfl<;>exact⟨rfl,δ,δ,δ⟩
theorem yEi (n:Bs):xF2 (λ_=>none) awL n=if n=[113,47,97,108,47,55] then some [] else if n=[109,47,97,108,47,48,51] then some [] else if n=[109,47,97,108,47,51] then some [] else if n=[109,47,97,108,47,49,50] then some [120] else none:=by
 simp[xF2,awL,jS]
theorem yI3:xAg (vO qU awL)=[[109,47,97,108,47,48,51],[109,47,97,108,47,49,50],[109,47,97,108,47,51],[113,47,97,108,47,55]]:=by
 obtain⟨_,_,hs,hl⟩:=xCe (l:=awL) δ yM9;refine xUy hs δ λn=>?_;rw[hl n,yEi];simp only[De,Dp,Gn]
 constructor
 ·rintro(rfl|rfl|rfl|rfl)<;>decide
 ·intro h;split at h
  ·simp_all
  ·split at h
   ·simp_all
   ·split at h
    ·simp_all
    ·split at h
     ·simp_all
     ·exact absurd rfl h
theorem xYy:wM (vO qU awL) [109] alB=[3,12]:=by
 unfold wM;rw[yI3];rw[show List.flatMap (numberOf (xHm [109] alB)) [[109,47,97,108,47,48,51],[109,47,97,108,47,49,50],[109,47,97,108,47,51],[113,47,97,108,47,55]]=[12,3] by decide];unfold xEu;simp[List.mergeSort,List.MergeSort.Internal.splitInTwo]
theorem yMa:xC3 (vO qU awL) ⟨#[97,108]⟩=6:=by
 obtain⟨_,_,hs,hl⟩:=xCe (l:=awL) δ yM9;have:=xO7 hs.cont (vD [117] [97,108]);have h2:=hl (vD [117] [97,108]);rw[yEi] at h2;unfold xC3;rw[show(⟨#[97,108]⟩:ByteArray).data.toList=[97,108] from rfl];rcases this with h|h
 ·rw[h.1,Ag δ]
 ·rw[h.2] at h2;exact absurd h2 δ
section
variable {u pw xP xB xD:ByteArray} {r:Nat}
theorem yBb {a:vY}:(xAa a).size=3+a.user.size+a.xP.size+a.pub.size+a.xB.size+a.wrapped.size+a.old.size:=by
 unfold xAa;simp only[Aw,yS,Bl,Dq];omega
theorem fr_ok (hu:zS u=true) (hf:uR xP xB xD (r:Int)=true):∀c∈xU2 u pw xP xB xD r,ChOk c:=by
 have hr:=xE6 (pw:=pw) hu hf;obtain⟨h1,h2,h3,h4,h5,h6,h7,h8,h9,h10,h11⟩:=tZ hr;have hs:=yBb (a:=rP u pw xP xB xD r);have hn:xB.size=12:=h9;have hol:(rP u pw xP xB xD r).old.size=0:=rfl;have hu8:u.size<=8:=h2;have hus:(rP u pw xP xB xD r).user.size=u.size:=rfl
 have hul:u.data.toList.length=u.size:=Cu
 have ho:∀k:UInt8,(vD [k] u.data.toList).length=u.size+2:=λk=>by
  unfold vD;rw[Aj,Aj,hul];show 1+1+u.size=u.size+2;omega
 have hse:=kH (zC xD) xB u (bsA (kC qG));have hen:(bsA (kC qG)).size<=100:=δ;intro c hc;simp only[xU2,De,Dp,Gn] at hc;rcases hc with rfl|rfl
 ·refine⟨rfl,?_,?_,?_⟩
  ·show 1<=(vD [117] u.data.toList).length;rw[ho];omega
  ·show(vD [117] u.data.toList).length<=24;rw[ho];omega
  ·show(xAa (rP u pw xP xB xD r)).data.toList.length<=256;rw[Cu];show(xAa (rP u pw xP xB xD r)).size<=256;omega
 ·refine⟨rfl,?_,?_,?_⟩
  ·show 1<=(vD [120] u.data.toList).length;rw[ho];omega
  ·show(vD [120] u.data.toList).length<=24;rw[ho];omega
  ·show(xB++wP (zC xD) xB u (bsA (kC qG))).data.toList.length<=256;rw[Cu];show(xB++wP (zC xD) xB u (bsA (kC qG))).size<=256;rw[Aw];omega
abbrev frD (u pw xP xB xD:ByteArray) (r:Nat):Dk:=vO qU (xU2 u pw xP xB xD r)
theorem yD9 (hu:zS u=true) (hf:uR xP xB xD (r:Int)=true):xAj qU (xU2 u pw xP xB xD r)=0/\Store (frD u pw xP xB xD r)/\∀n,vH (frD u pw xP xB xD r) n=if n=vD [120] u.data.toList then some (xB++wP (zC xD) xB u (bsA (kC qG))).data.toList else if n=vD [117] u.data.toList then some (xAa (rP u pw xP xB xD r)).data.toList else none:=by
 obtain⟨_,h1,h2,h3⟩:=xCe (l:=xU2 u pw xP xB xD r) (show 2<=6 by decide) (fr_ok hu hf);refine⟨h1,h2,λn=>?_⟩;rw[h3 n];simp[xF2,xU2,jS,xRj,xJ5]
 rfl
theorem yDa {d:Dk} (h:Store d) {n x:Bs} (hl:vH d n=some x):xAe d n=0/\xOa d n=x:=by
 rcases xO7 h.cont n with g|g
 ·rw[g.2.1] at hl;cases hl
 ·rw[g.2] at hl;exact⟨g.1,Option.some.inj hl⟩
theorem yLs {d:Dk} (h:Store d) {n:Bs} (hl:vH d n=none):xAe d n=6:=by
 rcases xO7 h.cont n with g|g
 ·exact g.1
 ·rw[g.2] at hl;cases hl
theorem xWa (s:ByteArray):bsA s.data.toList=s:=by
 unfold bsA;apply Ee;simp
theorem xOm {a b:ByteArray} {n:Nat} (h:a.size=n):(a++b).extract 0 n=a/\(a++b).extract n (a++b).size=b:=by
 exact⟨pU h,tH h⟩
theorem yFn:xPg (kC qG)=0/\xKx (kC qG)=qG:=by
 constructor
 ·decide
 ·rfl
theorem fr_unl (hu:zS u=true) (hf:uR xP xB xD (r:Int)=true):xKw (rP u pw xP xB xD r) pw=0/\xOw (rP u pw xP xB xD r) pw=[xD]:=by
 have hp:xD.size=32:=by
  unfold uR at hf;simp only[Au,Be] at hf;exact hf.2
 exact yFe hp (xE6 hu hf)
theorem yLt (n:Bs):xAe qU n≠0:=by
 rw[yLs xDf (xVn n)]
 decide
end
end Mailsack
namespace DH
theorem assocX {F:Type} [Lean.Grind.CommRing F] (x1 y1 x2 y2 x3 y3 d:F):
  (((x1*y2+x2*y1)*y3*(1-d*x1*x2*y1*y2)+x3*(y1*y2-x1*x2)*(1+d*x1*x2*y1*y2))*((1+d*x2*x3*y2*y3)*(1-d*x2*x3*y2*y3)+d*x1*y1*(x2*y3+x3*y2)*(y2*y3-x2*x3))- (x1*(y2*y3-x2*x3)*(1+d*x2*x3*y2*y3)+(x2*y3+x3*y2)*y1*(1-d*x2*x3*y2*y3))*((1+d*x1*x2*y1*y2)*(1-d*x1*x2*y1*y2)+d*(x1*y2+x2*y1)*(y1*y2-x1*x2)*x3*y3))=(y1*x2*y2^4*x3^2*y3*d+y1*x2^2*y2^3*x3*d-y1*x2^2*y2^3*x3^3*d+y1*x2^3*y2^2*y3*d-y1*x2^3*y2^2*y3^3*d-y1*x2^3*y2^4*x3^2*y3*d^2+y1*x2^4*y2*x3*y3^2*d-y1*x2^4*y2^3*x3*y3^2*d^2-x1*x2*y2^4*x3*y3^2*d+x1*x2^2*y2^3*y3*d-x1*x2^2*y2^3*y3^3*d-x1*x2^3*y2^2*x3*d+x1*x2^3*y2^2*x3^3*d+x1*x2^3*y2^4*x3*y3^2*d^2+x1*x2^4*y2*x3^2*y3*d-x1*x2^4*y2^3*x3^2*y3*d^2)*(d*x1^2*y1^2-x1^2-y1^2+1)+(0-y1*y2*x3+y1*y2*x3*y3^2+y1*y2*x3^3-y1*y2*x3^3*y3^2*d-y1*x2*y3+y1*x2*y3^3+y1*x2*x3^2*y3-y1*x2*x3^2*y3^3*d+y1*x2*y2^2*x3^2*y3*d+y1*x2^2*y2*x3*y3^2*d+y1^3*y2*x3-y1^3*y2*x3*y3^2-y1^3*y2*x3^3+y1^3*y2*x3^3*y3^2*d+y1^3*x2*y3-y1^3*x2*y3^3-y1^3*x2*x3^2*y3+y1^3*x2*x3^2*y3^3*d-y1^3*x2*y2^2*x3^2*y3*d-y1^3*x2^2*y2*x3*y3^2*d-x1*y2*y3+x1*y2*y3^3+x1*y2*x3^2*y3-x1*y2*x3^2*y3^3*d+x1*x2*x3-x1*x2*x3*y3^2-x1*x2*x3^3+x1*x2*x3^3*y3^2*d-x1*x2*y2^2*x3*y3^2*d+x1*x2^2*y2*x3^2*y3*d+x1*y1^2*y2*y3-x1*y1^2*y2*y3^3-x1*y1^2*y2*x3^2*y3+x1*y1^2*y2*x3^2*y3^3*d-x1*y1^2*x2*x3+x1*y1^2*x2*x3*y3^2+x1*y1^2*x2*x3^3-x1*y1^2*x2*x3^3*y3^2*d+x1*y1^2*x2*y2^2*x3*y3^2*d-x1*y1^2*x2*y2^2*x3^3*y3^2*d^2-x1*y1^2*x2^2*y2*x3^2*y3*d+x1*y1^2*x2^2*y2*x3^2*y3^3*d^2+x1^2*y1*y2*x3-x1^2*y1*y2*x3*y3^2-x1^2*y1*y2*x3^3+x1^2*y1*y2*x3^3*y3^2*d+x1^2*y1*x2*y3-x1^2*y1*x2*y3^3-x1^2*y1*x2*x3^2*y3+x1^2*y1*x2*x3^2*y3^3*d-x1^2*y1*x2*y2^2*x3^2*y3*d+x1^2*y1*x2*y2^2*x3^2*y3^3*d^2-x1^2*y1*x2^2*y2*x3*y3^2*d+x1^2*y1*x2^2*y2*x3^3*y3^2*d^2+x1^3*y2*y3-x1^3*y2*y3^3-x1^3*y2*x3^2*y3+x1^3*y2*x3^2*y3^3*d-x1^3*x2*x3+x1^3*x2*x3*y3^2+x1^3*x2*x3^3-x1^3*x2*x3^3*y3^2*d+x1^3*x2*y2^2*x3*y3^2*d-x1^3*x2^2*y2*x3^2*y3*d)*(d*x2^2*y2^2-x2^2-y2^2+1)+(y1*y2*x3-y1*y2^3*x3+y1*x2*y3-y1*x2*y2^2*y3-y1*x2^2*y2*x3-y1*x2^3*y3-y1^3*y2*x3+y1^3*y2^3*x3-y1^3*x2*y3+y1^3*x2*y2^2*y3+y1^3*x2^2*y2*x3+y1^3*x2^3*y3+x1*y2*y3-x1*y2^3*y3-x1*x2*x3+x1*x2*y2^2*x3-x1*x2^2*y2*y3+x1*x2^3*x3-x1*y1^2*y2*y3+x1*y1^2*y2^3*y3+x1*y1^2*x2*x3-x1*y1^2*x2*y2^2*x3+x1*y1^2*x2*y2^2*x3*d+x1*y1^2*x2^2*y2*y3-x1*y1^2*x2^2*y2*y3*d-x1*y1^2*x2^3*x3-x1^2*y1*y2*x3+x1^2*y1*y2^3*x3-x1^2*y1*x2*y3+x1^2*y1*x2*y2^2*y3-x1^2*y1*x2*y2^2*y3*d+x1^2*y1*x2^2*y2*x3-x1^2*y1*x2^2*y2*x3*d+x1^2*y1*x2^3*y3-x1^3*y2*y3+x1^3*y2^3*y3+x1^3*x2*x3-x1^3*x2*y2^2*x3+x1^3*x2^2*y2*y3-x1^3*x2^3*x3)*(d*x3^2*y3^2-x3^2-y3^2+1):=by
 grind
end DH
namespace DH
open Lean.Grind
section
variable {F:Type} [Field F]
def On (d:F) (p:F×F):Prop:=p.1*p.1+p.2*p.2=1+d*p.1*p.1*p.2*p.2
structure Good (d:F):Prop where
 ns:∀r:F,r*r≠d
 two:(2:F)≠0
def add (d:F) (p q:F×F):F×F:=
 ((p.1*q.2+q.1*p.2) / (1+d*p.1*q.1*p.2*q.2),(p.2*q.2-p.1*q.1) / (1-d*p.1*q.1*p.2*q.2))
def zer:F×F:=(0,1)
theorem zX {a b:F} (ha:a≠0) (hb:b≠0):a*b≠0:=by grind
theorem Good.of_sq {d:F} (hd:Good d) {a b:F} (ha:a≠0) (h:d*a*a=b*b):False:=by
 refine hd.ns (b / a) ?_
 grind
theorem sqP {d x1 y1 x2 y2 e:F} (h1:x1*x1+y1*y1=1+d*x1*x1*y1*y1) (h2:x2*x2+y2*y2=1+d*x2*x2*y2*y2) (he:e*e=1) (h:d*x1*x2*y1*y2=e):d*(x1*y1*(x2+y2))*(x1*y1*(x2+y2))=(x1+e*y1)*(x1+e*y1):=by grind
theorem sqM {d x1 y1 x2 y2 e:F} (h1:x1*x1+y1*y1=1+d*x1*x1*y1*y1) (h2:x2*x2+y2*y2=1+d*x2*x2*y2*y2) (he:e*e=1) (h:d*x1*x2*y1*y2=e):d*(x1*y1*(x2-y2))*(x1*y1*(x2-y2))=(x1-e*y1)*(x1-e*y1):=by grind
theorem yJ2 {d:F} (hd:Good d) {x1 y1 x2 y2 e:F} (h1:On d (x1,y1)) (h2:On d (x2,y2)) (he:e*e=1) (h:d*x1*x2*y1*y2=e):False:=by
 unfold On at h1 h2;simp only at h1 h2;have hp:=sqP h1 h2 he h;have hm:=sqM h1 h2 he h;have e0:e≠0:=by clear hp hm h1 h2 h;grind
 have a1:x1≠0:=by clear hp hm h1 h2 he;grind
 have a2:y1≠0:=by clear hp hm h1 h2 he;grind
 have a3:x2≠0:=by clear hp hm h1 h2 he;grind
 by_cases hs:x2+y2=0
 ·refine hd.of_sq (a:=x1*y1*(x2-y2)) (b:=x1-e*y1) ?_ hm
  have:x2-y2≠0:=by
   intro h3;have:2*x2=0:=by clear hp hm h1 h2 h;grind
   exact zX hd.two a3 this
  exact zX (zX a1 a2) this
 ·exact hd.of_sq (a:=x1*y1*(x2+y2)) (b:=x1+e*y1) (zX (zX a1 a2) hs) hp
theorem xR3 {d:F} (hd:Good d) {x1 y1 x2 y2:F} (h1:On d (x1,y1)) (h2:On d (x2,y2)):1+d*x1*x2*y1*y2≠0:=by
 intro h;exact yJ2 hd (e:=-1) h1 h2 (by grind) (by clear h1 h2;grind)
theorem xKf {d:F} (hd:Good d) {x1 y1 x2 y2:F} (h1:On d (x1,y1)) (h2:On d (x2,y2)):1-d*x1*x2*y1*y2≠0:=by
 intro h;exact yJ2 hd (e:=1) h1 h2 (by grind) (by clear h1 h2;grind)
theorem closI {F:Type} [CommRing F] (d x1 y1 x2 y2:F):(x1*y2+x2*y1)*(x1*y2+x2*y1)*((1-d*x1*x2*y1*y2)*(1-d*x1*x2*y1*y2))+(y1*y2-x1*x2)*(y1*y2-x1*x2)*((1+d*x1*x2*y1*y2)*(1+d*x1*x2*y1*y2))- ((1+d*x1*x2*y1*y2)*(1+d*x1*x2*y1*y2)*((1-d*x1*x2*y1*y2)*(1-d*x1*x2*y1*y2))+d*(x1*y2+x2*y1)*(x1*y2+x2*y1)*(y1*y2-x1*x2)*(y1*y2-x1*x2))=(0-y2^4-4*x2^2*y2^2+2*x2^2*y2^2*d+2*x2^2*y2^4-x2^4+2*x2^4*y2^2-2*x2^4*y2^4*d+x2^4*y2^4*d^2+y1^2*x2^2*y2^4*d+y1^2*x2^4*y2^2*d-y1^2*x2^4*y2^4*d^2+x1^2*x2^2*y2^4*d+x1^2*x2^4*y2^2*d-x1^2*x2^4*y2^4*d^2-x1^2*y1^2*x2^4*y2^4*d^3)*(d*x1^2*y1^2-x1^2-y1^2+1)+(0-1-y2^2-x2^2+2*x2^2*y2^2-x2^2*y2^2*d+y1^2*y2^2+y1^2*x2^2-2*y1^2*x2^2*y2^2+2*y1^2*x2^2*y2^2*d-y1^4*x2^2*y2^2*d+x1^2*y2^2+x1^2*x2^2-2*x1^2*x2^2*y2^2+2*x1^2*x2^2*y2^2*d-x1^4*x2^2*y2^2*d)*(d*x2^2*y2^2-x2^2-y2^2+1):=by
 grind
theorem closeX {d x1 y1 x2 y2 D E X Y:F} (h1:x1*x1+y1*y1=1+d*x1*x1*y1*y1) (h2:x2*x2+y2*y2=1+d*x2*x2*y2*y2) (hD:D=1+d*x1*x2*y1*y2) (hE:E=1-d*x1*x2*y1*y2) (hX:X*D=x1*y2+x2*y1) (hY:Y*E=y1*y2-x1*x2):(X*D)*(X*D)*(E*E)+(Y*E)*(Y*E)*(D*D)=D*D*(E*E)+d*(X*D)*(X*D)*(Y*E)*(Y*E):=by
 rw[hX,hY,hD,hE];have A:=closI d x1 y1 x2 y2;rw[show d*x1^2*y1^2-x1^2-y1^2+1=0 by clear A h2 hD hE hX hY;grind,show d*x2^2*y2^2-x2^2-y2^2+1=0 by clear A h1 hD hE hX hY;grind,Semiring.mul_zero,Semiring.mul_zero] at A;clear h1 h2 hD hE hX hY
 generalize (x1*y2+x2*y1)*(x1*y2+x2*y1)*((1-d*x1*x2*y1*y2)*(1-d*x1*x2*y1*y2))+(y1*y2-x1*x2)*(y1*y2-x1*x2)*((1+d*x1*x2*y1*y2)*(1+d*x1*x2*y1*y2))=L at*
 generalize ((1+d*x1*x2*y1*y2)*(1+d*x1*x2*y1*y2)*((1-d*x1*x2*y1*y2)*(1-d*x1*x2*y1*y2))+d*(x1*y2+x2*y1)*(x1*y2+x2*y1)*(y1*y2-x1*x2)*(y1*y2-x1*x2))=R at*
 grind
theorem div_mul {a b:F} (h:b≠0):a / b*b=a:=by grind
theorem cancel {a b c:F} (hc:c≠0) (h:a*c=b*c):a=b:=by grind
theorem On.add {d:F} (hd:Good d) {p q:F×F} (h1:On d p) (h2:On d q):On d (add d p q):=by
 obtain⟨x1,y1⟩:=p;obtain⟨x2,y2⟩:=q;have hD:=xR3 hd h1 h2;have hE:=xKf hd h1 h2;unfold On DH.add;unfold On at h1 h2;simp only at*;have kX:=div_mul (a:=x1*y2+x2*y1) hD;have kY:=div_mul (a:=y1*y2-x1*x2) hE;generalize hX:(x1*y2+x2*y1)/(1+d*x1*x2*y1*y2)=X at*
 generalize hY:(y1*y2-x1*x2)/(1-d*x1*x2*y1*y2)=Y at*;have:=closeX h1 h2 rfl rfl kX kY;refine cancel (zX (zX hD hE) (zX hD hE)) ?_;clear h1 h2 kX kY hX hY;generalize 1+d*x1*x2*y1*y2=D at*;generalize 1-d*x1*x2*y1*y2=E at*;clear hD hE
 grind
theorem add_comm {d:F} (p q:F×F):add d p q=add d q p:=by
 unfold add;have e1:p.1*q.2+q.1*p.2=q.1*p.2+p.1*q.2:=by grind
 have e2:1+d*p.1*q.1*p.2*q.2=1+d*q.1*p.1*q.2*p.2:=by grind
 have e3:p.2*q.2-p.1*q.1=q.2*p.2-q.1*p.1:=by grind
 have e4:1-d*p.1*q.1*p.2*q.2=1-d*q.1*p.1*q.2*p.2:=by grind
 rw[e1,e2,e3,e4]
theorem xU1 {d:F} (p:F×F):add d p zer=p:=by
 obtain⟨x,y⟩:=p;unfold add zer;simp only;refine Prod.ext ?_ ?_
 ·show(x*1+0*y)/(1+d*x*0*y*1)=x
  grind
 ·show(y*1-x*0)/(1-d*x*0*y*1)=y
  grind
theorem assX {d x1 y1 x2 y2 x3 y3:F} (hd:Good d) (h1:On d (x1,y1)) (h2:On d (x2,y2)) (h3:On d (x3,y3)):(add d (add d (x1,y1) (x2,y2)) (x3,y3)).1=(add d (x1,y1) (add d (x2,y2) (x3,y3))).1:=by
 have c12:=On.add hd h1 h2;have c23:=On.add hd h2 h3;have nD1:=xR3 hd h1 h2;have nE1:=xKf hd h1 h2;have nD2:=xR3 hd h2 h3;have nE2:=xKf hd h2 h3;have nL:=xR3 hd c12 h3;have nR:=xR3 hd h1 c23;have A:=assocX x1 y1 x2 y2 x3 y3 d;unfold On at h1 h2 h3;unfold DH.add at nL nR⊢
 clear c12 c23 hd;simp only at*;rw[show d*x1^2*y1^2-x1^2-y1^2+1=0 by clear A nL nR h2 h3;grind,show d*x2^2*y2^2-x2^2-y2^2+1=0 by clear A nL nR h1 h3;grind,show d*x3^2*y3^2-x3^2-y3^2+1=0 by clear A nL nR h1 h2;grind,Semiring.mul_zero,Semiring.mul_zero,Semiring.mul_zero] at A
 clear h1 h2 h3;have k1:=div_mul (a:=x1*y2+x2*y1) nD1;have k2:=div_mul (a:=y1*y2-x1*x2) nE1;have k3:=div_mul (a:=x2*y3+x3*y2) nD2;have k4:=div_mul (a:=y2*y3-x2*x3) nE2;generalize (x1*y2+x2*y1)/(1+d*x1*x2*y1*y2)=X1 at*;generalize (y1*y2-x1*x2)/(1-d*x1*x2*y1*y2)=Y1 at*
 generalize (x2*y3+x3*y2)/(1+d*x2*x3*y2*y3)=X2 at*;generalize (y2*y3-x2*x3)/(1-d*x2*x3*y2*y3)=Y2 at*;generalize 1+d*x1*x2*y1*y2=D1 at*;generalize 1-d*x1*x2*y1*y2=E1 at*;generalize 1+d*x2*x3*y2*y3=D2 at*;generalize 1-d*x2*x3*y2*y3=E2 at*;rw[<-k1,<-k2,<-k3,<-k4] at A
 clear k1 k2 k3 k4;have m1:=div_mul (a:=X1*y3+x3*Y1) nL;have m2:=div_mul (a:=x1*Y2+X2*y1) nR;generalize (X1*y3+x3*Y1)/(1+d*X1*x3*Y1*y3)=U at*;generalize (x1*Y2+X2*y1)/(1+d*x1*X2*y1*Y2)=V at*
 have B:(U-V)*((1+d*X1*x3*Y1*y3)*(1+d*x1*X2*y1*Y2))*((D1*E1)*(D2*E2))=0:=by
  have e1:(U-V)*((1+d*X1*x3*Y1*y3)*(1+d*x1*X2*y1*Y2))=(U*(1+d*X1*x3*Y1*y3))*(1+d*x1*X2*y1*Y2)- (V*(1+d*x1*X2*y1*Y2))*(1+d*X1*x3*Y1*y3):=by clear A m1 m2;grind
  rw[e1,m1,m2];clear e1 m1 m2 nL nR nD1 nE1 nD2 nE2
  grind
 have n:=zX (zX nL nR) (zX (zX nD1 nE1) (zX nD2 nE2));clear A m1 m2
 have e2:U-V=0:=by
  apply Bo;intro h;exact zX (zX h (zX nL nR)) (zX (zX nD1 nE1) (zX nD2 nE2)) B
 clear B n
 grind
end
end DH
namespace DH
open Lean.Grind
section
variable {F:Type} [Field F] {d:F}
theorem yKk {x y:F} (h:On d (x,y)):On d (y,-x):=by
 unfold On at*;simp only at*
 grind
theorem xIj (p:F×F) (x y:F):add d p (y,-x)=((add d p (x,y)).2,-(add d p (x,y)).1):=by
 obtain⟨x1,y1⟩:=p;unfold add;simp only;have e1:x1* -x+y*y1=y1*y-x1*x:=by grind
 have e2:1+d*x1*y*y1*(-x)=1-d*x1*x*y1*y:=by grind
 have e3:y1* -x-x1*y=-(x1*y+x*y1):=by grind
 have e4:1-d*x1*y*y1*(-x)=1+d*x1*x*y1*y:=by grind
 rw[e1,e2,e3,e4];refine Prod.ext rfl ?_;show -(x1*y+x*y1) / (1+d*x1*x*y1*y)=-((x1*y+x*y1) / (1+d*x1*x*y1*y));generalize x1*y+x*y1=a;generalize 1+d*x1*x*y1*y=b;rw[Field.div_eq_mul_inv,Field.div_eq_mul_inv]
 grind
theorem add_assoc (hd:Good d) {p q r:F×F} (h1:On d p) (h2:On d q) (h3:On d r):add d (add d p q) r=add d p (add d q r):=by
 obtain⟨x1,y1⟩:=p;obtain⟨x2,y2⟩:=q;obtain⟨x3,y3⟩:=r;refine Prod.ext (assX hd h1 h2 h3) ?_;have:=assX hd h1 h2 (yKk h3);rw[xIj,xIj] at this;have e:((add d (x2,y2) (x3,y3)).2,-(add d (x2,y2) (x3,y3)).1)=add d (x2,y2) (y3,-x3):=(xIj _ _ _).symm
 have f:=xIj (d:=d) (x1,y1) (add d (x2,y2) (x3,y3)).1 (add d (x2,y2) (x3,y3)).2;rw[f] at this;exact this
theorem yJd (p:F×F):add d zer p=p:=by rw[add_comm,xU1]
theorem on_zer:On d (zer:F×F):=by
 unfold On zer;simp only
 grind
def mul (d:F):Nat->F×F->F×F
 |0,_=>zer
 |n+1,p=>add d (mul d n p) p
theorem On.mul (hd:Good d) {p:F×F} (h:On d p):∀n,On d (mul d n p)
 |0=>on_zer
 |n+1=>On.add hd (On.mul hd h n) h
theorem mul_add (hd:Good d) {p:F×F} (h:On d p) (m:Nat):∀n,mul d (m+n) p=add d (mul d m p) (mul d n p)
 |0=>(xU1 _).symm
 |n+1=>by
  show add d (mul d (m+n) p) p=add d (mul d m p) (add d (mul d n p) p);rw[mul_add hd h m n,add_assoc hd (h.mul hd m) (h.mul hd n) h]
theorem mul_one (p:F×F):mul d 1 p=p:=yJd p
theorem yC0 (hd:Good d) {p:F×F} (h:On d p) (m:Nat):∀n,mul d n (mul d m p)=mul d (m*n) p
 |0=>rfl
 |n+1=>by
  show add d (mul d n (mul d m p)) (mul d m p)=_;rw[yC0 hd h m n,Nat.mul_succ,mul_add hd h]
structure Rep (p:F×F) (X Z:F):Prop where
 s:X+Z≠0
 t:X-Z=(X+Z)*p.2
theorem Rep.zer:Rep (zer:F×F) 1 0:=⟨by grind,by unfold DH.zer;simp only;grind⟩
theorem Rep.dbl (hd:Good d) {a:F} (ha:a*(1-d)=d) {p:F×F} (hp:On d p) {X Z:F} (h:Rep p X Z):
  Rep (add d p p) (((X+Z)*(X+Z))*((X-Z)*(X-Z))) (((X+Z)*(X+Z)- (X-Z)*(X-Z))*((X+Z)*(X+Z)+((X+Z)*(X+Z)- (X-Z)*(X-Z))*a)):=by
 obtain⟨x,y⟩:=p;have nE:=xKf hd hp hp;unfold On at hp;obtain⟨hs,ht⟩:=h;simp only at hp ht;rw[ht];unfold add;simp only;have k0:=div_mul (a:=y*y-x*x) nE;generalize (y*y-x*x)/(1-d*x*x*y*y)=v at*;generalize X+Z=s at*;clear ht;have nd:1-d≠0:=λh=>hd.ns 1 (by clear nE hp k0 ha;grind)
 have nG:1-d*y*y≠0:=by
  intro h;have ny:y≠0:=by clear nE hp k0 ha nd hs;grind
  exact hd.ns (1/y) (by clear nE hp k0 ha nd hs;grind)
 have k1:(1-d*x*x*y*y)*(1-d*y*y)=(1-d)*(1+a*((1-y*y)*(1-y*y))):=by
  clear nE hs k0 nd nG
  grind
 have k2:1+a*((1-y*y)*(1-y*y))≠0:=by
  intro h;rw[h,Semiring.mul_zero] at k1;exact zX nE nG k1
 have e1:s*s*(s*y*(s*y))+(s*s-s*y*(s*y))*(s*s+(s*s-s*y*(s*y))*a)=(s*s)*(s*s)*(1+a*((1-y*y)*(1-y*y))):=by
  clear nE hs k0 nd nG k1 k2 hp ha
  grind
 refine⟨?_,?_⟩
 ·rw[e1];exact zX (zX (zX hs hs) (zX hs hs)) k2
 ·rw[e1];refine cancel (zX nd nG) ?_
  have e2:(s*s)*(s*s)*(1+a*((1-y*y)*(1-y*y)))*v*((1-d)*(1-d*y*y))=(s*s)*(s*s)*((1-d*y*y)*(1-d*y*y))*(v*(1-d*x*x*y*y)):=by
   have:(s*s)*(s*s)*(1+a*((1-y*y)*(1-y*y)))*v*((1-d)*(1-d*y*y))=(s*s)*(s*s)*((1-d)*(1+a*((1-y*y)*(1-y*y))))*v*(1-d*y*y):=by
    clear nE hs k0 nd nG k1 k2 hp ha e1
    grind
   rw[this,<-k1];clear nE hs k0 nd nG k1 k2 hp ha e1 this
   grind
  rw[e2,k0]
  have e3:(1-d*y*y)*(y*y-x*x)=2*(y*y)-1-d*(y*y)*(y*y):=by
   clear nE hs k0 nd nG k1 k2 ha e1 e2
   grind
  have e4:(s*s)*(s*s)*((1-d*y*y)*(1-d*y*y))*(y*y-x*x)=(s*s)*(s*s)*(1-d*y*y)*((1-d*y*y)*(y*y-x*x)):=by
   clear nE hs k0 nd nG k1 k2 ha e1 e2 hp e3
   grind
  rw[e4,e3];clear nE hs k0 nd nG k1 k2 e1 e2 hp e3 e4
  grind
def neg (p:F×F):F×F:=(-p.1,p.2)
theorem On.neg {p:F×F} (h:On d p):On d (neg p):=by
 unfold On DH.neg at*;simp only
 grind
theorem add_neg (hd:Good d) {p:F×F} (h:On d p):add d p (neg p)=zer:=by
 have n1:=xKf hd h h.neg;have hn:=h;obtain⟨x,y⟩:=p;unfold add neg zer;unfold On at h;simp only at*;refine Prod.ext ?_ ?_
 ·show(x*y+ -x*y)/(1+d*x*(-x)*y*y)=0;rw[show x*y+ -x*y=0 by clear h n1 hn;grind,Field.div_eq_mul_inv,Semiring.zero_mul]
 ·show(y*y-x* -x)/(1-d*x*(-x)*y*y)=1;refine cancel n1 ?_;rw[div_mul n1];clear n1 hn hd
  grind
theorem four {x y xq yq z v:F} (h1:x*x+y*y=1+d*x*x*y*y) (h2:xq*xq+yq*yq=1+d*xq*xq*yq*yq) (hz:z*(1+d*(x*xq)*(y*yq))=y*yq+x*xq) (hv:v*(1-d*(x*xq)*(y*yq))=y*yq-x*xq):
  ((yq+y)*(yq+y)*(1-z)*(1-v)- (1+z)*(1+v)*((yq-y)*(yq-y)))*((1+d*(x*xq)*(y*yq))*(1-d*(x*xq)*(y*yq)))=0:=by
 have hb:(x*xq)*(x*xq)*(1-d*(y*y+yq*yq)+d*d*(y*yq)*(y*yq))=1- (y*y+yq*yq)+(y*yq)*(y*yq):=by
  have e1:x*x*(1-d*y*y)=1-y*y:=by clear h2 hz hv;grind
  have e2:xq*xq*(1-d*yq*yq)=1-yq*yq:=by clear h1 hz hv;grind
  have e3:(x*xq)*(x*xq)*(1-d*(y*y+yq*yq)+d*d*(y*yq)*(y*yq))=(x*x*(1-d*y*y))*(xq*xq*(1-d*yq*yq)):=by clear h1 h2 hz hv e1 e2;grind
  rw[e3,e1,e2];clear h1 h2 hz hv e1 e2 e3
  grind
 have hs:(yq+y)*(yq+y)=(y*y+yq*yq)+2*(y*yq):=by clear h1 h2 hz hv hb;grind
 have hm:(yq-y)*(yq-y)=(y*y+yq*yq)-2*(y*yq):=by clear h1 h2 hz hv hb hs;grind
 rw[hs,hm];clear hs hm h1 h2;generalize y*y+yq*yq=Y at*;generalize y*yq=c at*;generalize x*xq=b at*
 have e1:((Y+2*c)*(1-z)*(1-v)- (1+z)*(1+v)*(Y-2*c))*((1+d*b*c)*(1-d*b*c))=(Y+2*c)*((1+d*b*c)-z*(1+d*b*c))*((1-d*b*c)-v*(1-d*b*c))- ((1+d*b*c)+z*(1+d*b*c))*((1-d*b*c)+v*(1-d*b*c))*(Y-2*c):=by
  clear hz hv hb
  grind
 rw[e1,hz,hv]
 have e2:(Y+2*c)*((1+d*b*c)- (c+b))*((1-d*b*c)- (c-b))- ((1+d*b*c)+(c+b))*((1-d*b*c)+(c-b))*(Y-2*c)=4*c*((1-Y+c*c)-b*b*(1-d*Y+d*d*c*c)):=by
  clear hz hv hb e1
  grind
 rw[e2,hb];clear hz hv hb e1 e2
 grind
theorem r1 (x y xq yq:F):yq*y-xq* -x=y*yq+x*xq:=by grind
theorem r2 (x y xq yq d:F):1-d*xq*(-x)*yq*y=1+d*(x*xq)*(y*yq):=by grind
theorem r3 (x y xq yq d:F):1-d*x*xq*y*yq=1-d*(x*xq)*(y*yq):=by grind
theorem r4 (a b c z:F):a*b*c*z=(a*z)*b*c:=by grind
theorem r5 (r s y yq:F):(r*yq*s+r*(s*y))*(r*yq*s+r*(s*y))=(r*s)*(r*s)*((yq+y)*(yq+y)):=by grind
theorem r6 (u r s y yq:F):u*((r*yq*s-r*(s*y))*(r*yq*s-r*(s*y)))=(r*s)*(r*s)*(u*((yq-y)*(yq-y))):=by grind
theorem Rep.dif (hd:Good d) {p e:F×F} (hp:On d p) (he:On d e) {u X Z U V:F} (hu:u≠0) (h1:Rep e u 1) (h2:Rep p X Z) (h3:Rep (add d p e) U V):
  Rep (add d p (add d p e)) (((U-V)*(X+Z)+(U+V)*(X-Z))*((U-V)*(X+Z)+(U+V)*(X-Z))) (u*(((U-V)*(X+Z)- (U+V)*(X-Z))*((U-V)*(X+Z)- (U+V)*(X-Z)))):=by
 have hq:=On.add hd hp he
 have hen:add d (add d p e) (neg p)=e:=by
  rw[add_comm p e,add_assoc hd he hp hp.neg,add_neg hd hp,xU1]
 generalize add d p e=q at*;have nz:=xKf hd hq hp.neg;have nv:=xKf hd hp hq;obtain⟨x,y⟩:=p;obtain⟨xq,yq⟩:=q;obtain⟨w,z⟩:=e;have hz:z=(add d (xq,yq) (neg (x,y))).2:=by rw[hen]
 unfold add neg at hz;unfold add;simp only at hz nz nv⊢;obtain⟨s1,t1⟩:=h1;obtain⟨s2,t2⟩:=h2;obtain⟨s3,t3⟩:=h3;simp only at t1 t2 t3;have e1:=r1 x y xq yq;have e2:=r2 x y xq yq d;have e3:=r3 x y xq yq d;rw[e1,e2] at hz;rw[e2] at nz;rw[e3] at nv
 have kz:z*(1+d*(x*xq)*(y*yq))=y*yq+x*xq:=by rw[hz,div_mul nz]
 have kv:=div_mul (a:=y*yq-x*xq) nv;rw[e3];generalize (y*yq-x*xq)/(1-d*(x*xq)*(y*yq))=v at*;clear hz e1 e2 e3 hen he;unfold On at hp hq;simp only at hp hq;have F4:=four hp hq kz kv
 have n1:1-z≠0:=by
  intro h;exact hd.two (by clear kz kv F4 nz nv hp hq t2 t3 s1 s2 s3 hu;grind)
 have hu1:u*(1-z)=1+z:=by clear kz kv F4 nz nv hp hq t2 t3 s1 s2 s3 hu n1;grind
 have hx:(yq+y)*(yq+y)*(1-v)=u*(1+v)*((yq-y)*(yq-y)):=by
  refine cancel n1 (cancel (zX nz nv) ?_);have:=r4 u (1+v) ((yq-y)*(yq-y)) (1-z);rw[this,hu1];clear kz kv nz nv hp hq t1 t2 t3 s1 s2 s3 hu n1 this hu1
  grind
 rw[t2,t3];have e1:=r5 (U+V) (X+Z) y yq;have e2:=r6 u (U+V) (X+Z) y yq;rw[e1,e2];have nk:=zX (zX s3 s2) (zX s3 s2);clear e1 e2 t1 t2 t3 F4;generalize ((U+V)*(X+Z))*((U+V)*(X+Z))=K at*
 have hxx:(yq+y)*(yq+y)-u*((yq-y)*(yq-y))=((yq+y)*(yq+y)+u*((yq-y)*(yq-y)))*v:=by clear hp hq kz kv nz nv nk s1 s2 s3 hu hu1 n1;grind
 refine⟨?_,?_⟩
 ·intro h
  have h0:(yq+y)*(yq+y)+u*((yq-y)*(yq-y))=0:=by
   apply Bo;intro hh;refine zX nk hh ?_;clear hp hq kz kv nz nv nk s1 s2 s3 hu hu1 n1 hx hxx hh
   grind
  rw[h0,Semiring.zero_mul] at hxx;have g1:2*((yq+y)*(yq+y))=0:=by clear hp hq kz kv nz nv nk s1 s2 s3 hu hu1 n1 hx h;grind
  have g2:2*(u*((yq-y)*(yq-y)))=0:=by clear hp hq kz kv nz nv nk s1 s2 s3 hu hu1 n1 hx h g1;grind
  have g3:yq+y=0:=by
   apply Bo;intro hh;exact zX hd.two (zX hh hh) g1
  have g4:yq-y=0:=by
   apply Bo;intro hh;exact zX hd.two (zX hu (zX hh hh)) g2
  have g5:y=0:=by
   apply Bo;intro hh;refine zX hd.two hh ?_;clear hp hq kz kv nz nv nk s1 s2 s3 hu hu1 n1 hx h g1 g2 h0 hxx
   grind
  have g6:yq=0:=by
   clear hp hq kz kv nz nv nk s1 s2 s3 hu hu1 n1 hx h g1 g2 h0 hxx
   grind
  subst g5;subst g6;have q1:x*x=1:=by clear hq kz kv nz nv nk s1 s2 s3 hu hu1 n1 hx h g1 g2 h0 hxx g3 g4;grind
  have q2:xq*xq=1:=by clear hp kz kv nz nv nk s1 s2 s3 hu hu1 n1 hx h g1 g2 h0 hxx g3 g4 q1;grind
  have q3:z=x*xq:=by clear hp hq kv nz nv nk s1 s2 s3 hu hu1 n1 hx h g1 g2 h0 hxx g3 g4 q1 q2;grind
  have q4:(1-z)*(1+z)=0:=by rw[q3];clear hp hq kz kv nz nv nk s1 s2 s3 hu hu1 n1 hx h g1 g2 h0 hxx g3 g4 q3;grind
  rw[<-hu1] at q4;exact zX n1 (zX hu n1) q4
 ·clear hp hq kz kv nz nv nk s1 s2 s3 hu hu1 n1 hx
  grind
end
end DH
namespace DH
def Prm (n:Nat):Prop:=2<=n/\∀d,d ∣ n->d=1∨d=n
theorem yJ0 {p a b:Nat} (h:Prm p) (hd:p ∣ a*b):p ∣ a∨p ∣ b:=by
 rcases h.2 (Nat.gcd p a) (Nat.gcd_dvd_left p a) with e|e
 ·exact .inr (Nat.Coprime.dvd_of_dvd_mul_left e hd)
 ·exact .inl (e▸Nat.gcd_dvd_right p a)
theorem yIt (n:Nat) (h:2<=n):∃r,Prm r/\r ∣ n:=by
 induction n using Nat.strongRecOn with
 |ind n ih=>
  by_cases hp:Prm n
  ·exact⟨n,hp,Nat.dvd_refl n⟩
  ·have:∃d,d ∣ n/\d≠1/\d≠n:=by
    apply Bo;intro hn
    exact hp ⟨h,λd hd=>by
     apply Bo;intro hh;exact hn ⟨d,hd,λe=>hh (.inl e),λe=>hh (.inr e)⟩⟩
   obtain⟨d,hd,h1,h2⟩:=this;have hle:=Gh ω hd;have h0:d≠0:=λe=>by subst e;obtain⟨k,hk⟩:=hd;omega
   obtain⟨r,hr,hrd⟩:=ih d ω ω;exact⟨r,hr,Nat.dvd_trans hrd hd⟩
def ch:Nat->Nat->Nat
 |_,0=>1
 |0,_+1=>0
 |n+1,k+1=>ch n k+ch n (k+1)
theorem xOp (n:Nat):ch n 0=1:=by cases n<;>rfl
theorem xMn:∀n k,n<k->ch n k=0
 |0,0,h=>by omega
 |0,k+1,_=>rfl
 |n+1,0,h=>by omega
 |n+1,k+1,h=>by rw[ch,xMn n k ω,xMn n (k+1) ω]
theorem yE6:∀n,ch n n=1
 |0=>rfl
 |n+1=>by rw[ch,yE6 n,xMn n (n+1) ω]
theorem xW8:∀n k,(k+1)*ch (n+1) (k+1)=(n+1)*ch n k
 |0,0=>rfl
 |0,k+1=>by
  rw[xMn 1 (k+2) ω,xMn 0 (k+1) ω];simp
 |n+1,0=>by
  have h:=xW8 n 0;have e1:ch (n+1+1) (0+1)=ch (n+1) 0+ch (n+1) (0+1):=rfl;rw[xOp] at e1 h;rw[xOp,e1];omega
 |n+1,k+1=>by
  have h1:=xW8 n k;have h2:=xW8 n (k+1);rw[ch,Nat.mul_add,h2];have e:ch (n+1) (k+1)=ch n k+ch n (k+1):=rfl;rw[show(k+1+1)*ch (n+1) (k+1)=(k+1)*ch (n+1) (k+1)+ch (n+1) (k+1) by rw[Nat.add_mul (k+1) 1];omega,h1,e];rw[Nat.mul_add (n+1+1),Nat.add_mul (n+1) 1,Nat.add_mul (n+1) 1]
  omega
theorem ch_dvd {p:Nat} (h:Prm p) (k:Nat) (h0:0<k) (hk:k<p):p ∣ ch p k:=by
 obtain⟨n,rfl⟩:∃n,p=n+1:=⟨p-1,by have:=h.1;omega⟩;obtain⟨j,rfl⟩:∃j,k=j+1:=⟨k-1,ω⟩;have h1:(n+1) ∣ (j+1)*ch (n+1) (j+1):=⟨ch n j,xW8 n j⟩;rcases yJ0 h h1 with h2|h2
 ·have:=Gh ω h2;omega
 ·exact h2
def bs (n x:Nat):Nat->Nat
 |0=>0
 |m+1=>bs n x m+ch n m*x^m
theorem yEc (n x:Nat):∀m,bs (n+1) x (m+1)=bs n x (m+1)+x*bs n x m
 |0=>by simp[bs,xOp]
 |m+1=>by
  rw[bs,yEc n x m,bs,bs,bs];have:ch (n+1) (m+1)=ch n m+ch n (m+1):=rfl;rw[this,Nat.add_mul,Fs,Nat.mul_add];have e:x*(ch n m*x^m)=ch n m*(x^m*x):=by rw[Fp x,Nat.mul_assoc]
  rw[e];omega
theorem bs_big (n x:Nat):bs n x (n+1)=(x+1)^n/\bs n x (n+2)=(x+1)^n:=by
 have h2:∀n,bs n x (n+2)=bs n x (n+1):=λn=>by rw[bs,xMn n (n+1) ω];simp
 have h1:∀n,bs n x (n+1)=(x+1)^n:=by
  intro n
  induction n with
  |zero=>simp[bs,ch]
  |succ n ih=>
   rw[yEc,h2,ih,Fs,Nat.mul_add,Fp x];omega
 exact⟨h1 n,by rw[h2,h1]⟩
theorem yJ3 {p:Nat} (h:Prm p) (x:Nat):∀m,0<m->m<=p->bs p x m % p=1 % p
 |0,h0,_=>by omega
 |1,_,_=>by simp[bs,xOp]
 |m+2,_,hm=>by
  have ih:=yJ3 h x (m+1) ω ω;obtain⟨c,hc⟩:=ch_dvd h (m+1) ω ω;rw[bs,hc,Nat.mul_assoc,Nat.add_mul_mod_self_left];exact ih
theorem flt {p:Nat} (h:Prm p):∀x,x^p % p=x % p
 |0=>by rw[Nat.zero_pow (by have:=h.1;omega)]
 |x+1=>by
  have h1:=(bs_big p x).1;rw[bs,yE6,Nat.one_mul] at h1;rw[<-h1,Nat.add_mod,yJ3 h x p (by have:=h.1;omega) ν,flt h x,<-Nat.add_mod,Nat.add_comm]
theorem xJm {n a b:Nat} (h:a % n=b % n):n ∣ a-b:=by
 have:=Nat.sub_mod_eq_zero_of_mod_eq h;exact Nat.dvd_of_mod_eq_zero this
theorem flt1 {p:Nat} (h:Prm p) {x:Nat} (hx:¬p ∣ x):x^(p-1) % p=1:=by
 have h2:=h.1;have h1:=flt h x;obtain⟨n,rfl⟩:∃n,p=n+1:=⟨p-1,ω⟩;have hx0:0<x:=Nat.pos_of_ne_zero λe=>hx (by rw[e];exact Nat.dvd_zero _);have hp0:0<x^n:=Nat.pow_pos hx0;have hd:=xJm h1;rw[Fs,show x^n*x-x=x*(x^n-1) by rw[Nat.mul_sub,Gr,Fp]] at hd
 have h3:=(yJ0 h hd).resolve_left hx;obtain⟨c,hc⟩:=h3;rw[show n+1-1=n by omega,show x^n=1+(n+1)*c by omega,Nat.add_mul_mod_self_left];exact Dx ω
theorem xJ7 {a n e:Nat} (h:a^e % n=1 % n) (k:Nat):a^(e*k) % n=1 % n:=by
 rw[Nat.pow_mul,Nat.pow_mod,h,<-Nat.pow_mod,Nat.one_pow]
theorem yKb {a n:Nat}:∀e f,a^e % n=1 % n->a^f % n=1 % n->a^Nat.gcd e f % n=1 % n:=by
 intro e f
 induction e,f using Nat.gcd.induction with
 |H0 f=>intro _ h;rwa [Nat.gcd_zero_left]
 |H1 e f he ih=>
  intro h1 h2;rw[Nat.gcd_rec];refine ih ?_ h1;have h3:a^f=a^(e*(f / e))*a^(f % e):=by rw[<-Nat.pow_add,Nat.div_add_mod]
  rw[h3,Gf,xJ7 h1,<-Gf,Nat.one_mul] at h2;exact h2
theorem pock {n q m a:Nat} (hn:2<=n) (hq:Prm q) (hm:n-1=q*m) (h1:a^(n-1) % n=1) (h2:Nat.gcd (a^m-1) n=1) {r:Nat} (hr:Prm r) (hrn:r ∣ n):q ∣ r-1:=by
 have hra:¬r ∣ a:=by
  intro hd
  have h3:r ∣ a^(n-1):=by
   obtain⟨k,hk⟩:∃k,n-1=k+1:=⟨n-2,ω⟩;rw[hk,Fs];exact Nat.dvd_trans hd (Nat.dvd_mul_left _ _)
  have h4:r ∣ 1:=by
   have h5:a^(n-1)=n*(a^(n-1) / n)+1:=by
    have:=Nat.div_add_mod (a^(n-1)) n;omega
   rw[h5] at h3;exact(Nat.dvd_add_right (Nat.dvd_trans hrn (Nat.dvd_mul_right _ _))).1 h3
  have:=Gh ω h4;have:=hr.1;omega
 have hap:a^(n-1) % r=1 % r:=by
  have h5:a^(n-1) % n % r=a^(n-1) % r:=Nat.mod_mod_of_dvd _ hrn;rw[<-h5,h1]
 have hco:Nat.Coprime a r:=by
  rcases hr.2 (Nat.gcd a r) (Nat.gcd_dvd_right a r) with e|e
  ·exact e
  ·exact absurd (e▸Nat.gcd_dvd_left a r) hra
 have hf:a^(r-1) % r=1 % r:=by rw[flt1 hr hra];exact(Dx hr.1).symm
 have hg:=yKb (n-1) (r-1) hap hf;apply Bo;intro hnd
 have hcq:Nat.Coprime q (r-1):=by
  rcases hq.2 (Nat.gcd q (r-1)) (Nat.gcd_dvd_left _ _) with e|e
  ·exact e
  ·exact absurd (e▸Nat.gcd_dvd_right q (r-1)) hnd
 have hgm:Nat.gcd (n-1) (r-1) ∣ m:=by
  have h6:Nat.gcd (n-1) (r-1) ∣ q*m:=hm▸Nat.gcd_dvd_left _ _
  have h7:Nat.Coprime (Nat.gcd (n-1) (r-1)) q:=by
   have:Nat.gcd (n-1) (r-1) ∣ r-1:=Nat.gcd_dvd_right _ _;exact(Nat.Coprime.coprime_dvd_right this hcq).symm
  exact Nat.Coprime.dvd_of_dvd_mul_left h7 h6
 obtain⟨c,hc⟩:=hgm;have h8:a^m % r=1 % r:=by rw[hc];exact xJ7 hg c
 have ha0:0<a:=Nat.pos_of_ne_zero λe=>hra (by rw[e];exact Nat.dvd_zero _);have h9:=xJm h8;have h10:r ∣ 1:=h2▸Nat.dvd_gcd h9 hrn;have:=Gh ω h10;have:=hr.1;omega
theorem xLv {n F:Nat} (hn:2<=n) (hF:n<F*F) (h:∀r,Prm r->r ∣ n->F ∣ r-1):Prm n:=by
 apply Bo;intro hp
 have:∃d,d ∣ n/\d≠1/\d≠n:=by
  apply Bo;intro hh
  exact hp ⟨hn,λd hd=>by
   apply Bo;intro h3;exact hh ⟨d,hd,λe=>h3 (.inl e),λe=>h3 (.inr e)⟩⟩
 obtain⟨d,⟨e,he⟩,h1,h2⟩:=this;have hd0:d≠0:=λh0=>by rw[h0] at he;omega
 have he0:e≠0:=λh0=>by rw[h0] at he;omega
 have he1:e≠1:=λh0=>by rw[h0] at he;omega
 obtain⟨r,hr,hrd⟩:=yIt d ω;obtain⟨s,hs,hse⟩:=yIt e ω;have k1:F ∣ r-1:=h r hr (Nat.dvd_trans hrd ⟨e,he⟩);have k2:F ∣ s-1:=h s hs (Nat.dvd_trans hse ⟨d,by rw[he,Fp]⟩);have l1:=Gh (by have:=hr.1;omega) k1;have l2:=Gh (by have:=hs.1;omega) k2
 have l3:=Gh ω hrd;have l4:=Gh ω hse;have:F*F<=d*e:=Nat.mul_le_mul ω ω;omega
theorem xOi {a b n:Nat} (h:Nat.Coprime a b) (h1:a ∣ n) (h2:b ∣ n):a*b ∣ n:=Nat.Coprime.mul_dvd_of_dvd_of_dvd h h1 h2
def pm (n:Nat):Nat->Nat->Nat->Nat->Nat
 |0,_,_,acc=>acc
 |f+1,e,b,acc=>pm n f (e / 2) (b*b % n) (if e % 2=1 then acc*b % n else acc)
theorem pm_eq (n:Nat):∀f e b acc,e<2^f->pm n f e b acc % n=acc*b^e % n
 |0,e,b,acc,h=>by
  obtain rfl:e=0:=by simpa using h
  simp[pm]
 |f+1,e,b,acc,h=>by
  rw[pm,pm_eq n f (e / 2) _ _ (by rw[Fs] at h;omega)];have hb:(b*b % n)^(e / 2) % n=b^(2*(e / 2)) % n:=by rw[<-Nat.pow_mod,Nat.pow_mul,Nat.pow_two]
  have h2:=Nat.div_add_mod e 2;rw[Gf,hb,<-Gf];split
  ·rename_i h1
   rw[Gf,Nat.mod_mod,<-Gf,Nat.mul_assoc,<-Nat.pow_succ',show(2*(e / 2)).succ=e by omega]
  ·rename_i h1
   rw[show 2*(e / 2)=e by omega]
theorem xJ8 {n f e b v:Nat} (h:e<2^f) (hv:pm n f e b 1 % n=v):b^e % n=v:=by
 rw[<-hv,pm_eq n f e b 1 h,Nat.one_mul]
theorem xY8 {x n v:Nat} (h:x % n=v) (hv:1<=v) (hg:Nat.gcd (v-1) n=1):Nat.gcd (x-1) n=1:=by
 have e:(x-1) % n=(v-1) % n:=by
  have:=Nat.div_add_mod x n;rw[show x-1=n*(x / n)+(v-1) by omega,Nat.mul_add_mod]
 rw[Nat.gcd_comm,Nat.gcd_rec,e,<-Nat.gcd_rec,Nat.gcd_comm,hg]
theorem xL2 {n q m a f v:Nat} (hn:2<=n) (hq:Prm q) (hm:n-1=q*m) (hf:n-1<2^f) (hmf:m<2^f) (p1:pm n f (n-1) a 1 % n=1) (p2:pm n f m a 1 % n=v) (hv:1<=v) (hg:Nat.gcd (v-1) n=1) {r:Nat} (hr:Prm r) (hrn:r ∣ n):q ∣ r-1:=
 pock hn hq hm (xJ8 hf p1) (xY8 (xJ8 hmf p2) hv hg) hr hrn
def yGk (n:Nat):Nat->Bool
 |0=>true
 |k+1=>(n % (k+2)!=0)&&yGk n k
theorem xGs {n:Nat}:∀{k},yGk n k=true->∀d,2<=d->d<=k+1->¬d ∣ n
 |0,_,d,h1,h2=>by omega
 |k+1,h,d,h1,h2=>by
  rw[yGk,Au] at h
  by_cases e:d=k+2
  ·subst e;intro hd;have:=Nat.mod_eq_zero_of_dvd hd;simp[this] at h
  ·exact xGs h.2 d h1 ω
theorem xD1 {n k:Nat} (hn:2<=n) (hk:n<(k+2)*(k+2)) (h:yGk n k=true):Prm n:=by
 apply Bo;intro hp
 have:∃d,d ∣ n/\d≠1/\d≠n:=by
  apply Bo;intro hh
  exact hp ⟨hn,λd hd=>by
   apply Bo;intro h3;exact hh ⟨d,hd,λe=>h3 (.inl e),λe=>h3 (.inr e)⟩⟩
 obtain⟨d,⟨e,he⟩,h1,h2⟩:=this;have hd0:d≠0:=λh0=>by rw[h0] at he;omega
 have he0:e≠0:=λh0=>by rw[h0] at he;omega
 have he1:e≠1:=λh0=>by rw[h0] at he;omega
 by_cases hd:d<=k+1
 ·exact xGs h d ω hd ⟨e,he⟩
 ·by_cases hee:e<=k+1
  ·exact xGs h e ω hee ⟨d,by rw[he,Fp]⟩
  ·have:(k+2)*(k+2)<=d*e:=Nat.mul_le_mul ω ω;omega
theorem yK9:Prm 4153:=xD1 (k:=63) δ δ (by decide +kernel)
theorem yBd:Prm 430751:=xD1 (k:=655) δ δ (by decide +kernel)
theorem pr_127:Prm 127:=xD1 (k:=10) δ δ (by decide +kernel)
theorem xXh:Prm 8574133:=xD1 (k:=2927) δ δ (by decide +kernel)
theorem xNf:Prm 2773320623:=xD1 (k:=52661) δ δ (by decide +kernel)
theorem pr_q2:Prm 31757755568855353:=by
 have k0:∀r,Prm r->r ∣ 31757755568855353->430751 ∣ r-1:=λr hr hd=>xL2 (q:=430751) (m:=73726481352) (a:=2) (f:=55) (v:=15280470251845350) δ yBd δ δ δ (by decide +kernel) (by decide +kernel) δ (by decide +kernel) hr hd
 have k1:∀r,Prm r->r ∣ 31757755568855353->4153 ∣ r-1:=λr hr hd=>xL2 (q:=4153) (m:=7646943310584) (a:=2) (f:=55) (v:=28256283979054930) δ yK9 δ δ δ (by decide +kernel) (by decide +kernel) δ (by decide +kernel) hr hd
 exact xLv (F:=1788908903) δ δ (λr hr hd=>by have:=xOi (show Nat.Coprime 430751 4153 by decide +kernel) (k0 r hr hd) (k1 r hr hd);simpa using this)
theorem pr_q3:Prm 1919519569386763:=by
 have k0:∀r,Prm r->r ∣ 1919519569386763->8574133 ∣ r-1:=λr hr hd=>xL2 (q:=8574133) (m:=223873314) (a:=2) (f:=51) (v:=1059928654987441) δ xXh δ δ δ (by decide +kernel) (by decide +kernel) δ (by decide +kernel) hr hd
 have k1:∀r,Prm r->r ∣ 1919519569386763->127 ∣ r-1:=λr hr hd=>xL2 (q:=127) (m:=15114327318006) (a:=2) (f:=51) (v:=576774792492622) δ pr_127 δ δ δ (by decide +kernel) (by decide +kernel) δ (by decide +kernel) hr hd
 exact xLv (F:=1088914891) δ δ (λr hr hd=>by have:=xOi (show Nat.Coprime 8574133 127 by decide +kernel) (k0 r hr hd) (k1 r hr hd);simpa using this)
theorem pr_q4:Prm 72106336199:=by
 have k0:∀r,Prm r->r ∣ 72106336199->2773320623 ∣ r-1:=λr hr hd=>xL2 (q:=2773320623) (m:=26) (a:=2) (f:=37) (v:=67108864) δ xNf δ δ δ (by decide +kernel) (by decide +kernel) δ (by decide +kernel) hr hd;exact xLv (F:=2773320623) δ δ k0
theorem pr_q1:Prm 75445702479781427272750846543864801:=by
 have k0:∀r,Prm r->r ∣ 75445702479781427272750846543864801->1919519569386763 ∣ r-1:=λr hr hd=>xL2 (q:=1919519569386763) (m:=39304471641247389600) (a:=2) (f:=116) (v:=56747016255153332959347766392083459) δ pr_q3 δ δ δ (by decide +kernel) (by decide +kernel) δ (by decide +kernel) hr hd
 have k1:∀r,Prm r->r ∣ 75445702479781427272750846543864801->72106336199 ∣ r-1:=λr hr hd=>xL2 (q:=72106336199) (m:=1046311689884858398375200) (a:=2) (f:=116) (v:=71619851993489548214160924360205394) δ pr_q4 δ δ δ (by decide +kernel) (by decide +kernel) δ (by decide +kernel) hr hd
 exact xLv (F:=138409523410761641138333837) δ δ (λr hr hd=>by have:=xOi (show Nat.Coprime 1919519569386763 72106336199 by decide +kernel) (k0 r hr hd) (k1 r hr hd);simpa using this)
theorem pr_q0:Prm 74058212732561358302231226437062788676166966415465897661863160754340907:=by
 have k0:∀r,Prm r->r ∣ 74058212732561358302231226437062788676166966415465897661863160754340907->75445702479781427272750846543864801 ∣ r-1:=λr hr hd=>xL2 (q:=75445702479781427272750846543864801) (m:=981609426360740691344999861639072106) (a:=2) (f:=236) (v:=69490809710348678725736597923071784769591275419387514694139338586948360) δ pr_q1 δ δ δ (by decide +kernel) (by decide +kernel) δ (by decide +kernel) hr hd
 have k1:∀r,Prm r->r ∣ 74058212732561358302231226437062788676166966415465897661863160754340907->31757755568855353 ∣ r-1:=λr hr hd=>xL2 (q:=31757755568855353) (m:=2331972502653487852620185443007392165117953542933313402) (a:=2) (f:=236) (v:=50366660687963342066214195241331738400016478712605795091965648721912165) δ pr_q2 δ δ δ (by decide +kernel) (by decide +kernel) δ (by decide +kernel) hr hd
 exact xLv (F:=2395986178073482737347378734667165195040796357129753) δ δ (λr hr hd=>by have:=xOi (show Nat.Coprime 75445702479781427272750846543864801 31757755568855353 by decide +kernel) (k0 r hr hd) (k1 r hr hd);simpa using this)
theorem pr_p:Prm 57896044618658097711785492504343953926634992332820282019728792003956564819949:=by
 have k0:∀r,Prm r->r ∣ 57896044618658097711785492504343953926634992332820282019728792003956564819949->74058212732561358302231226437062788676166966415465897661863160754340907 ∣ r-1:=λr hr hd=>xL2 (q:=74058212732561358302231226437062788676166966415465897661863160754340907) (m:=781764) (a:=2) (f:=255) (v:=427094198651976259540344842774561673889945192655078505504941250475370961481) δ pr_q0 δ δ δ (by decide +kernel) (by decide +kernel) δ (by decide +kernel) hr hd
 exact xLv (F:=74058212732561358302231226437062788676166966415465897661863160754340907) δ δ k0
end DH
namespace DH
open Lean.Grind
def PP:Nat:=57896044618658097711785492504343953926634992332820282019728792003956564819949
theorem yIj:Prm PP:=pr_p
instance :NeZero PP:=⟨by unfold PP;decide⟩
def FP:Type:=Fin PP
instance :CommRing FP:=inferInstanceAs (CommRing (Fin PP))
def toF (a:Int):FP:=(Ring.intCast (α:=FP)).intCast a
def xIn (a:FP):Nat:=Fin.val a
theorem yA3 (a:FP):xIn a<PP:=Fin.isLt a
theorem xAm {a b:FP} (h:xIn a=xIn b):a=b:=Fin.ext h
theorem xPa:xIn 0=0:=rfl
theorem xI0:xIn 1=1:=by
 show 1 % PP=1;unfold PP
 decide
theorem xN2 (a b:FP):xIn (a*b)=xIn a*xIn b % PP:=rfl
theorem xUc (a:FP):∀n:Nat,xIn (a^n)=xIn a^n % PP
 |0=>by rw[Semiring.pow_zero,xI0,Nat.pow_zero];unfold PP;decide
 |n+1=>by
  rw[Semiring.pow_succ,xN2,xUc a n,Fs,Gf (xIn a^n % PP),Nat.mod_mod,<-Gf]
theorem xT7 {a:FP} (h:a≠0):a*a^(PP-2)=1:=by
 apply xAm;rw[xN2,xUc,xI0]
 have hd:¬PP ∣ xIn a:=by
  intro hd;have h0:xIn a=0:=Nat.eq_zero_of_dvd_of_lt hd (yA3 a);exact h (xAm h0)
 have:=flt1 yIj hd;have h2:PP-1=(PP-2)+1:=by unfold PP;decide
 rw[h2,Fs] at this;rw[Gf,Nat.mod_mod,<-Gf,Fp];exact this
def yJb (a:FP):Int->FP
 |.ofNat n=>a^n
 |.negSucc n=>(a^(n+1))^(PP-2)
theorem one_pow (n:Nat):(1:FP)^n=1:=by
 induction n with
 |zero=>exact Semiring.pow_zero _
 |succ n ih=>rw[Semiring.pow_succ,ih,Semiring.mul_one]
theorem zero_pow {n:Nat} (h:n≠0):(0:FP)^n=0:=by
 cases n with
 |zero=>exact absurd rfl h
 |succ n=>rw[Semiring.pow_succ,Semiring.mul_zero]
theorem yA8:PP-2≠0:=by unfold PP;decide
theorem xT8 (a:FP):(a^(PP-2))^(PP-2)=a:=by
 by_cases h:a=0
 ·rw[h,zero_pow yA8,zero_pow yA8]
 ·have h1:=xT7 h
  have h2:a^(PP-2)≠0:=by
   intro e;rw[e,Semiring.mul_zero] at h1;have:=Ap xIn h1;rw[xI0,xPa] at this;exact absurd this δ
  have h3:=xT7 h2;generalize (a^(PP-2))^(PP-2)=b at*;generalize a^(PP-2)=c at*
  calc b=1*b:=by grind
   _=a*c*b:=by rw[h1]
   _=a*(c*b):=by grind
   _=a:=by rw[h3];grind
instance :Field FP where
 inv a:=a^(PP-2)
 div a b:=a*b^(PP-2)
 zpow:=⟨yJb⟩
 div_eq_mul_inv _ _:=rfl
 zero_ne_one:=by
  intro h;have:=Ap xIn h;rw[xI0,xPa] at this;exact absurd this δ
 inv_zero:=zero_pow yA8
 mul_inv_cancel:=xT7
 zpow_zero a:=Semiring.pow_zero a
 zpow_succ a n:=Semiring.pow_succ a n
 zpow_neg a n:=by
  show yJb a (-n)=(yJb a n)^(PP-2)
  match n with
  |.ofNat 0=>
   show a^0=(a^0)^(PP-2);rw[Semiring.pow_zero,one_pow]
  |.ofNat (n+1)=>rfl
  |.negSucc n=>
   show a^(n+1)=((a^(n+1))^(PP-2))^(PP-2);rw[xT8]
section
variable {F:Type} [Field F] {d:F}
def rY (p:F×F):F:=(1+p.2) / (1-p.2)
theorem xBy (a:F):a / 0=0:=by rw[Field.div_eq_mul_inv,Field.inv_zero,Semiring.mul_zero]
theorem yB6 {p:F×F} {X Z:F} (h:Rep p X Z):X*(1-p.2)=Z*(1+p.2):=by
 have:=h.t
 grind
theorem xYf {a b c e:F} (hb:b≠0) (he:e≠0) (h:a*e=b*c):a / b=c / e:=by grind
theorem yK5 (h2:(2:F)≠0) {p:F×F} {X Z:F} (h:Rep p X Z):X / Z=rY p:=by
 have hc:=yB6 h;have hs:=h.s;unfold rY
 by_cases hz:Z=0
 ·subst hz;rw[Semiring.zero_mul] at hc;have hx:X≠0:=by clear hc;grind
  have h1:1-p.2=0:=by
   apply Bo;intro hh;exact zX hx hh hc
  rw[h1,xBy,xBy]
 ·have h1:1-p.2≠0:=by
   intro hh;rw[hh,Semiring.mul_zero] at hc
   have h3:1+p.2≠0:=by
    intro h4;exact h2 (by clear hc hs;grind)
   exact zX hz h3 hc.symm
  exact xYf hz h1 hc
theorem rep_of (h2:(2:F)≠0) {p:F×F} (h:1-p.2≠0):Rep p (rY p) 1:=by
 unfold rY;have k:=div_mul (a:=1+p.2) h;generalize (1+p.2) / (1-p.2)=w at*
 constructor
 ·intro h3;refine h2 ?_;have:(w+1)*(1-p.2)=2:=by clear h3;grind
  rw[<-this,h3,Semiring.zero_mul]
 ·refine cancel h ?_;have e1:(w-1)*(1-p.2)=2*p.2:=by grind
  have e2:(w+1)*p.2*(1-p.2)=2*p.2:=by grind
  rw[e1,e2]
structure LF (F:Type) where
 (x2 z2 x3 z3:F)
 sw:Bool
def xSa (s:LF F) (b:Bool):LF F:=⟨if s.sw !=b then s.x3 else s.x2,if s.sw !=b then s.z3 else s.z2,if s.sw !=b then s.x2 else s.x3,if s.sw !=b then s.z2 else s.z3,b⟩
def xX5 (a u:F) (s:LF F):LF F:=
 ⟨((s.x2+s.z2)*(s.x2+s.z2))*((s.x2-s.z2)*(s.x2-s.z2)),
  ((s.x2+s.z2)*(s.x2+s.z2)- (s.x2-s.z2)*(s.x2-s.z2))*((s.x2+s.z2)*(s.x2+s.z2)+((s.x2+s.z2)*(s.x2+s.z2)- (s.x2-s.z2)*(s.x2-s.z2))*a),
  ((s.x3-s.z3)*(s.x2+s.z2)+(s.x3+s.z3)*(s.x2-s.z2))*((s.x3-s.z3)*(s.x2+s.z2)+(s.x3+s.z3)*(s.x2-s.z2)),
  u*(((s.x3-s.z3)*(s.x2+s.z2)- (s.x3+s.z3)*(s.x2-s.z2))*((s.x3-s.z3)*(s.x2+s.z2)- (s.x3+s.z3)*(s.x2-s.z2))),s.sw⟩
def ldF (a:F) (bt:Nat->Bool) (u:F):Nat->LF F
 |0=>⟨1,0,u,1,false⟩
 |n+1=>xX5 a u (xSa (ldF a bt u n) (bt (254-n)))
def xVz (s:LF F):F:=(if s.sw then s.x3 else s.x2) / (if s.sw then s.z3 else s.z2)
def wR (bt:Nat->Bool):Nat->Nat
 |0=>0
 |n+1=>2*wR bt n+if bt (254-n) then 1 else 0
def LInv (d:F) (q:F×F) (n:Nat) (s:LF F):Prop:=
 Rep (mul d n q) (if s.sw then s.x3 else s.x2) (if s.sw then s.z3 else s.z2)/\Rep (mul d (n+1) q) (if s.sw then s.x2 else s.x3) (if s.sw then s.z2 else s.z3)
theorem yDw (u x2 z2 x3 z3:F):((x2-z2)*(x3+z3)+(x2+z2)*(x3-z3))*((x2-z2)*(x3+z3)+(x2+z2)*(x3-z3))=((x3-z3)*(x2+z2)+(x3+z3)*(x2-z2))*((x3-z3)*(x2+z2)+(x3+z3)*(x2-z2))/\u*(((x2-z2)*(x3+z3)- (x2+z2)*(x3-z3))*((x2-z2)*(x3+z3)- (x2+z2)*(x3-z3)))=u*(((x3-z3)*(x2+z2)- (x3+z3)*(x2-z2))*((x3-z3)*(x2+z2)- (x3+z3)*(x2-z2))):=by
 constructor
 ·grind
 ·grind
theorem LInv.step (hd:Good d) {a:F} (ha:a*(1-d)=d) {q:F×F} (hq:On d q) {u:F} (hu:u≠0) (hr:Rep q u 1) {n:Nat} {s:LF F} (h:LInv d q n s) (b:Bool):LInv d q (2*n+if b then 1 else 0) (xX5 a u (xSa s b)):=by
 obtain⟨h1,h2⟩:=h;have o1:=hq.mul hd n;have o2:=hq.mul hd (n+1);have e1:mul d (n+1) q=add d (mul d n q) q:=rfl;have m0:add d (mul d n q) (mul d n q)=mul d (2*n) q:=by rw[<-mul_add hd hq,Nat.two_mul]
 have m1:add d (mul d n q) (mul d (n+1) q)=mul d (2*n+1) q:=by rw[<-mul_add hd hq];congr 1;omega
 have m2:add d (mul d (n+1) q) (mul d (n+1) q)=mul d (2*n+1+1) q:=by rw[<-mul_add hd hq];congr 1;omega
 have dif:∀{X Z U V:F},Rep (mul d n q) X Z->Rep (mul d (n+1) q) U V->Rep (mul d (2*n+1) q) (((U-V)*(X+Z)+(U+V)*(X-Z))*((U-V)*(X+Z)+(U+V)*(X-Z))) (u*(((U-V)*(X+Z)- (U+V)*(X-Z))*((U-V)*(X+Z)- (U+V)*(X-Z)))):=by
  intro X Z U V k1 k2;rw[<-m1];rw[e1] at k2⊢;exact Rep.dif hd o1 hq hu hr k1 k2
 obtain⟨x2,z2,x3,z3,sw⟩:=s;cases sw<;>cases b<;>simp only[Bool.false_eq_true,if_false,if_true] at h1 h2
 ·refine⟨?_,?_⟩
  ·show Rep (mul d (2*n) q) _ _;rw[<-m0];exact Rep.dbl hd ha o1 h1
  ·exact dif h1 h2
 ·refine⟨?_,?_⟩
  ·obtain⟨f1,f2⟩:=yDw u x2 z2 x3 z3;have:=dif h1 h2;rw[<-f1,<-f2] at this;exact this
  ·show Rep (mul d (2*n+1+1) q) _ _;rw[<-m2];exact Rep.dbl hd ha o2 h2
 ·refine⟨?_,?_⟩
  ·show Rep (mul d (2*n) q) _ _;rw[<-m0];exact Rep.dbl hd ha o1 h1
  ·exact dif h1 h2
 ·refine⟨?_,?_⟩
  ·obtain⟨f1,f2⟩:=yDw u x3 z3 x2 z2;have:=dif h1 h2;rw[<-f1,<-f2] at this;exact this
  ·show Rep (mul d (2*n+1+1) q) _ _;rw[<-m2];exact Rep.dbl hd ha o2 h2
theorem xMa (hd:Good d) {a:F} (ha:a*(1-d)=d) {q:F×F} (hq:On d q) {u:F} (hu:u≠0) (hr:Rep q u 1) (bt:Nat->Bool):∀n,LInv d q (wR bt n) (ldF a bt u n)
 |0=>⟨Rep.zer,by show Rep (mul d 1 q) u 1;rw[mul_one];exact hr⟩
 |n+1=>(xMa hd ha hq hu hr bt n).step hd ha hq hu hr _
theorem xM9 (hd:Good d) {a:F} (ha:a*(1-d)=d) {q:F×F} (hq:On d q) {u:F} (hu:u≠0) (hr:Rep q u 1) (bt:Nat->Bool):xVz (ldF a bt u 255)=rY (mul d (wR bt 255) q):=
 yK5 hd.two (xMa hd ha hq hu hr bt 255).1
theorem yAq (a x z:F) (h:x*z=0):((x+z)*(x+z)- (x-z)*(x-z))*((x+z)*(x+z)+((x+z)*(x+z)- (x-z)*(x-z))*a)=0:=by
 have:(x+z)*(x+z)- (x-z)*(x-z)=0:=by grind
 rw[this,Semiring.zero_mul]
theorem xJw (a:F) (bt:Nat->Bool):∀n,(ldF a bt 0 n).x2*(ldF a bt 0 n).z2=0/\(ldF a bt 0 n).x3*(ldF a bt 0 n).z3=0/\(n≠0->(ldF a bt 0 n).z2=0/\(ldF a bt 0 n).z3=0)
 |0=>⟨by show(1:F)*0=0;grind,by show(0:F)*1=0;grind,λh=>absurd rfl h⟩
 |n+1=>by
  obtain⟨h1,h2,_⟩:=xJw a bt n;rw[ldF];generalize ldF a bt 0 n=s at*;obtain⟨x2,z2,x3,z3,sw⟩:=s
  have k1:(xX5 a 0 (xSa ⟨x2,z2,x3,z3,sw⟩ (bt (254-n)))).z2=0:=by
   refine yAq _ _ _ ?_;unfold xSa;simp only;split
   ·exact h2
   ·exact h1
  have k2:(xX5 a 0 (xSa ⟨x2,z2,x3,z3,sw⟩ (bt (254-n)))).z3=0:=Semiring.zero_mul _;exact⟨by rw[k1,Semiring.mul_zero],by rw[k2,Semiring.mul_zero],λ_=>⟨k1,k2⟩⟩
theorem xXz (a:F) (bt:Nat->Bool):xVz (ldF a bt 0 255)=0:=by
 obtain⟨_,_,h⟩:=xJw a bt 255;obtain⟨h1,h2⟩:=h δ;unfold xVz;split
 ·rw[h2,xBy]
 ·rw[h1,xBy]
theorem x_zero (hd:Good d) {x y:F} (h:On d (x,y)) (hy:y*y=1):x=0:=by
 unfold On at h;simp only at h;have nd:1-d≠0:=λh=>hd.ns 1 (by grind);have:(1-d)*(x*x)=0:=by clear nd;grind
 apply Bo;intro hh;exact zX nd (zX hh hh) this
theorem yGa (hd:Good d) {q:F×F} (hq:On d q) (h:rY q=0) (n:Nat):rY (mul d n q)=0:=by
 obtain⟨x,y⟩:=q
 have hy:y*y=1:=by
  unfold rY at h;simp only at h
  by_cases h1:1-y=0
  ·grind
  ·have:=div_mul (a:=1+y) h1;rw[h,Semiring.zero_mul] at this
   grind
 have hx:=x_zero hd hq hy;subst hx
 have key:∀n,((mul d n (0,y)).1=0)/\(mul d n (0,y)).2*(mul d n (0,y)).2=1:=by
  intro n
  induction n with
  |zero=>exact⟨rfl,by show(1:F)*1=1;grind⟩
  |succ n ih=>
   obtain⟨i1,i2⟩:=ih;have e1:(mul d (n+1) (0,y)).1=((mul d n (0,y)).1*y+0*(mul d n (0,y)).2) / (1+d*(mul d n (0,y)).1*0*(mul d n (0,y)).2*y):=rfl;have e2:(mul d (n+1) (0,y)).2=((mul d n (0,y)).2*y- (mul d n (0,y)).1*0) / (1-d*(mul d n (0,y)).1*0*(mul d n (0,y)).2*y):=rfl
   rw[e1,e2,i1];generalize (mul d n (0,y)).2=v at*;clear e1 e2 h hq
   constructor
   ·grind
   ·grind
 have k2:=(key n).2;unfold rY
 by_cases h1:1- (mul d n (0,y)).2=0
 ·rw[h1,xBy]
 ·have:1+(mul d n (0,y)).2=0:=by
   apply Bo;intro hh;refine zX h1 hh ?_;clear h1 hh
   grind
  rw[this,Field.div_eq_mul_inv,Semiring.zero_mul]
theorem xM8 (hd:Good d) {a:F} (ha:a*(1-d)=d) {q:F×F} (hq:On d q) {u:F} (hu:u≠0) (hr:Rep q u 1) (b1 b2:Nat->Bool):xVz (ldF a b2 (xVz (ldF a b1 u 255)) 255)=rY (mul d (wR b1 255*wR b2 255) q):=by
 rw[xM9 hd ha hq hu hr b1,<-yC0 hd hq];have ho:=hq.mul hd (wR b1 255)
 by_cases h0:rY (mul d (wR b1 255) q)=0
 ·rw[h0,xXz,yGa hd ho h0]
 ·refine xM9 hd ha ho h0 (rep_of hd.two ?_) b2;intro h1;refine h0 ?_;unfold rY;rw[h1,xBy]
theorem xT3 (hd:Good d) {a:F} (ha:a*(1-d)=d) {q:F×F} (hq:On d q) {u:F} (hu:u≠0) (hr:Rep q u 1) (b1 b2:Nat->Bool):xVz (ldF a b2 (xVz (ldF a b1 u 255)) 255)=xVz (ldF a b1 (xVz (ldF a b2 u 255)) 255):=by
 rw[xM8 hd ha hq hu hr,xM8 hd ha hq hu hr,Fp]
end
def mkF (n:Nat):FP:=Fin.ofNat PP n
def dF:FP:=mkF 20800338683988658368647408995589388737092878452977063003340006470870624536394
def baseF:FP×FP:=(mkF 9771384041963202563870679428059935816164187996444183106833894008023910952347,mkF 46316835694926478169428394003475163141307993866256225615783033603165251855960)
theorem yM1:Good dF:=by
 constructor
 ·intro r h
  have h0:r≠0:=by
   intro e;rw[e,Semiring.mul_zero] at h;have:=Ap xIn h;exact absurd this (by decide +kernel)
  have hd:¬PP ∣ xIn r:=by
   intro hd;exact h0 (xAm (Nat.eq_zero_of_dvd_of_lt hd (yA3 r)))
  have h1:=flt1 yIj hd
  have h2:xIn dF^((PP-1) / 2) % PP=1:=by
   rw[<-h,xN2,<-Nat.pow_mod,Nat.mul_pow,<-Nat.pow_add,show(PP-1) / 2+(PP-1) / 2=PP-1 by unfold PP;decide];exact h1
  have h3:xIn dF^((PP-1) / 2) % PP=PP-1:=xJ8 (f:=255) (by decide +kernel) (by decide +kernel);rw[h3] at h2;exact absurd h2 (by decide +kernel)
 ·intro h;have:=Ap xIn h;exact absurd this (by decide +kernel)
theorem dF_a:(mkF 121665)*(1-dF)=dF:=xAm (by decide +kernel)
theorem yM8:On dF baseF:=by
 unfold On;exact xAm (by decide +kernel)
theorem yI0:Rep baseF (mkF 9) 1:=by
 constructor
 ·intro h;have:=Ap xIn h;exact absurd this (by decide +kernel)
 ·exact xAm (by decide +kernel)
theorem yKr:mkF 9≠0:=by
 intro h;have:=Ap xIn h;exact absurd this (by decide +kernel)
def xF (bt:Nat->Bool) (u:FP):FP:=xVz (ldF (mkF 121665) bt u 255)
theorem yJe (b1 b2:Nat->Bool):xF b2 (xF b1 (mkF 9))=xF b1 (xF b2 (mkF 9)):=xT3 yM1 dF_a yM8 yKr yI0 b1 b2
end DH
namespace Mailsack
open Lean.Grind
theorem uU {x:Int} (h0:0<=x) (h1:x<18446744073709551616):Go.IntKind.u64.wrap x=x:=by
 rw[show Go.IntKind.u64.wrap x=x % 18446744073709551616 from by simp[Go.IntKind.wrap,Go.IntKind.signed,Go.IntKind.bits]];omega
theorem xHc {a:Int} (ha:U64 a):Go.bits .and .u64 a 2251799813685247=a % 2251799813685248:=by
 obtain⟨a0,a1⟩:=ha;obtain⟨x,rfl⟩:=Ct a0;have h:=Go.bits_and_u64_nat x 2251799813685247 ω δ;rw[show((2251799813685247:Nat):Int)=2251799813685247 by rfl] at h;rw[h,show(2251799813685247:Nat)=2^51-1 by decide,Nat.and_two_pow_sub_one_eq_mod];omega
theorem xAw (k:Nat) {a b:Int} (ha:0<=a) (ha1:a<((2^k:Nat):Int)) (hb:0<=b) (hb1:b*((2^k:Nat):Int)<18446744073709551616) (hk:a<18446744073709551616):Go.bits .or .u64 a (b*((2^k:Nat):Int))=a+b*((2^k:Nat):Int):=by
 obtain⟨x,rfl⟩:=Ct ha;obtain⟨y,rfl⟩:=Ct hb;have e:(y:Int)*((2^k:Nat):Int)=((2^k*y:Nat):Int):=by rw[Int.natCast_mul,Int.mul_comm]
 rw[e] at hb1⊢;have hx:x<2^k:=ω;rw[Go.bits_or_u64_nat x (2^k*y) ω ω,Nat.or_comm,<-Fq hx y];omega
theorem yKh (k:Nat) {a b:Int} (ha:0<=a) (ha1:a<((2^k:Nat):Int)) (hb:0<=b) (hb1:b*((2^k:Nat):Int)<18446744073709551616) (hk:a<18446744073709551616):Go.bits .or .u64 (b*((2^k:Nat):Int)) a=b*((2^k:Nat):Int)+a:=by
 obtain⟨x,rfl⟩:=Ct ha;obtain⟨y,rfl⟩:=Ct hb;have e:(y:Int)*((2^k:Nat):Int)=((2^k*y:Nat):Int):=by rw[Int.natCast_mul,Int.mul_comm]
 rw[e] at hb1⊢;have hx:x<2^k:=ω;rw[Go.bits_or_u64_nat (2^k*y) x ω ω,<-Fq hx y];omega
def Vl (l:List Int):Int:=l.getD 0 0+2251799813685248*(l.getD 1 0+2251799813685248*(l.getD 2 0+2251799813685248*(l.getD 3 0+2251799813685248*l.getD 4 0)))
def pI:Int:=57896044618658097711785492504343953926634992332820282019728792003956564819949
structure Nr (l:List Int):Prop where
 len:l.length=5
 ge:∀i,0<=l.getD i 0
 lt:∀i,l.getD i 0<2251799813947392
theorem xUx {a b:Int} (ha:U64 a) (hb:U64 b):nar a b=a % 2251799813685248+b / 2251799813685248:=by
 unfold nar;rw[xHc ha];obtain⟨a0,a1⟩:=ha;obtain⟨b0,b1⟩:=hb;exact uU ω ω
theorem yKt {a b:Int} (ha:U64 a) (hb:U64 b):nar0 a b=a % 2251799813685248+19*(b / 2251799813685248):=by
 unfold nar0;rw[xHc ha];obtain⟨a0,a1⟩:=ha;obtain⟨b0,b1⟩:=hb;exact uU ω ω
theorem xXu {a b c d e:Int} (ha:U64 a) (hb:U64 b) (hc:U64 c) (hd:U64 d) (he:U64 e):zQ [a,b,c,d,e]=[a % 2251799813685248+19*(e / 2251799813685248),b % 2251799813685248+a / 2251799813685248,c % 2251799813685248+b / 2251799813685248,d % 2251799813685248+c / 2251799813685248,e % 2251799813685248+d / 2251799813685248]:=by
 show[nar0 a e,nar b a,nar c b,nar d c,nar e d]=_;rw[yKt ha he,xUx hb ha,xUx hc hb,xUx hd hc,xUx he hd]
theorem Nr.five {a b c d e:Int} (ha:0<=a/\a<2251799813947392) (hb:0<=b/\b<2251799813947392) (hc:0<=c/\c<2251799813947392) (hd:0<=d/\d<2251799813947392) (he:0<=e/\e<2251799813947392):Nr [a,b,c,d,e]:=by
 have key:∀i,0<=[a,b,c,d,e].getD i 0/\[a,b,c,d,e].getD i 0<2251799813947392:=by
  intro i
  match i with
  |0=>exact ha
  |1=>exact hb
  |2=>exact hc
  |3=>exact hd
  |4=>exact he
  |n+5=>
   rw[Aa,Bz σ];exact⟨δ,δ⟩
 exact⟨rfl,λi=>(key i).1,λi=>(key i).2⟩
theorem pE {l:List Int} (hl:l.length=5) (h:yT l):Nr (zQ l)/\Vl (zQ l)=Vl l-pI*(l.getD 4 0 / 2251799813685248):=by
 obtain⟨a,b,c,d,e,rfl⟩:=jX hl;have ha:U64 a:=h 0;have hb:U64 b:=h 1;have hc:U64 c:=h 2;have hd:U64 d:=h 3;have he:U64 e:=h 4;rw[xXu ha hb hc hd he];clear h hl;obtain⟨a0,a1⟩:=ha;obtain⟨b0,b1⟩:=hb;obtain⟨c0,c1⟩:=hc;obtain⟨d0,d1⟩:=hd;obtain⟨e0,e1⟩:=he
 constructor
 ·exact Nr.five ω ω ω ω ω
 ·simp only[Vl,Cj,Cr,pI];omega
def vF (l:List Int):DH.FP:=DH.toF (Vl l)
theorem yJt (a b:Int):DH.toF (a+b)=DH.toF a+DH.toF b:=Ring.intCast_add a b
theorem yAb (a b:Int):DH.toF (a-b)=DH.toF a-DH.toF b:=Ring.intCast_sub a b
theorem yAc (a b:Int):DH.toF (a*b)=DH.toF a*DH.toF b:=Ring.intCast_mul a b
theorem xS9 (n:Nat):DH.toF (n:Int)=DH.mkF n:=Ring.intCast_natCast n
theorem toF_p:DH.toF pI=0:=by
 rw[show pI=((57896044618658097711785492504343953926634992332820282019728792003956564819949:Nat):Int) from rfl,xS9];exact DH.xAm (by decide +kernel)
theorem xFf (a k:Int):DH.toF (a-pI*k)=DH.toF a:=by
 rw[yAb,yAc,toF_p,Semiring.zero_mul]
 grind
theorem xL4 {l:List Int} (hl:l.length=5) (h:yT l):vF (zQ l)=vF l:=by
 unfold vF;rw[(pE hl h).2,xFf]
theorem yMd {a b c d e a' b' c' d' e':Int} (h:Nr [a,b,c,d,e]) (h':Nr [a',b',c',d',e']):jQ [a,b,c,d,e] [a',b',c',d',e'] 5=[a+a',b+b',c+c',d+d',e+e']:=by
 have g0:0<=a/\a<2251799813947392:=⟨h.ge 0,h.lt 0⟩;have g1:0<=b/\b<2251799813947392:=⟨h.ge 1,h.lt 1⟩;have g2:0<=c/\c<2251799813947392:=⟨h.ge 2,h.lt 2⟩;have g3:0<=d/\d<2251799813947392:=⟨h.ge 3,h.lt 3⟩;have g4:0<=e/\e<2251799813947392:=⟨h.ge 4,h.lt 4⟩
 have k0:0<=a'/\a'<2251799813947392:=⟨h'.ge 0,h'.lt 0⟩;have k1:0<=b'/\b'<2251799813947392:=⟨h'.ge 1,h'.lt 1⟩;have k2:0<=c'/\c'<2251799813947392:=⟨h'.ge 2,h'.lt 2⟩;have k3:0<=d'/\d'<2251799813947392:=⟨h'.ge 3,h'.lt 3⟩;have k4:0<=e'/\e'<2251799813947392:=⟨h'.ge 4,h'.lt 4⟩
 show[Go.IntKind.u64.wrap (a+a'),Go.IntKind.u64.wrap (b+b'),Go.IntKind.u64.wrap (c+c'),Go.IntKind.u64.wrap (d+d'),Go.IntKind.u64.wrap (e+e')]=_;rw[uU ω ω,uU ω ω,uU ω ω,uU ω ω,uU ω ω]
theorem yI7 {a b:List Int} (ha:a.length=5) (hb:b.length=5) (h:yT a) (h':yT b):vF (xHu a b)=vF a+vF b:=by
 unfold xHu;rw[xL4 (by rw[xGh];rfl) (xRi _ (jO a) 5),<-xL4 ha h,<-xL4 hb h'];obtain⟨n1,_⟩:=pE ha h;obtain⟨n2,_⟩:=pE hb h';obtain⟨x0,x1,x2,x3,x4,e⟩:=jX n1.len;obtain⟨y0,y1,y2,y3,y4,e'⟩:=jX n2.len;rw[e] at n1⊢;rw[e'] at n2⊢;rw[yMd n1 n2];unfold vF;rw[<-yJt]
 congr 1
 simp only[Vl,Cj,Cr];omega
theorem yJz {a b c d e a' b' c' d' e':Int} (h:Nr [a,b,c,d,e]) (h':Nr [a',b',c',d',e']):xOy [a,b,c,d,e] [a',b',c',d',e'] 4=[a+(4503599627370458-a'),b+(4503599627370494-b'),c+(4503599627370494-c'),d+(4503599627370494-d'),e+(4503599627370494-e')]:=by
 have g0:0<=a/\a<2251799813947392:=⟨h.ge 0,h.lt 0⟩;have g1:0<=b/\b<2251799813947392:=⟨h.ge 1,h.lt 1⟩;have g2:0<=c/\c<2251799813947392:=⟨h.ge 2,h.lt 2⟩;have g3:0<=d/\d<2251799813947392:=⟨h.ge 3,h.lt 3⟩;have g4:0<=e/\e<2251799813947392:=⟨h.ge 4,h.lt 4⟩
 have k0:0<=a'/\a'<2251799813947392:=⟨h'.ge 0,h'.lt 0⟩;have k1:0<=b'/\b'<2251799813947392:=⟨h'.ge 1,h'.lt 1⟩;have k2:0<=c'/\c'<2251799813947392:=⟨h'.ge 2,h'.lt 2⟩;have k3:0<=d'/\d'<2251799813947392:=⟨h'.ge 3,h'.lt 3⟩;have k4:0<=e'/\e'<2251799813947392:=⟨h'.ge 4,h'.lt 4⟩
 show[Go.IntKind.u64.wrap (a+Go.IntKind.u64.wrap (4503599627370458-a')),Go.IntKind.u64.wrap (b+Go.IntKind.u64.wrap (4503599627370494-b')),Go.IntKind.u64.wrap (c+Go.IntKind.u64.wrap (4503599627370494-c')),Go.IntKind.u64.wrap (d+Go.IntKind.u64.wrap (4503599627370494-d')),Go.IntKind.u64.wrap (e+Go.IntKind.u64.wrap (4503599627370494-e'))]=_
 rw[uU (x:=4503599627370458-a') ω ω,uU (x:=4503599627370494-b') ω ω,uU (x:=4503599627370494-c') ω ω,uU (x:=4503599627370494-d') ω ω,uU (x:=4503599627370494-e') ω ω,uU ω ω,uU ω ω,uU ω ω,uU ω ω,uU ω ω]
theorem yFs {a b:List Int} (ha:a.length=5) (hb:b.length=5) (h:yT a) (h':yT b):vF (xHt a b)=vF a-vF b:=by
 unfold xHt;rw[xL4 (by rw[xN6];rfl) (yAp _ (jO a) 4),<-xL4 ha h,<-xL4 hb h'];obtain⟨n1,_⟩:=pE ha h;obtain⟨n2,_⟩:=pE hb h';obtain⟨x0,x1,x2,x3,x4,e⟩:=jX n1.len;obtain⟨y0,y1,y2,y3,y4,e'⟩:=jX n2.len;rw[e] at n1⊢;rw[e'] at n2⊢;rw[yJz n1 n2];unfold vF;rw[<-yAb,<-xFf _ 2]
 congr 1
 simp only[Vl,Cj,Cr,pI];omega
structure Tw (s:List Int×List Int) (t:Nat->Int) (n:Nat):Prop where
 l1:s.1.length=5
 l2:s.2.length=5
 v:∀k,k<5->s.1.getD k 0*18446744073709551616+s.2.getD k 0=t k
 lo:∀k,0<=s.2.getD k 0/\s.2.getD k 0<18446744073709551616
 ge:∀k,0<=t k
 lt:∀k,t k<=n*96342400737345926264850826395648
theorem xJz (l:List Int) (k:Nat) (x:Int) (j:Nat) (hk:k<l.length):(l.set k x).getD j 0=if k=j then x else l.getD j 0:=by
 rw[Aa,Co];split
 ·rfl
 ·rw[Aa]
theorem Tw.step {s:List Int×List Int} {t:Nat->Int} {n:Nat} (h:Tw s t n) (hn:n<100) {x y:Int} {k:Nat} (hk:k<5) (h0:0<=x*y) (h1:x*y<=96342400737345926264850826395648):Tw (mT x y k s) (λj=>if k=j then t j+x*y else t j) (n+1):=by
 obtain⟨l1,l2,v,lo,ge,lt⟩:=h;have hv:=v k hk;have hlo:=lo k;have hge:=ge k;have hlt:=lt k;have hn':(n:Int)*96342400737345926264850826395648<=100*96342400737345926264850826395648:=ω
 have hw:Go.IntKind.u64.wrap (s.1.getD k 0+Go.IntKind.u64.wrap (x*y / 18446744073709551616+(s.2.getD k 0+x*y % 18446744073709551616) / 18446744073709551616))=s.1.getD k 0+(x*y / 18446744073709551616+(s.2.getD k 0+x*y % 18446744073709551616) / 18446744073709551616):=by
  generalize x*y=z at*;rw[uU (x:=z / 18446744073709551616+(s.2.getD k 0+z % 18446744073709551616) / 18446744073709551616) ω ω,uU ω ω]
 unfold mT;rw[hw];refine⟨by simp[l1],by simp[l2],λj hj=>?_,λj=>?_,λj=>?_,λj=>?_⟩
 ·simp only;rw[xJz _ _ _ _ ω,xJz _ _ _ _ ω]
  by_cases e:k=j
  ·subst e;simp only[if_true];generalize x*y=z at*;omega
  ·rw[Ag e,Ag e,Ag e];exact v j hj
 ·simp only;rw[xJz _ _ _ _ ω]
  by_cases e:k=j
  ·rw[Ah e];generalize x*y=z at*;omega
  ·rw[Ag e];exact lo j
 ·by_cases e:k=j
  ·subst e;rw[Ah rfl];omega
  ·rw[Ag e];exact ge j
 ·by_cases e:k=j
  ·subst e;rw[Ah rfl];omega
  ·rw[Ag e];have:=lt j;omega
def tS (x:Int) (i:Nat) (b:List Int) (t:Nat->Int):Nat->Nat->Int
 |0=>t
 |j+1=>λk=>if kK (i+j)=k then tS x i b t j k+x*(if 5<=i+j then b.getD j 0*19 else b.getD j 0) else tS x i b t j k
def tI (a b:List Int):Nat->Nat->Int
 |0=>λ_=>0
 |i+1=>tS (a.getD i 0) i b (tI a b i) 5
theorem mul_bd {x y:Int} (hx:0<=x) (hx1:x<2251799813947392) (hy:0<=y) (hy1:y<=42784196465000448):0<=x*y/\x*y<=96342400737345926264850826395648:=by
 refine⟨Int.mul_nonneg hx hy,?_⟩;have h1:x*y<=2251799813947392*y:=Int.mul_le_mul_of_nonneg_right (Int.le_of_lt hx1) hy;have h2:2251799813947392*y<=2251799813947392*42784196465000448:=ω;omega
theorem mS_tw {x:Int} (hx:0<=x) (hx1:x<2251799813947392) {b:List Int} (hb:Nr b) {i:Nat} (hi:i<5) {s:List Int×List Int} {t:Nat->Int} {n:Nat} (hn:n<=50) (h:Tw s t n):∀j,j<=5->Tw (mS x i b s j) (tS x i b t j) (n+j)
 |0,_=>h
 |j+1,hj=>by
  have ih:=mS_tw hx hx1 hb hi hn h j ω;have g0:=hb.ge j;have g1:=hb.lt j
  have e:yF (b.getD j 0) (i+j)=if 5<=i+j then b.getD j 0*19 else b.getD j 0:=by
   unfold yF;split
   ·rw[uU ω ω]
   ·rfl
  have hk:kK (i+j)<5:=by
   unfold kK;split<;>omega
  have hbd:=mul_bd (y:=if 5<=i+j then b.getD j 0*19 else b.getD j 0) hx hx1 (by split<;>omega) (by split<;>omega);have:=ih.step ω hk hbd.1 hbd.2;rw[<-e] at this;rw[mS,tS,<-e];exact this
theorem mI_tw {a b:List Int} (ha:Nr a) (hb:Nr b):∀i,i<=5->Tw (mI a b i) (tI a b i) (5*i)
 |0,_=>by
  refine⟨by simp[mI],by simp[mI],λk hk=>?_,λk=>?_,λk=>?_,λk=>?_⟩
  ·match k,hk with
   |0,_=>rfl
   |1,_=>rfl
   |2,_=>rfl
   |3,_=>rfl
   |4,_=>rfl
  ·have:=xCr 5 k;exact this
  ·exact Int.le_refl 0
  ·simp[tI]
 |i+1,hi=>mS_tw (ha.ge i) (ha.lt i) hb ω ω (mI_tw ha hb i ω) 5 ω
theorem yAk (a0 a1 a2 a3 a4 b0 b1 b2 b3 b4:Int):
  tI [a0,a1,a2,a3,a4] [b0,b1,b2,b3,b4] 5 0=0+a0*b0+a1*(b4*19)+a2*(b3*19)+a3*(b2*19)+a4*(b1*19)/\
  tI [a0,a1,a2,a3,a4] [b0,b1,b2,b3,b4] 5 1=0+a0*b1+a1*b0+a2*(b4*19)+a3*(b3*19)+a4*(b2*19)/\
  tI [a0,a1,a2,a3,a4] [b0,b1,b2,b3,b4] 5 2=0+a0*b2+a1*b1+a2*b0+a3*(b4*19)+a4*(b3*19)/\
  tI [a0,a1,a2,a3,a4] [b0,b1,b2,b3,b4] 5 3=0+a0*b3+a1*b2+a2*b1+a3*b0+a4*(b4*19)/\
  tI [a0,a1,a2,a3,a4] [b0,b1,b2,b3,b4] 5 4=0+a0*b4+a1*b3+a2*b2+a3*b1+a4*b0:=
 ⟨rfl,rfl,rfl,rfl,rfl⟩
theorem tI_bd {a b:List Int} (ha:Nr a) (hb:Nr b) {k:Nat} (hk:k<5):0<=tI a b 5 k/\tI a b 5 k<=392000000000000000000000000000000/\(k=4->tI a b 5 k<=26000000000000000000000000000000):=by
 obtain⟨a0,a1,a2,a3,a4,rfl⟩:=jX ha.len;obtain⟨b0,b1,b2,b3,b4,rfl⟩:=jX hb.len;have A0:0<=a0/\a0<2251799813947392:=⟨ha.ge 0,ha.lt 0⟩;have A1:0<=a1/\a1<2251799813947392:=⟨ha.ge 1,ha.lt 1⟩;have A2:0<=a2/\a2<2251799813947392:=⟨ha.ge 2,ha.lt 2⟩
 have A3:0<=a3/\a3<2251799813947392:=⟨ha.ge 3,ha.lt 3⟩;have A4:0<=a4/\a4<2251799813947392:=⟨ha.ge 4,ha.lt 4⟩;have B0:0<=b0/\b0<2251799813947392:=⟨hb.ge 0,hb.lt 0⟩;have B1:0<=b1/\b1<2251799813947392:=⟨hb.ge 1,hb.lt 1⟩;have B2:0<=b2/\b2<2251799813947392:=⟨hb.ge 2,hb.lt 2⟩
 have B3:0<=b3/\b3<2251799813947392:=⟨hb.ge 3,hb.lt 3⟩;have B4:0<=b4/\b4<2251799813947392:=⟨hb.ge 4,hb.lt 4⟩
 have M:∀{x y:Int},0<=x/\x<2251799813947392->0<=y/\y<2251799813947392->0<=x*y/\x*y<=5070602402093509226772943601664:=by
  intro x y hx hy;refine⟨Int.mul_nonneg hx.1 hy.1,?_⟩;have h1:x*y<=2251799813947392*y:=Int.mul_le_mul_of_nonneg_right (Int.le_of_lt hx.2) hy.1;have h2:2251799813947392*y<=2251799813947392*2251799813947392:=ω;omega
 obtain⟨e0,e1,e2,e3,e4⟩:=yAk a0 a1 a2 a3 a4 b0 b1 b2 b3 b4
 match k,hk with
 |0,_=>
  rw[e0];have m0:=M A0 B0;have m1:=M A1 B4;have m2:=M A2 B3;have m3:=M A3 B2;have m4:=M A4 B1;simp only[<-Int.mul_assoc];omega
 |1,_=>
  rw[e1];have m0:=M A0 B1;have m1:=M A1 B0;have m2:=M A2 B4;have m3:=M A3 B3;have m4:=M A4 B2;simp only[<-Int.mul_assoc];omega
 |2,_=>
  rw[e2];have m0:=M A0 B2;have m1:=M A1 B1;have m2:=M A2 B0;have m3:=M A3 B4;have m4:=M A4 B3;simp only[<-Int.mul_assoc];omega
 |3,_=>
  rw[e3];have m0:=M A0 B3;have m1:=M A1 B2;have m2:=M A2 B1;have m3:=M A3 B0;have m4:=M A4 B4;simp only[<-Int.mul_assoc];omega
 |4,_=>
  rw[e4];have m0:=M A0 B4;have m1:=M A1 B3;have m2:=M A2 B2;have m3:=M A3 B1;have m4:=M A4 B0;omega
theorem xPu {hi lo:List Int} {k:Nat} {t:Int} (h0:0<=lo.getD k 0/\lo.getD k 0<18446744073709551616) (ht:hi.getD k 0*18446744073709551616+lo.getD k 0=t) (ht0:0<=t) (ht1:t<=392000000000000000000000000000000):prC hi lo k=t / 2251799813685248:=by
 unfold prC;have g0:0<=hi.getD k 0:=ω;have g1:hi.getD k 0<100000000000000:=ω;rw[uU ω ω];have:=yKh 13 (a:=lo.getD k 0 / 2251799813685248) (b:=hi.getD k 0) ω (by rw[show((2^13:Nat):Int)=8192 by rfl];omega) g0 (by rw[show((2^13:Nat):Int)=8192 by rfl];omega) ω
 rw[show((2^13:Nat):Int)=8192 by rfl] at this;rw[this];omega
theorem xQ8 {hi lo:List Int} {k:Nat} {t:Int} (h0:0<=lo.getD k 0/\lo.getD k 0<18446744073709551616) (ht:hi.getD k 0*18446744073709551616+lo.getD k 0=t):Go.bits .and .u64 (lo.getD k 0) 2251799813685247=t % 2251799813685248:=by
 rw[xHc h0];omega
theorem prI_eq {hi lo:List Int} {t0 t1 t2 t3 t4:Int} (hl:∀k,0<=lo.getD k 0/\lo.getD k 0<18446744073709551616) (h0:hi.getD 0 0*18446744073709551616+lo.getD 0 0=t0) (h1:hi.getD 1 0*18446744073709551616+lo.getD 1 0=t1) (h2:hi.getD 2 0*18446744073709551616+lo.getD 2 0=t2) (h3:hi.getD 3 0*18446744073709551616+lo.getD 3 0=t3) (h4:hi.getD 4 0*18446744073709551616+lo.getD 4 0=t4) (b0:0<=t0/\t0<=392000000000000000000000000000000) (b1:0<=t1/\t1<=392000000000000000000000000000000) (b2:0<=t2/\t2<=392000000000000000000000000000000) (b3:0<=t3/\t3<=392000000000000000000000000000000) (b4:0<=t4/\t4<=26000000000000000000000000000000):
  prI hi lo 5=[t0 % 2251799813685248+19*(t4 / 2251799813685248),t1 % 2251799813685248+t0 / 2251799813685248,t2 % 2251799813685248+t1 / 2251799813685248,t3 % 2251799813685248+t2 / 2251799813685248,t4 % 2251799813685248+t3 / 2251799813685248]:=by
 have c0:=xPu (hl 0) h0 b0.1 ω;have m0:=xQ8 (hl 0) h0;have c1:=xPu (hl 1) h1 b1.1 ω;have m1:=xQ8 (hl 1) h1;have c2:=xPu (hl 2) h2 b2.1 ω;have m2:=xQ8 (hl 2) h2;have c3:=xPu (hl 3) h3 b3.1 ω;have m3:=xQ8 (hl 3) h3;have c4:=xPu (hl 4) h4 b4.1 ω;have m4:=xQ8 (hl 4) h4
 have s1:prI hi lo 1=[t0 % 2251799813685248,t0 / 2251799813685248,0,0,0]:=by
  rw[prI,Ah δ];unfold prA;rw[show prI hi lo 0=[0,0,0,0,0] from rfl,m0,c0];show[Go.IntKind.u64.wrap (0+t0 % 2251799813685248),Go.IntKind.u64.wrap (0+t0 / 2251799813685248),0,0,0]=_;rw[uU (x:=0+t0 % 2251799813685248) ω ω,uU (x:=0+t0 / 2251799813685248) ω ω]
  simp only[Int.zero_add]
 have s2:prI hi lo 2=[t0 % 2251799813685248,t1 % 2251799813685248+t0 / 2251799813685248,t1 / 2251799813685248,0,0]:=by
  rw[prI,Ah δ];unfold prA;rw[s1,m1,c1];show[t0 % 2251799813685248,Go.IntKind.u64.wrap (t0 / 2251799813685248+t1 % 2251799813685248),Go.IntKind.u64.wrap (0+t1 / 2251799813685248),0,0]=_
  rw[uU (x:=t0 / 2251799813685248+t1 % 2251799813685248) ω ω,uU (x:=0+t1 / 2251799813685248) ω ω];simp only[Int.zero_add];rw[Int.add_comm (t0 / 2251799813685248) (t1 % 2251799813685248)]
 have s3:prI hi lo 3=[t0 % 2251799813685248,t1 % 2251799813685248+t0 / 2251799813685248,t2 % 2251799813685248+t1 / 2251799813685248,t2 / 2251799813685248,0]:=by
  rw[prI,Ah δ];unfold prA;rw[s2,m2,c2];show[t0 % 2251799813685248,t1 % 2251799813685248+t0 / 2251799813685248,Go.IntKind.u64.wrap (t1 / 2251799813685248+t2 % 2251799813685248),Go.IntKind.u64.wrap (0+t2 / 2251799813685248),0]=_
  rw[uU (x:=t1 / 2251799813685248+t2 % 2251799813685248) ω ω,uU (x:=0+t2 / 2251799813685248) ω ω];simp only[Int.zero_add];rw[Int.add_comm (t1 / 2251799813685248) (t2 % 2251799813685248)]
 have s4:prI hi lo 4=[t0 % 2251799813685248,t1 % 2251799813685248+t0 / 2251799813685248,t2 % 2251799813685248+t1 / 2251799813685248,t3 % 2251799813685248+t2 / 2251799813685248,t3 / 2251799813685248]:=by
  rw[prI,Ah δ];unfold prA;rw[s3,m3,c3];show[t0 % 2251799813685248,t1 % 2251799813685248+t0 / 2251799813685248,t2 % 2251799813685248+t1 / 2251799813685248,Go.IntKind.u64.wrap (t2 / 2251799813685248+t3 % 2251799813685248),Go.IntKind.u64.wrap (0+t3 / 2251799813685248)]=_
  rw[uU (x:=t2 / 2251799813685248+t3 % 2251799813685248) ω ω,uU (x:=0+t3 / 2251799813685248) ω ω];simp only[Int.zero_add];rw[Int.add_comm (t2 / 2251799813685248) (t3 % 2251799813685248)]
 have s5:prI hi lo 5=[t0 % 2251799813685248+19*(t4 / 2251799813685248),t1 % 2251799813685248+t0 / 2251799813685248,t2 % 2251799813685248+t1 / 2251799813685248,t3 % 2251799813685248+t2 / 2251799813685248,t4 % 2251799813685248+t3 / 2251799813685248]:=by
  rw[prI,Ag δ];unfold prA;rw[s4,m4,c4]
  show[Go.IntKind.u64.wrap (t0 % 2251799813685248+Go.IntKind.u64.wrap (19*(t4 / 2251799813685248))),t1 % 2251799813685248+t0 / 2251799813685248,t2 % 2251799813685248+t1 / 2251799813685248,t3 % 2251799813685248+t2 / 2251799813685248,Go.IntKind.u64.wrap (t3 / 2251799813685248+t4 % 2251799813685248)]=_
  rw[uU (x:=t3 / 2251799813685248+t4 % 2251799813685248) ω ω,uU (x:=19*(t4 / 2251799813685248)) ω ω,uU ω ω];rw[Int.add_comm (t3 / 2251799813685248) (t4 % 2251799813685248)]
 exact s5
theorem xHs {a b:List Int} (ha:a.length=5) (hb:b.length=5) (h:yT a) (h':yT b):vF (vP a b)=vF a*vF b:=by
 unfold vP yDj;obtain⟨n1,_⟩:=pE ha h;obtain⟨n2,_⟩:=pE hb h';rw[xL4 (xNg _ _ 5) (yBe _ _ 5),<-xL4 ha h,<-xL4 hb h'];have T:=mI_tw n1 n2 5 ω;have B:=λk hk=>tI_bd n1 n2 (k:=k) hk
 rw[prI_eq T.lo (T.v 0 ω) (T.v 1 ω) (T.v 2 ω) (T.v 3 ω) (T.v 4 ω) ⟨(B 0 ω).1,(B 0 ω).2.1⟩ ⟨(B 1 ω).1,(B 1 ω).2.1⟩ ⟨(B 2 ω).1,(B 2 ω).2.1⟩ ⟨(B 3 ω).1,(B 3 ω).2.1⟩ ⟨(B 4 ω).1,(B 4 ω).2.2 rfl⟩];clear T B;obtain⟨a0,a1,a2,a3,a4,e⟩:=jX n1.len;obtain⟨b0,b1,b2,b3,b4,e'⟩:=jX n2.len
 rw[e,e'];clear e e' n1 n2;obtain⟨e0,e1,e2,e3,e4⟩:=yAk a0 a1 a2 a3 a4 b0 b1 b2 b3 b4
 have key:∀t0 t1 t2 t3 t4:Int,vF [t0 % 2251799813685248+19*(t4 / 2251799813685248),t1 % 2251799813685248+t0 / 2251799813685248,t2 % 2251799813685248+t1 / 2251799813685248,t3 % 2251799813685248+t2 / 2251799813685248,t4 % 2251799813685248+t3 / 2251799813685248]=vF [t0,t1,t2,t3,t4]:=by
  intro t0 t1 t2 t3 t4;unfold vF;rw[<-xFf (Vl [t0,t1,t2,t3,t4]) (t4 / 2251799813685248)]
  congr 1
  simp only[Vl,Cj,Cr,pI];omega
 rw[key,e0,e1,e2,e3,e4];clear key e0 e1 e2 e3 e4;unfold vF;rw[<-yAc,<-xFf (Vl [a0,a1,a2,a3,a4]*Vl [b0,b1,b2,b3,b4]) (a1*b4+a2*b3+a3*b2+a4*b1+2251799813685248*(a2*b4+a3*b3+a4*b2+2251799813685248*(a3*b4+a4*b3+2251799813685248*(a4*b4))))]
 congr 1
 simp only[Vl,Cj,Cr,pI]
 grind
theorem yIi (z:DH.FP) (m:Nat):∀n,z^(m+n)=z^m*z^n
 |0=>by rw[Db,Semiring.pow_zero,Semiring.mul_one]
 |n+1=>by rw[<-Nat.add_assoc,Semiring.pow_succ,yIi z m n,Semiring.pow_succ,Semiring.mul_assoc]
structure Pw (z:DH.FP) (l:List Int) (n:Nat):Prop where
 len:l.length=5
 u:yT l
 e:vF l=z^n
theorem Pw.mul {z:DH.FP} {a b:List Int} {m n:Nat} (h:Pw z a m) (h':Pw z b n) (k:Nat) (hk:m+n=k):Pw z (vP a b) k:=
 ⟨zY _ _,jP _ _,by rw[xHs h.len h'.len h.u h'.u,h.e,h'.e,<-yIi,hk]⟩
theorem Pw.sq {z:DH.FP} {a:List Int} {m:Nat} (h:Pw z a m):∀j k,m*2^j=k->Pw z (sqI a j) k
 |0,k,hk=>by
  rw[Nat.pow_zero,Gr] at hk;rw[<-hk];exact h
 |j+1,k,hk=>by
  have ih:=Pw.sq h j (m*2^j) rfl;refine ih.mul ih k ?_;rw[<-hk,Fs,<-Nat.mul_assoc];omega
theorem inv_F {a:List Int} (ha:a.length=5) (h:yT a):vF (xF7 a)=(vF a)⁻¹:=by
 have p1:Pw (vF a) a 1:=⟨ha,h,by rw[show 1=0+1 from rfl,Semiring.pow_succ,Semiring.pow_zero,Semiring.one_mul]⟩;have p2:Pw (vF a) (yCq a) 2:=p1.mul p1 2 rfl;have p9:Pw (vF a) (yCp a) 9:=(p2.sq 2 8 rfl).mul p1 9 rfl;have p11:Pw (vF a) (xT5 a) 11:=p9.mul p2 11 rfl
 have o5:Pw (vF a) (yCr a) 31:=(p11.sq 1 22 rfl).mul p9 31 rfl;have o10:Pw (vF a) (xO2 a) 1023:=(o5.sq 5 992 δ).mul o5 1023 δ;have o20:Pw (vF a) (xT6 a) 1048575:=(o10.sq 10 1047552 δ).mul o10 1048575 δ
 have o40:Pw (vF a) (yCs a) 1099511627775:=(o20.sq 20 1099510579200 δ).mul o20 1099511627775 δ;have o50:Pw (vF a) (xO0 a) 1125899906842623:=(o40.sq 10 1125899906841600 δ).mul o10 1125899906842623 δ
 have yGh:Pw (vF a) (xO1 a) 1267650600228229401496703205375:=(o50.sq 50 1267650600228228275596796362752 δ).mul o50 1267650600228229401496703205375 δ
 have yKq:Pw (vF a) (xVh a) 1606938044258990275541962092341162602522202993782792835301375:=(yGh.sq 100 1606938044258990275541962092339894951921974764381296132096000 δ).mul yGh 1606938044258990275541962092341162602522202993782792835301375 δ
 have yGg:Pw (vF a) (xVg a) 1809251394333065553493296640760748560207343510400633813116524750123642650623:=(yKq.sq 50 1809251394333065553493296640760748560207343510400633813116523624223735808000 δ).mul o50 1809251394333065553493296640760748560207343510400633813116524750123642650623 δ
 have o255:Pw (vF a) (xF7 a) 57896044618658097711785492504343953926634992332820282019728792003956564819947:=(yGg.sq 5 57896044618658097711785492504343953926634992332820282019728792003956564819936 δ).mul p11 57896044618658097711785492504343953926634992332820282019728792003956564819947 δ
 rw[o255.e];show vF a^57896044618658097711785492504343953926634992332820282019728792003956564819947=vF a^(DH.PP-2);rw[show DH.PP-2=57896044618658097711785492504343953926634992332820282019728792003956564819947 by unfold DH.PP;decide]
structure Can (l:List Int):Prop where
 len:l.length=5
 ge:∀i,0<=l.getD i 0
 lt:∀i,l.getD i 0<2251799813685248
 v:Vl l<pI
theorem Can.five {a b c d e:Int} (ha:0<=a/\a<2251799813685248) (hb:0<=b/\b<2251799813685248) (hc:0<=c/\c<2251799813685248) (hd:0<=d/\d<2251799813685248) (he:0<=e/\e<2251799813685248) (h:Vl [a,b,c,d,e]<pI):Can [a,b,c,d,e]:=by
 have key:∀i,0<=[a,b,c,d,e].getD i 0/\[a,b,c,d,e].getD i 0<2251799813685248:=by
  intro i
  match i with
  |0=>exact ha
  |1=>exact hb
  |2=>exact hc
  |3=>exact hd
  |4=>exact he
  |n+5=>
   rw[Aa,Bz σ];exact⟨δ,δ⟩
 exact⟨rfl,λi=>(key i).1,λi=>(key i).2,h⟩
theorem yKg {a b c d e:Int} (h:Nr [a,b,c,d,e]):ovI [a,b,c,d,e] 4=(e+(d+(c+(b+(a+19) / 2251799813685248) / 2251799813685248) / 2251799813685248) / 2251799813685248) / 2251799813685248:=by
 have g0:0<=a/\a<2251799813947392:=⟨h.ge 0,h.lt 0⟩;have g1:0<=b/\b<2251799813947392:=⟨h.ge 1,h.lt 1⟩;have g2:0<=c/\c<2251799813947392:=⟨h.ge 2,h.lt 2⟩;have g3:0<=d/\d<2251799813947392:=⟨h.ge 3,h.lt 3⟩;have g4:0<=e/\e<2251799813947392:=⟨h.ge 4,h.lt 4⟩
 show Go.IntKind.u64.wrap (e+Go.IntKind.u64.wrap (d+Go.IntKind.u64.wrap (c+Go.IntKind.u64.wrap (b+Go.IntKind.u64.wrap (a+19) / 2251799813685248) / 2251799813685248) / 2251799813685248) / 2251799813685248) / 2251799813685248=_
 rw[uU (x:=a+19) ω ω,uU (x:=b+_) ω ω,uU (x:=c+_) ω ω,uU (x:=d+_) ω ω,uU (x:=e+_) ω ω]
theorem yL5 {a b c d e o:Int} (h:Nr [a,b,c,d,e]) (ho:0<=o/\o<=1):∃s0 s1 s2 s3 s4:Int,s0=a+19*o/\s1=b+s0 / 2251799813685248/\s2=c+s1 / 2251799813685248/\s3=d+s2 / 2251799813685248/\s4=e+s3 / 2251799813685248/\(lcI [a,b,c,d,e] o 5).1=[s0 % 2251799813685248,s1 % 2251799813685248,s2 % 2251799813685248,s3 % 2251799813685248,s4 % 2251799813685248]:=by
 have g0:0<=a/\a<2251799813947392:=⟨h.ge 0,h.lt 0⟩;have g1:0<=b/\b<2251799813947392:=⟨h.ge 1,h.lt 1⟩;have g2:0<=c/\c<2251799813947392:=⟨h.ge 2,h.lt 2⟩;have g3:0<=d/\d<2251799813947392:=⟨h.ge 3,h.lt 3⟩;have g4:0<=e/\e<2251799813947392:=⟨h.ge 4,h.lt 4⟩
 refine⟨_,_,_,_,_,rfl,rfl,rfl,rfl,rfl,?_⟩;obtain⟨s0,e0⟩:∃s,s=a+19*o:=⟨_,rfl⟩;rw[<-e0];obtain⟨s1,e1⟩:∃s,s=b+s0 / 2251799813685248:=⟨_,rfl⟩;rw[<-e1];obtain⟨s2,e2⟩:∃s,s=c+s1 / 2251799813685248:=⟨_,rfl⟩;rw[<-e2];obtain⟨s3,e3⟩:∃s,s=d+s2 / 2251799813685248:=⟨_,rfl⟩;rw[<-e3]
 obtain⟨s4,e4⟩:∃s,s=e+s3 / 2251799813685248:=⟨_,rfl⟩;rw[<-e4];have u0:0<=s0/\s0<18446744073709551616:=ω;have u1:0<=s1/\s1<18446744073709551616:=ω;have u2:0<=s2/\s2<18446744073709551616:=ω;have u3:0<=s3/\s3<18446744073709551616:=ω;have u4:0<=s4/\s4<18446744073709551616:=ω
 have k1:lcI [a,b,c,d,e] o 1=([s0 % 2251799813685248,b,c,d,e],s0 / 2251799813685248):=by
  show([Go.bits .and .u64 (Go.IntKind.u64.wrap (a+19*o)) 2251799813685247,b,c,d,e],Go.IntKind.u64.wrap (a+19*o) / 2251799813685248)=_;rw[<-e0,uU u0.1 u0.2,xHc u0]
 have k2:lcI [a,b,c,d,e] o 2=([s0 % 2251799813685248,s1 % 2251799813685248,c,d,e],s1 / 2251799813685248):=by
  rw[lcI,k1];show([s0 % 2251799813685248,Go.bits .and .u64 (Go.IntKind.u64.wrap (b+s0 / 2251799813685248)) 2251799813685247,c,d,e],Go.IntKind.u64.wrap (b+s0 / 2251799813685248) / 2251799813685248)=_;rw[<-e1,uU u1.1 u1.2,xHc u1]
 have k3:lcI [a,b,c,d,e] o 3=([s0 % 2251799813685248,s1 % 2251799813685248,s2 % 2251799813685248,d,e],s2 / 2251799813685248):=by
  rw[lcI,k2];show([s0 % 2251799813685248,s1 % 2251799813685248,Go.bits .and .u64 (Go.IntKind.u64.wrap (c+s1 / 2251799813685248)) 2251799813685247,d,e],Go.IntKind.u64.wrap (c+s1 / 2251799813685248) / 2251799813685248)=_;rw[<-e2,uU u2.1 u2.2,xHc u2]
 have k4:lcI [a,b,c,d,e] o 4=([s0 % 2251799813685248,s1 % 2251799813685248,s2 % 2251799813685248,s3 % 2251799813685248,e],s3 / 2251799813685248):=by
  rw[lcI,k3];show([s0 % 2251799813685248,s1 % 2251799813685248,s2 % 2251799813685248,Go.bits .and .u64 (Go.IntKind.u64.wrap (d+s2 / 2251799813685248)) 2251799813685247,e],Go.IntKind.u64.wrap (d+s2 / 2251799813685248) / 2251799813685248)=_;rw[<-e3,uU u3.1 u3.2,xHc u3]
 rw[lcI,k4];show[s0 % 2251799813685248,s1 % 2251799813685248,s2 % 2251799813685248,s3 % 2251799813685248,Go.bits .and .u64 (Go.IntKind.u64.wrap (e+s3 / 2251799813685248)) 2251799813685247]=_;rw[<-e4,uU u4.1 u4.2,xHc u4]
theorem xFx {a:List Int} (ha:a.length=5) (h:yT a):Can (rQ a)/\vF (rQ a)=vF a:=by
 unfold rQ;obtain⟨n1,_⟩:=pE ha h;rw[<-xL4 ha h];obtain⟨x0,x1,x2,x3,x4,e⟩:=jX n1.len;rw[e] at n1⊢;clear e ha h;rw[yKg n1];have g0:0<=x0/\x0<2251799813947392:=⟨n1.ge 0,n1.lt 0⟩;have g1:0<=x1/\x1<2251799813947392:=⟨n1.ge 1,n1.lt 1⟩
 have g2:0<=x2/\x2<2251799813947392:=⟨n1.ge 2,n1.lt 2⟩;have g3:0<=x3/\x3<2251799813947392:=⟨n1.ge 3,n1.lt 3⟩;have g4:0<=x4/\x4<2251799813947392:=⟨n1.ge 4,n1.lt 4⟩;obtain⟨q0,f0⟩:∃q,q=(x0+19) / 2251799813685248:=⟨_,rfl⟩;rw[<-f0]
 obtain⟨q1,f1⟩:∃q,q=(x1+q0) / 2251799813685248:=⟨_,rfl⟩;rw[<-f1];obtain⟨q2,f2⟩:∃q,q=(x2+q1) / 2251799813685248:=⟨_,rfl⟩;rw[<-f2];obtain⟨q3,f3⟩:∃q,q=(x3+q2) / 2251799813685248:=⟨_,rfl⟩;rw[<-f3];obtain⟨o,f4⟩:∃q,q=(x4+q3) / 2251799813685248:=⟨_,rfl⟩;rw[<-f4];have ho:0<=o/\o<=1:=ω
 obtain⟨s0,s1,s2,s3,s4,e0,e1,e2,e3,e4,el⟩:=yL5 n1 ho;rw[el];clear el n1
 have hV:Vl [x0,x1,x2,x3,x4]+19=((x0+19) % 2251799813685248+2251799813685248*((x1+q0) % 2251799813685248+2251799813685248*((x2+q1) % 2251799813685248+2251799813685248*((x3+q2) % 2251799813685248+2251799813685248*((x4+q3) % 2251799813685248)))))+57896044618658097711785492504343953926634992332820282019728792003956564819968*o:=by
  simp only[Vl,Cj,Cr];omega
 have hW:Vl [x0,x1,x2,x3,x4]+19*o=Vl [s0 % 2251799813685248,s1 % 2251799813685248,s2 % 2251799813685248,s3 % 2251799813685248,s4 % 2251799813685248]+57896044618658097711785492504343953926634992332820282019728792003956564819968*(s4 / 2251799813685248):=by
  simp only[Vl,Cj,Cr];omega
 have hb:0<=Vl [s0 % 2251799813685248,s1 % 2251799813685248,s2 % 2251799813685248,s3 % 2251799813685248,s4 % 2251799813685248]/\Vl [s0 % 2251799813685248,s1 % 2251799813685248,s2 % 2251799813685248,s3 % 2251799813685248,s4 % 2251799813685248]<57896044618658097711785492504343953926634992332820282019728792003956564819968:=by
  clear hV hW e0 e1 e2 e3 e4 f0 f1 f2 f3 f4 ho;simp only[Vl,Cj,Cr];omega
 have hr:0<=(x0+19) % 2251799813685248+2251799813685248*((x1+q0) % 2251799813685248+2251799813685248*((x2+q1) % 2251799813685248+2251799813685248*((x3+q2) % 2251799813685248+2251799813685248*((x4+q3) % 2251799813685248))))/\(x0+19) % 2251799813685248+2251799813685248*((x1+q0) % 2251799813685248+2251799813685248*((x2+q1) % 2251799813685248+2251799813685248*((x3+q2) % 2251799813685248+2251799813685248*((x4+q3) % 2251799813685248))))<57896044618658097711785492504343953926634992332820282019728792003956564819968:=by
  clear hV hW hb e0 e1 e2 e3 e4 f0 f1 f2 f3 f4 ho;omega
 have hm0:∀x:Int,0<=x % 2251799813685248/\x % 2251799813685248<2251799813685248:=λx=>by omega
 have hc:0<=s4 / 2251799813685248:=ω
 have hv0:0<=Vl [x0,x1,x2,x3,x4]/\Vl [x0,x1,x2,x3,x4]<115792089237316195423570985008687907853269984665640564039457584007913129639898:=by
  clear hV hW hb hr e0 e1 e2 e3 e4 f0 f1 f2 f3 f4 ho;simp only[Vl,Cj,Cr];omega
 clear e0 e1 e2 e3 f0 f1 f2 f3 f4;generalize hl:[s0 % 2251799813685248,s1 % 2251799813685248,s2 % 2251799813685248,s3 % 2251799813685248,s4 % 2251799813685248]=l at*
 generalize (x0+19) % 2251799813685248+2251799813685248*((x1+q0) % 2251799813685248+2251799813685248*((x2+q1) % 2251799813685248+2251799813685248*((x3+q2) % 2251799813685248+2251799813685248*((x4+q3) % 2251799813685248))))=r at*;generalize s4 / 2251799813685248=k at*
 have hk:k=o:=by
  clear hl hm0;generalize Vl [x0,x1,x2,x3,x4]=v at*;generalize Vl l=w at*;omega
 subst hk
 have hlt:Vl l<pI:=by
  clear hl hm0;unfold pI;generalize Vl [x0,x1,x2,x3,x4]=v at*;generalize Vl l=w at*;omega
 refine⟨?_,?_⟩
 ·rw[<-hl] at hlt⊢;exact Can.five (hm0 _) (hm0 _) (hm0 _) (hm0 _) (hm0 _) hlt
 ·unfold vF;rw[<-xFf (Vl [x0,x1,x2,x3,x4]) k]
  congr 1
  unfold pI;omega
end Mailsack
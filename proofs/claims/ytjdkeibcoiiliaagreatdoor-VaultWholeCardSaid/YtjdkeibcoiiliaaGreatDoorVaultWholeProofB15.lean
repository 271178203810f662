/- Contracts of functions. Conditions: as stated. -/
import Derived.Test.YtjdkeibcoiiliaaGreatDoorVaultWholeProofB14
open Go.Proofs.Tryz
set_option maxHeartbeats 8000000
set_option maxRecDepth 100000
namespace Mailsack
def inB:Bs:=[73,78,66,79,88]
def mgA (T:Int->Int) (x:yN) (n:Int):yN:=xLa x inB n (T n) 32
def mgI (T:Int->Int) (l:List Int) (x:yN):yN:=l.foldl (mgA T) x
def mgN (T:Int->Int):Nat->List Int->yN->Nat
 |0,_,_=>0
 |_+1,[],_=>0
 |b+1,n::l,x=>if xMu x inB n (T n) 32=0 then mgN T b l (mgA T x n)+1 else 0
theorem yGv {T:Int->Int} {l:List Int} {k:Nat} {n:Int} (h:l[k]?=some n) (x:yN):mgI T (l.take (k+1)) x=mgA T (mgI T (l.take k) x) n:=by
 unfold mgI;rw[Cc,h,Gc]
 rfl
theorem yGu {T:Int->Int} {l:List Int} {k:Nat} {n:Int} (h:l[k]?=some n) (hk:k<10) (x:yN):mgN T (10-k) (l.drop k) x=if xMu x inB n (T n) 32=0 then mgN T (10- (k+1)) (l.drop (k+1)) (mgA T x n)+1 else 0:=by
 obtain⟨hl,rfl⟩:=Ar.1 h;rw[Dj hl,show 10-k=(10- (k+1))+1 by omega,mgN]
theorem yKw {T:Int->Int} {l:List Int} {k:Nat} (h:l.length<=k) (x:yN):mgN T (10-k) (l.drop k) x=0:=by
 rw[List.drop_of_length_le h];cases 10-k<;>rfl
def xLc (x:yN):Prop:=x.boxes.length<=100000/\(∀b∈x.boxes,b.yL.length<=100000)/\x.subs.length<=100000
theorem xLc.right {x:yN} (h:zV x=true):xLc x:=by
 obtain⟨h1,h2,h3,h4⟩:=xD0 h;exact⟨ω,λb hb=>by have:=(h3 b hb).2;omega,ω⟩
theorem yEj {x:yN} {n:Bs} {ob sz fl:Int} (h:xMu x n ob sz fl=0):zV x=true:=by
 cases hr:zV x with
 |true=>rfl
 |false=>
  unfold xMu at h;rw[hr] at h;simp at h
theorem xLc.app {x:yN} {n:Bs} {ob sz fl:Int} (h:xMu x n ob sz fl=0):xLc (xLa x n ob sz fl)/\(xLa x n ob sz fl).subs=x.subs:=by
 have hr:=yEj h;obtain⟨h1,h2,h3,h4⟩:=xD0 hr;unfold xLa;rw[Ah h];refine⟨⟨by rw[Bf];omega,λb hb=>?_,by show x.subs.length<=_;omega⟩,rfl⟩;rcases Dz hb with hb|rfl
 ·have:=(h3 b hb).2;omega
 ·show((xTx x n).yL++[_]).length<=_;rw[Aj]
  have:(xTx x n).yL.length<=30:=by
   unfold xTx;rw[Aa];cases e:x.boxes[(xEi x n).toNat]? with
   |none=>simp
   |some b=>exact(h3 b (Bb e)).2
  simp;omega
theorem yBt {hd n:Bs} {z:Int} (h:z∈numberOf hd n):0<=z/\z<=4294967295:=by
 unfold numberOf at h;split at h
 ·split at h
  ·rename_i h2
   unfold rO at h2;simp only[Au,Be] at h2;simp only[De,Dp,Gn] at h;subst h;have:=h2.2;omega
  ·cases h
 ·cases h
theorem xM2 {d:Dk} {k u:Bs} {z:Int} (h:z∈wM d k u):0<=z/\z<=4294967295:=by
 unfold wM xEu at h;rw[List.mem_mergeSort] at h;obtain⟨n,_,hn⟩:=List.mem_flatMap.1 h;exact yBt hn
def mgT (d:Dk) (u xD old:ByteArray) (ep:Int) (n:Int):Int:=((xV0 d u xD old ep n).size:Int)
def mgL (d:Dk) (u xD old:ByteArray) (ep:Int) (x:yN):List Int:=(wM d [113] u.data.toList).take (mgN (mgT d u xD old ep) 10 (wM d [113] u.data.toList) x)
def mgG (u:ByteArray) (l:List Int):List Ch:=l.map λn=>⟨xJk [113] u.data.toList n,[],true⟩
def mgX (d:Dk) (u xD old:ByteArray) (ep:Int) (x:yN):yN:=mgI (mgT d u xD old ep) (mgL d u xD old ep x) x
def xP0 (d:Dk) (u xD old:ByteArray) (ep:Int) (x:yN) (xB:ByteArray):Bool:=decide (mgL d u xD old ep x≠[])&&decide (xL5 d u xD xB (mgX d u xD old ep x) (mgG u (mgL d u xD old ep x))=0)
def yC6 (d:Dk) (u xD old:ByteArray) (ep:Int) (x:yN) (xB:ByteArray):yN:=if xP0 d u xD old ep x xB=true then mgX d u xD old ep x else x
def xV4 (d:Dk) (u xD old:ByteArray) (ep:Int) (x:yN) (xB:ByteArray):Dk:=if xP0 d u xD old ep x xB=true then keepD d u xD xB (mgX d u xD old ep x) (mgG u (mgL d u xD old ep x)) else d
theorem yGw {u:ByteArray} {l:List Int} {k:Nat} {n:Int} (h:l[k]?=some n):mgG u (l.take (k+1))=mgG u (l.take k)++[⟨xJk [113] u.data.toList n,[],true⟩]:=by
 unfold mgG;rw[Cc,h,Da]
 rfl
theorem xFq:∀(l:List Op) {d:Dk},yP d=true->yP (vJ d l)=true
 |[],_,h=>h
 |o::l,d,h=>by
  show yP (vJ (pO d o) l)=true;refine xFq l ?_;unfold pO;split
  ·exact qF h
  ·split
   ·rename_i h2
    simp only[Au] at h2;exact xLq h h2.2
   ·exact h
theorem xSj {d:Dk} {l:List Ch} (h:xAj d l=0):yP (vO d l)=true:=by
 have hw:uY d l=0:=by
  unfold xAj at h;split at h
  ·assumption
  ·exact absurd h (by assumption)
 have hc:yP d=true:=by
  cases hc:wX d with
  |true=>
   unfold wX at hc;simp only[Au] at hc;exact hc.2
  |false=>unfold uY at hw;rw[hc] at hw;simp at hw
 unfold vO;unfold xAj at h;rw[Ah hw] at h⊢;split
 ·exact qF hc
 ·rename_i h0
  rw[Ag h0] at h;unfold xCi;rw[Ah h];exact xFq _ hc
theorem xQc {d:Dk} {u xD xB:ByteArray} {x:yN} {oth:List Ch} (h:xL5 d u xD xB x oth=0):∀s∈(keepD d u xD xB x oth).secs,s≠[]:=by
 unfold xL5 at h;unfold keepD;split at h
 ·rename_i hr
  rw[Ah hr];intro s hs e;have:=(kU.1 (xSj h)).2.2.1 s hs;rw[e] at this;cases this
 ·cases h
theorem yKv {d:Dk} {u xD old xB:ByteArray} {ep:Int} {x:yN} (h:xP0 d u xD old ep x xB=true):∀s∈(xV4 d u xD old ep x xB).secs,s≠[]:=by
 unfold xV4;rw[Ah h];unfold xP0 at h;simp only[Au,Be] at h;exact xQc h.2
end Mailsack
namespace Go.Proofs.VA
open Go.RowKit Mailsack MM BB SH SV RK DS IX Go.Proofs.ST Go.Proofs.SE
theorem tN {g:Nat}:∀(l:List Value) (i:Nat) (W:World) (b o:Nat),(yE g i l W).cell? (θ b o)=W.cell? (θ b o)∨b=g/\i<=o/\o<i+l.length
 |[],_,_,_,_=>.inl rfl
 |a::l,i,W,b,o=>by
  unfold yE;rcases tN l (i+1) (W.setCell (θ g i) a) b o with h|⟨h1,h2,h3⟩
  ·by_cases e:b=g/\o=i
   ·exact .inr ⟨e.1,ω,by simp;omega⟩
   ·exact .inl (h.trans (Et _ _ _ _ (by
     intro q;injection q with q1 q2;exact e ⟨by first|exact q1|exact q1.symm,by first|exact q2|exact q2.symm⟩)))
  ·exact .inr ⟨h1,ω,by simp;omega⟩
def yMj (W W':World) (g:Nat):Prop:=∀b o,W'.cell? (θ b o)=W.cell? (θ b o)∨b=g/\∀l:Bs,l≠[]->W.cell? (θ b o)≠some (xR l)
theorem yG2 {W W':World} {B g:Nat} {v:Value} {xs:List Bs} (h:RdS W B v xs) (hs:∀s∈xs,s≠[]) (hk:yMj W W' g):RdS W' B v xs:=by
 obtain⟨A,c,h1,h2,h3⟩:=h;refine⟨A,c,h1,h2,λhn=>?_⟩;obtain⟨b,off,h4,h5,h6⟩:=h3 hn;refine⟨b,off,h4,h5,λj x hx=>?_⟩;rcases hk b (off+j) with e|⟨_,e⟩
 ·exact e.trans (h6 j x hx)
 ·exact absurd (h6 j x hx) (e x (hs x (Bb hx)))
def NoWr (W:World) (g:Nat):Prop:=∀(o:Nat) a l,W.cell? (θ g o)=some (.int .i64 a)->W.cell? (θ g (o+1))=some (xR l)->False
theorem xCb {W W':World} {B g:Nat} {va vb:Value} {D:Dk} (h:RdD W B va vb D) (hs:∀s∈D.secs,s≠[]) (hk:yMj W W' g) (hr:NoWr W g):RdD W' B va vb D:=by
 refine⟨yG2 h.s hs hk,?_,h.ls,h.lc⟩;obtain⟨A,c,h1,h2,h3⟩:=h.c;refine⟨A,c,h1,h2,λhn=>?_⟩;obtain⟨b,off,h4,h5,h6⟩:=h3 hn;refine⟨b,off,h4,h5,λj m hm=>?_⟩;obtain⟨k1,k2⟩:=h6 j m hm
 have hne:b≠g:=by
  rintro rfl;exact hr _ _ _ k1 k2
 have hq:∀o,W'.cell? (θ b o)=W.cell? ⟨b,o,none⟩:=λo=>(hk b o).resolve_right λe=>hne e.1;exact⟨(hq _).trans k1,(hq _).trans k2⟩
theorem xZ1 (bv sv:Value) (x:yN) (n:Bs) (ob sz fl:Int) (w:World) (h:wZ 0 w bv sv x) (hl:xLc x):
  Calls prog 96 #[.agg #[bv,sv,.int .i64 x.given],xR n,.int .i64 ob,.int .i64 sz,.int .i64 fl] w λe w'=>∃bv' sv',e=.returned (.tuple #[.agg #[bv',sv',.int .i64 (xLa x n ob sz fl).given],.int .i64 (yF3 x n ob sz fl),.int .i64 (xMu x n ob sz fl)])/\wZ 0 w' bv' sv' (xLa x n ob sz fl)/\ψ w w':=by
 cases hr:zV x&&pW ob sz fl with
 |true=>
  simp only[Au] at hr;exact xYz bv sv x n ob sz fl w 0 (Bc _) h hr.1 hr.2
 |false=>
  refine(xZ0 bv sv x n ob sz fl w h.rd hl.1 hl.2.1 hl.2.2 hr).mono ?_;rintro e w' ⟨rfl,hb⟩;have he:xMu x n ob sz fl=1:=by unfold xMu;rw[Ah hr]
  have h1:xLa x n ob sz fl=⟨[],[],0⟩:=by unfold xLa;rw[he,Ag δ]
  have h2:yF3 x n ob sz fl=0:=by unfold yF3;rw[he,Ag δ]
  exact⟨_,_,by rw[h1,h2,he],by rw[h1];exact⟨⟨[],rfl,xW.nil _ _,λ_ h=>nomatch h⟩,xW.nil _ _⟩,hb⟩
theorem xJf {α β:Type} {e1 e2:TypeId} {k1 k2:Nat} {f1:α->List Value} {f2:β->List Value} {W:World} {b1 b2:Nat} {v1 v2:Value} {l1:List α} {l2:List β} (h1:xW e1 k1 f1 W b1 v1 l1) (h2:xW e2 k2 f2 W b2 v2 l2) (he:e1≠e2):v1.ownBlock=none∨v1.ownBlock≠v2.ownBlock:=by
 cases hv:v1.ownBlock with
 |none=>exact .inl rfl
 |some g=>
  refine .inr λe=>?_;obtain⟨c1,q1⟩:=xW.own h1 hv;obtain⟨c2,q2⟩:=xW.own h2 e.symm;rw[q1] at q2;injection q2 with q2;injection q2 with _ q2;exact he q2
theorem wZ.app {base b2:Nat} {W W':World} {bv sv tv:Value} {x:yN} {l:List Ch} (h:wZ base W bv sv x) (ho:xW 63 3 chF W b2 tv l) (hg:W.grownBy W' tv.ownBlock):wZ base W' bv sv x:=by
 obtain⟨bl,e,h1,h2⟩:=h.bo;exact⟨⟨bl,e,h1.grown hg (xJf h1 ho δ),λp hp=>(h2 p hp).grown hg (xJf (h2 p hp) ho δ)⟩,h.su.grown hg (xJf h.su ho δ)⟩
structure MgP (w:World) (b0:Nat) (va vb:Value) (so:Obj) (x:yN) (bv sv tv:Value) (oth:List Ch) (W:World):Prop where
 d:W.heap[w.heap.size]?=some (yI va vb)
 s:W.heap[w.heap.size+1]?=some so
 o1:W.heap[w.heap.size+2]?=some jK
 o2:W.heap[w.heap.size+3]?=some wO
 xb:W.heap[w.heap.size+4]?=some (ixO bv sv x.given)
 rd:wZ 0 W bv sv x
 own:xW 63 3 chF W b0 tv oth
 hb0:w.heap.size+5<=b0
 bel:ψ w W
theorem MgP.below {w W W':World} {b0:Nat} {va vb:Value} {so:Obj} {x:yN} {bv sv tv:Value} {oth:List Ch} (h:MgP w b0 va vb so x bv sv tv oth W) (hb:ψ W W'):MgP w b0 va vb so x bv sv tv oth W':=
 ⟨xC h.d hb (xH h.d),xC h.s hb (xH h.s),xC h.o1 hb (xH h.o1),xC h.o2 hb (xH h.o2),xC h.xb hb (xH h.xb),h.rd.below hb,h.own.below hb,h.hb0,bT h.bel hb⟩
theorem MgP.put {w W:World} {b0:Nat} {va vb:Value} {so:Obj} {x x':yN} {bv sv bv' sv' tv:Value} {oth:List Ch} (h:MgP w b0 va vb so x bv sv tv oth W) (hx:wZ 0 W bv' sv' x'):MgP w b0 va vb so x' bv' sv' tv oth (yE (w.heap.size+4) 0 [bv',sv',.int .i64 x'.given] W):=
 ⟨yH ω _ 0 W h.d,yH ω _ 0 W h.s,yH ω _ 0 W h.o1,yH ω _ 0 W h.o2,vC h.xb rfl,hx.set h.xb δ δ δ _ 0,xW.yE h.own _ 0 (by have:=h.hb0;omega),h.hb0,zG ω _ 0 W h.bel⟩
theorem MgP.app {w W W':World} {b0:Nat} {va vb:Value} {so:Obj} {x:yN} {bv sv tv tv':Value} {oth m:List Ch} (h:MgP w b0 va vb so x bv sv tv oth W) (h8:xA5 63 3 chF W W' b0 tv tv' m):MgP w b0 va vb so x bv sv tv' m W':=
 ⟨h8.keep h.d (h.own.far (by have:=h.hb0;omega)),h8.keep h.s (h.own.far (by have:=h.hb0;omega)),h8.keep h.o1 (h.own.far (by have:=h.hb0;omega)),h8.keep h.o2 (h.own.far (by have:=h.hb0;omega)),h8.keep h.xb (h.own.far (by have:=h.hb0;omega)),wZ.app h.rd h.own h8.grown,h8.own,h.hb0,h8.bel h.own (by have:=h.hb0;omega) h.bel h.bel.size⟩
structure Mid (lo:Nat) (w3 W:World):Prop where
 sz:w3.heap.size<=W.heap.size
 c:∀b o,lo<=b->b<w3.heap.size->W.cell? (θ b o)=w3.cell? (θ b o)
theorem Mid.below {lo:Nat} {w3 W W':World} (h:Mid lo w3 W) (hb:ψ W W'):Mid lo w3 W':=
 ⟨Bg h.sz hb.size,λb o h1 h2=>(hb.cell (p:=θ b o) (Bt h2 h.sz)).trans (h.c b o h1 h2)⟩
theorem Mid.belowW {lo:Nat} {w3 W W':World} (h:Mid lo w3 W) (hb:Below w3.heap.size W W'):Mid lo w3 W':=
 ⟨Bg h.sz hb.size,λb o h1 h2=>(hb.cell (p:=θ b o) h2).trans (h.c b o h1 h2)⟩
theorem MgP.rebase {w W:World} {b0 b1:Nat} {va vb:Value} {so:Obj} {x:yN} {bv sv:Value} (h:MgP w b0 va vb so x bv sv (.slice none 0 0) [] W) (hb:w.heap.size+5<=b1):MgP w b1 va vb so x bv sv (.slice none 0 0) [] W:=
 ⟨h.d,h.s,h.o1,h.o2,h.xb,h.rd,xW.nil _ _,hb,h.bel⟩
theorem Mid.set {lo g:Nat} {w3 W:World} (h:Mid lo w3 W) (hg:g<lo) (l:List Value) (i:Nat):Mid lo w3 (yE g i l W):=
 ⟨Bg h.sz (zG (B:=0) (Bc g) l i W (Aq 0 W)).size,λb o h1 h2=>by
  rcases tN (g:=g) l i W b o with e|⟨e,_⟩
  ·exact e.trans (h.c b o h1 h2)
  ·omega⟩
theorem xN7 {s:Bs} (e:Value.string ⟨#[]⟩=xR s):s=[]:=by
 unfold xR at e;injection e with e;injection e with e;have:=Ap Array.toList e;simpa using this.symm
theorem xRc {W:World} {g:Nat} (h:W.heap[g]?=some jK) (l:List Value):yMj W (yE g 0 l W) g:=by
 intro b o;rcases tN (g:=g) l 0 W b o with e|⟨rfl,_,_⟩
 ·exact .inl e
 ·refine .inr ⟨rfl,λs hs e=>?_⟩;rw[xA h] at e;rcases o with _|_|_|_|_|_|_|o
  ·exact hs (xN7 (by simpa using e))
  ·exact hs (xN7 (by simpa using e))
  ·exact hs (xN7 (by simpa using e))
  all_goals simp[xR] at e
theorem xI7 {W:World} {g:Nat} {u p o:ByteArray} {ep gv:Int} {A1 A2:Option Addr} {n1 c1 n2 c2:Nat} (h:W.heap[g]?=some (qE u p o ep (.slice A1 n1 c1) (.slice A2 n2 c2) gv)):NoWr W g:=by
 intro i a l h1 h2;rw[xA h] at h1 h2;rcases i with _|_|_|_|_|_|_|i<;>simp[xR] at h1 h2
theorem yI1 {W:World} {g:Nat} {u p o:ByteArray} {ep gv:Int} {A1 A2:Option Addr} {n1 c1 n2 c2:Nat} (h:W.heap[g]?=some (qE u p o ep (.slice A1 n1 c1) (.slice A2 n2 c2) gv)) (a b c:Value):yMj W (yE g 4 [a,b,c] W) g:=by
 intro b o;rcases tN (g:=g) _ 4 W b o with e|⟨rfl,h1,h2⟩
 ·exact .inl e
 ·refine .inr ⟨rfl,λs hs e=>?_⟩;rw[xA h] at e;rcases o with _|_|_|_|_|_|_|o
  ·omega
  ·omega
  ·omega
  ·omega
  all_goals simp[xR] at e
theorem xQ0 {W:World} {g:Nat} (h:W.heap[g]?=some wO):NoWr W g:=by
 intro i a l h1 h2;rw[xA h] at h1 h2;rcases i with _|_|i<;>simp[xR] at h1 h2
theorem xRd {W:World} {g:Nat} (h:W.heap[g]?=some wO) (l:List Value):yMj W (yE g 0 l W) g:=by
 intro b o;rcases tN (g:=g) l 0 W b o with e|⟨rfl,_,_⟩
 ·exact .inl e
 ·refine .inr ⟨rfl,λs hs e=>?_⟩;rw[xA h] at e;rcases o with _|_|o<;>simp[xR] at e
structure MgQ (w:World) (gd:Nat) (va vb:Value) (so:Obj) (bv sv:Value) (x:yN) (D:Dk) (b1 b2:Bool) (W:World):Prop where
 d:W.heap[gd]?=some (yI va vb)
 s:W.heap[w.heap.size+1]?=some so
 o1:W.heap[w.heap.size+2]?=some (if b1=true then so else jK)
 o2:W.heap[w.heap.size+3]?=some (if b2=true then yI va vb else wO)
 ix:wZ 0 W bv sv x
 rd:(∀s∈D.secs,s≠[])->RdD W W.heap.size va vb D
 bel:ψ w W
section
variable {w W:World} {gd:Nat} {va vb bv sv:Value} {so:Obj} {x:yN} {D:Dk} {b1 b2:Bool}
theorem MgQ.drew (h:MgQ w gd va vb so bv sv x D b1 b2 W):MgQ w gd va vb so bv sv x D b1 b2 W.drew:=
 ⟨h.d,h.s,h.o1,h.o2,h.ix.below (Aq _ W).drew,λhs=>(h.rd hs).below (Aq _ W).drew ν,h.bel.drew⟩
theorem MgQ.rM {l:List Value} (h:MgQ w gd va vb so bv sv x D false b2 W) (hl:l.length=7) (e:so=.cells l.toArray 50 (0,0)) (hg:gd≠w.heap.size+2):MgQ w gd va vb so bv sv x D true b2 (yE (w.heap.size+2) 0 l W):=by
 have h1:=h.o1;rw[Ag σ] at h1;have hsz:=(zG (b:=w.heap.size+2) (B:=0) (Bc _) l 0 W (Aq 0 W)).size
 refine⟨yH hg l 0 W h.d,yH ω l 0 W h.s,by rw[Ah rfl,e];exact vC h1 hl,yH ω l 0 W h.o2,h.ix.set h1 δ δ δ l 0,λhs=>(xCb (h.rd hs) hs (xRc h1 l) (xI7 h1)).more hsz,zG ω l 0 W h.bel⟩
theorem MgQ.yBc (h:MgQ w gd va vb so bv sv x D b1 false W) (hg:gd≠w.heap.size+3):MgQ w gd va vb so bv sv x D b1 true (yE (w.heap.size+3) 0 [va,vb] W):=by
 have h1:=h.o2;rw[Ag σ] at h1;have hsz:=(zG (b:=w.heap.size+3) (B:=0) (Bc _) [va,vb] 0 W (Aq 0 W)).size
 refine⟨yH hg _ 0 W h.d,yH ω _ 0 W h.s,yH ω _ 0 W h.o1,by rw[Ah rfl];exact vC h1 rfl,h.ix.set h1 δ δ δ _ 0,λhs=>(xCb (h.rd hs) hs (xRd h1 _) (xQ0 h1)).more hsz,zG ω _ 0 W h.bel⟩
end
end Go.Proofs.VA
namespace Go.Proofs.VA
open Go.RowKit Mailsack MM BB SH SV RK DS IX Go.Proofs.ST Go.Proofs.SE
def yEt (d:Dk) (u xD old:ByteArray) (ep:Int) (x:yN) (xB:ByteArray) (w:World) (va vb:Value) (e:Ending) (w':World):Prop:=
 ∃bv' sv' va' vb',(xP0 d u xD old ep x xB=false->va'=va/\vb'=vb)/\e=.returned (.tuple #[xXa u xD old ep bv' sv' (yC6 d u xD old ep x xB).given,.agg #[va',vb']])/\wZ 0 w' bv' sv' (yC6 d u xD old ep x xB)/\RdD w' w'.heap.size va' vb' (xV4 d u xD old ep x xB)/\ψ w w'
structure MgL (w w3:World) (va vb:Value) (so:Obj) (d:Dk) (u xD old:ByteArray) (ep:Int) (x:yN) (N:List Int) (k:Nat) (bv sv tv:Value) (W:World):Prop where
 m:MgP w w3.heap.size va vb so (mgI (mgT d u xD old ep) (N.take k) x) bv sv tv (mgG u (N.take k)) W
 n:mgN (mgT d u xD old ep) 10 N x=k+mgN (mgT d u xD old ep) (10-k) (N.drop k) (mgI (mgT d u xD old ep) (N.take k) x)
 l:xLc (mgI (mgT d u xD old ep) (N.take k) x)
 b:Mid (w.heap.size+5) w3 W
theorem yC5 {w:World} {va vb:Value} {so:Obj} {x:yN} {bv sv:Value} (h:wZ 0 w bv sv x):MgP w (w.heap.size+5) va vb so x bv sv (.slice none 0 0) [] (((((w.alloc (yI va vb)).alloc so).alloc jK).alloc wO).alloc (ixO bv sv x.given)):=by
 have h0:=xV3 w va vb so;have ha:=(Aq _ ((((w.alloc (yI va vb)).alloc so).alloc jK).alloc wO)).alloc ν (ixO bv sv x.given);have h1:=h0.below ha;have h2:=xJ ((((w.alloc (yI va vb)).alloc so).alloc jK).alloc wO) (ixO bv sv x.given);simp only[Ec] at h2
 have o1:=h1.o1;have o2:=h1.o2;rw[Ag σ] at o1 o2;exact⟨h1.d,h1.s,o1,o2,h2,h.below h1.bel,xW.nil _ _,Bd _,h1.bel⟩
theorem yC7 (va vb:Value) (d:Dk) (u xD old xB:ByteArray) (ep:Int) (bv sv:Value) (x:yN) (w:World) (h:RdD w w.heap.size va vb d) (hx:wZ 0 w bv sv x) (hl:xLc x)
  (hu:u.size<=1000) (hp:xD.size<=1000000) (hn:xB.size=12) (hc:d.cache.length<=10000) (hT:VaT w):
  Calls prog 52 #[.agg #[va,vb],xXa u xD old ep bv sv x.given,.string xB] w (yEt d u xD old ep x xB w va vb):=by
 obtain⟨A1,c1,A2,c2,rfl,rfl⟩:=yC h;obtain⟨Ab,cb,rfl,_⟩:=id hx.rd.boxes;obtain⟨As,cs,rfl,_⟩:=id hx.rd.subs;have H0:=ι (yC5 (va:=.slice A1 d.secs.length c1) (vb:=.slice A2 d.cache.length c2) (so:=qE u xD old ep (.slice Ab x.boxes.length cb) (.slice As x.subs.length cs) x.given) hx)
 have HMB:=ι (xV3 w (.slice A1 d.secs.length c1) (.slice A2 d.cache.length c2) (qE u xD old ep (.slice Ab x.boxes.length cb) (.slice As x.subs.length cs) x.given))
 have HNB:=ι (λW (hb:ψ w W)=>xJh (.slice A1 d.secs.length c1) (.slice A2 d.cache.length c2) d ⟨#[113]⟩ u W ((h.below hb ν).more hb.size) δ ω);rw[show(⟨#[113]⟩:ByteArray).data.toList=[113] from rfl] at HNB
 have HTX:=ι (λW n (hb:ψ w W) (hn:0<=n/\n<=4294967295)=>xFh (.slice A1 d.secs.length c1) (.slice A2 d.cache.length c2) d u xD old ep x.given n Ab As x.boxes.length cb x.subs.length cs W ((h.below hb ν).more hb.size) ω ω (hT.below hb))
 have HNU:=ι (λW n (hb:ψ w W) (hn:0<=n/\n<=4294967295)=>xD3 ⟨#[113]⟩ u n W δ ω ω (hT.below hb));rw[show(⟨#[113]⟩:ByteArray).data.toList=[113] from rfl] at HNU;have HNBD:=ι (λz (hz:z∈wM d [113] u.data.toList)=>xM2 hz)
 have HRD:=ι (Ai h (Ai hx (Ai hl (Ai hu (Ai hp (Ai hn (Ai hc hT.se.sha)))))));obtain⟨N,hN⟩:=eX (wM d [113] u.data.toList);have HN:=ι hN;rw[hN] at HNB HNBD;clear h hx hl hu hp hn hc hT hN
 obtain⟨PO,hPO⟩:=eX (yEt d u xD old ep x xB w (.slice A1 d.secs.length c1) (.slice A2 d.cache.length c2));rw[hPO];have HPO:=ι hPO;clear hPO;go_enter func52,ntmps52;go_upto_region 1 with fail
 obtain⟨w1,hw1⟩:=eX ((((w.alloc (yI (.slice A1 d.secs.length c1) (.slice A2 d.cache.length c2))).alloc (qE u xD old ep (.slice Ab x.boxes.length cb) (.slice As x.subs.length cs) x.given)).alloc jK).alloc wO)
 have hsz:w1.heap.size=w.heap.size+4:=by rw[<-hw1];simp only[Ec]
 have HSZ:=ι hsz;have HS2:Hid (∀o,(w1.alloc o).heap.size=w.heap.size+5):=ι (λo=>by rw[Ec,hsz]);rw[hw1] at H0 HMB;simp only[qE,jK,wO] at hw1;rw[hw1];clear hw1 hsz;have hb:=HMB.o.s;obtain⟨s0,s1,s2,s3,s4,s5,s6⟩:=xAr hb;clear hb;go_upto_region 3 with fail
 obtain⟨w2,hw2⟩:=eX (w1.alloc (ixO (.slice Ab x.boxes.length cb) (.slice As x.subs.length cs) x.given));have HS2:=ι ((HS2.o (ixO (.slice Ab x.boxes.length cb) (.slice As x.subs.length cs) x.given)));rw[hw2] at H0 HS2;simp only[ixO] at hw2;rw[hw2,HSZ.o]
 clear hw2 HMB s1 s2 s3 s4 s5 s6 s0 HSZ;have hb:=H0.o.s;have s0:=xA hb 0;have hd:=H0.o.d;have e0:=xA hd 0;have e1:=xA hd 1;simp only[gA,gB,gC] at e0 e1;simp only[gA,gC] at s0;clear hb hd;go_wp2_with fail
 refine(HNB.o _ H0.o.bel).mono ?_;rintro e w3 ⟨v,rfl,hr,hb3,hfv⟩;have HFV:=ι hfv;have HNV:=ι hr
 have H3:Hid (MgL w w3 (.slice A1 d.secs.length c1) (.slice A2 d.cache.length c2) (qE u xD old ep (.slice Ab x.boxes.length cb) (.slice As x.subs.length cs) x.given) d u xD old ep x N 0 (.slice Ab x.boxes.length cb) (.slice As x.subs.length cs) (.slice none 0 0) w3):=ι ⟨(H0.o.below hb3).rebase (by rw[<-HS2.o];exact hb3.size),by simp[mgI],HRD.o.2.2.1,⟨Bd _,λ_ _ _ _=>rfl⟩⟩
 rw[HS2.o] at HFV;obtain⟨A5,k5,rfl,_⟩:=hr;clear H0 HNB s0 e0 e1 hb3 hfv HS2;go_wp2_with fail
 go_loopw [9,26] (λtv iv wr=>∃(k:Nat) (A6:Option Addr) (n6 k6:Nat) (A7:Option Addr) (n7 k7:Nat),k<=N.length/\k<=10/\iv=.int .i64 k/\Hid (MgL w w3 (.slice A1 d.secs.length c1) (.slice A2 d.cache.length c2) (qE u xD old ep (.slice Ab x.boxes.length cb) (.slice As x.subs.length cs) x.given) d u xD old ep x N k (.slice A6 n6 k6) (.slice A7 n7 k7) tv wr)) (λ_ iv _=>N.length- (intOf iv).toNat)
 case atStart=>exact⟨0,_,_,_,_,_,_,Bc _,ω,rfl,H3⟩
 case round=>
  obtain⟨k,A6,n6,k6,A7,n7,k7,hk,hk10,rfl,HI⟩:=hrel;clear H3
  by_cases hlt:k<N.length
  case' neg=>
   obtain⟨xk,hxk⟩:=eX (mgI (mgT d u xD old ep) (N.take k) x);have HXK:=ι hxk;have HM:Hid (mgN (mgT d u xD old ep) 10 N x=k):=ι (by rw[HI.o.n,yKw ω];rfl);have hm:=HI.o.m;have hl:=HI.o.l;rw[hxk] at hm hl;have HT:=ι hm;have HLQ:=ι hl
   clear HI hm hl hxk HNU HNBD HTX HFV HNV
  case' pos=>
   by_cases h10:k<10
   case' neg=>
    obtain⟨n,hn⟩:∃n,N[k]?=some n:=⟨_,Af hlt⟩;obtain⟨_,_,e5,_,hcl⟩:=HNV.o;injection e5 with e5 e6 e7;subst e5 e7;obtain⟨b,off,rfl,hbw,hcs⟩:=hcl ω
    have q:=(HI.o.b.c b (off+k) (HFV.o _ _ _ rfl) hbw).trans (by have:=hcs k n hn 0 (.int .i64 n) rfl;simpa using this);obtain⟨xk,hxk⟩:=eX (mgI (mgT d u xD old ep) (N.take k) x);have HXK:=ι hxk
    have HM:Hid (mgN (mgT d u xD old ep) 10 N x=k):=ι (by rw[HI.o.n,show 10-k=0 by omega];rfl);have hm:=HI.o.m;have hl:=HI.o.l;rw[hxk] at hm hl;have HT:=ι hm;have HLQ:=ι hl;clear HI hm hl hxk HNU HNBD HTX HFV hcs hcl hn hbw
   case' pos=>
    obtain⟨n,hn⟩:∃n,N[k]?=some n:=⟨_,Af hlt⟩;obtain⟨_,_,e5,_,hcl⟩:=HNV.o;injection e5 with e5 e6 e7;subst e5 e7;obtain⟨b,off,rfl,hbw,hcs⟩:=hcl ω
    have q:=(HI.o.b.c b (off+k) (HFV.o _ _ _ rfl) hbw).trans (by have:=hcs k n hn 0 (.int .i64 n) rfl;simpa using this);have HB:=ι (HNBD.o n (Bb hn));have HBN:=ι HB.o;have hd:=HI.o.m.d;obtain⟨e0,e1⟩:=uQ hd;have hb:=HI.o.m.s
    obtain⟨s0,s1,s2,s3,s4,s5,s6⟩:=xAr hb;have HTX1:=ι (HTX.o wr n HI.o.m.bel HB.o);have HA:Hid (n∈N):=ι (Bb hn);have HN1:=ι hn;clear hd hb hcs hcl hn hbw;go_wp2_with fail
    refine HTX1.o.mono ?_;rintro e w4 ⟨rfl,hb4⟩;have H4:=ι (HI.o.m.below hb4);have HB4:=ι (HI.o.b.below hb4);have HST:=ι (yGv (T:=mgT d u xD old ep) HN1.o x);have HSN:=ι (yGu (T:=mgT d u xD old ep) HN1.o h10 (mgI (mgT d u xD old ep) (N.take k) x))
    have HSG:=ι (yGw (u:=u) HN1.o);have HQN:=ι HI.o.n;have HQL:=ι HI.o.l;clear HI HTX1 hb4 e0 e1 s0 s1 s2 s3 s4 s5 s6 q
    rw[show mgA (mgT d u xD old ep) (mgI (mgT d u xD old ep) (N.take k) x) n=xLa (mgI (mgT d u xD old ep) (N.take k) x) inB n ((xV0 d u xD old ep n).size:Int) 32 from rfl] at HST HSN;rw[show mgT d u xD old ep n=((xV0 d u xD old ep n).size:Int) from rfl] at HSN
    generalize hxk:mgI (mgT d u xD old ep) (N.take k) x=xk at H4 HST HSN HQN HQL;have HXK:=ι hxk;clear hxk;have hb:=H4.o.xb;obtain⟨s0,s1,s2⟩:=xAs hb;have HAP:=ι (xZ1 (.slice A6 n6 k6) (.slice A7 n7 k7) xk inB n ((xV0 d u xD old ep n).size:Int) 32 w4 H4.o.rd HQL.o)
    rw[show xR inB=.string ⟨#[73,78,66,79,88]⟩ from rfl] at HAP;have HLA:=ι (λhe=>xLc.app (x:=xk) (n:=inB) (ob:=n) (sz:=((xV0 d u xD old ep n).size:Int)) (fl:=32) he);generalize xMu xk inB n ((xV0 d u xD old ep n).size:Int) 32=ae at HAP HSN HLA
    generalize yF3 xk inB n ((xV0 d u xD old ep n).size:Int) 32=au at HAP;generalize xLa xk inB n ((xV0 d u xD old ep n).size:Int) 32=xn at HAP HST HSN HLA;generalize xV0 d u xD old ep n=mt at HAP;generalize yIs d u xD old ep n=me;clear hb;go_wp2_with fail
    refine HAP.o.mono ?_;rintro e w5 ⟨bv',sv',rfl,hrx,hb5⟩;obtain⟨A8,k8,rfl,_⟩:=id hrx.rd.boxes;obtain⟨A9,k9,rfl,_⟩:=id hrx.rd.subs;have H5:=ι (Ai (H4.o.below hb5) hrx);have HB5:=ι (HB4.o.below hb5);clear H4 HB4 HAP hrx hb5 s0 s1 s2;go_upto_region 9 with fail
    have hal:=φ w5 (ixO (.slice A8 xn.boxes.length k8) (.slice A9 xn.subs.length k9) xn.given);have H6:=ι (Ai (H5.o.1.below hal) (Ai (H5.o.2.below hal) (xJ w5 (ixO (.slice A8 xn.boxes.length k8) (.slice A9 xn.subs.length k9) xn.given))))
    have HB6:=ι (HB5.o.below hal);obtain⟨w6,hw6⟩:=eX (w5.alloc (ixO (.slice A8 xn.boxes.length k8) (.slice A9 xn.subs.length k9) xn.given));rw[hw6] at H6 HB6;simp only[ixO] at hw6;rw[hw6];clear hw6 H5 HB5 hal;generalize w5.heap.size=m5 at H6⊢
    by_cases hae:ae=0
    case' neg=>
     rw[Ag hae] at HSN;have HM:Hid (mgN (mgT d u xD old ep) 10 N x=k):=ι (by rw[HQN.o,HSN.o];rfl);have HT:=ι H6.o.1;have HLQ:=HQL;clear H6 HB6 HQN HSN HLA HSG HQL HST HTX HNU HNBD HB HBN HA HN1 HNV HFV
    case pos=>
     subst hae;rw[Ah rfl] at HSN;have HLX:=ι (HLA.o rfl).1;clear HLA;have hb:=H6.o.2.2;obtain⟨s0,s1,s2⟩:=xAs hb;have hx:=H6.o.1.xb;have HPT:=ι (H6.o.1.put H6.o.2.1);simp only[yE,Nat.reduceAdd] at HPT;have hbe:=H6.o.1.bel
     obtain⟨o0,y0,f0,o1,y1,f1,o2,y2,f2,HB⟩:=xP2 hx hbe ω (.slice A8 xn.boxes.length k8) (.slice A9 xn.subs.length k9) (.int .i64 xn.given) _ rfl;have HB7:=ι (HB6.o.set (g:=w.heap.size+4) ω [.slice A8 xn.boxes.length k8,.slice A9 xn.subs.length k9,.int .i64 xn.given] 0)
     simp only[yE,Nat.reduceAdd] at HB7;go_upto_region 11 with fail
     obtain⟨w7,hw7⟩:=eX (((w6.setCell (θ (w.heap.size+4) 0) (.slice A8 xn.boxes.length k8)).setCell (θ (w.heap.size+4) 1) (.slice A9 xn.subs.length k9)).setCell (θ (w.heap.size+4) 2) (.int .i64 xn.given));rw[hw7] at HPT HB7⊢
     clear hw7 HB f0 f1 f2 y0 y1 y2 o0 o1 o2 hbe hb hx s0 s1 s2 H6 HB6;have hb:=HPT.o.s;have s0:=xR9 hb;clear hb;have HNU7:=ι (HNU.o w7 n HPT.o.bel HBN.o);generalize xJk [113] u.data.toList n=nm at HNU7 HSG;go_wp2_with fail
     refine HNU7.o.mono ?_;rintro e w8 ⟨rfl,hb8⟩;have H8:=ι (HPT.o.below hb8);have HB8:=ι (HB7.o.below hb8);clear HPT HB7 HNU7 hb8 s0;have HLG:Hid ((mgG u (N.take k)).length<=10):=ι (by unfold mgG;rw[Bw,Ck];omega)
     have HRL:=ι (RdR.lit (m:=[(⟨nm,[],true⟩:Ch)]) (e:=63) xH5 w8 #[xR nm,.string ⟨#[]⟩,.bool true] rfl)
     have HAD:Hid (∀v9 w9,xA5 63 3 chF (w8.alloc (.cells #[xR nm,.string ⟨#[]⟩,.bool true] 63)) w9 w3.heap.size u9 v9 (mgG u (N.take k)++[⟨nm,[],true⟩])->Hid (MgL w w3 (.slice A1 d.secs.length c1) (.slice A2 d.cache.length c2) (qE u xD old ep (.slice Ab x.boxes.length cb) (.slice As x.subs.length cs) x.given) d u xD old ep x N (k+1) (.slice A8 xn.boxes.length k8) (.slice A9 xn.subs.length k9) v9 w9)):=ι λv9 w9 h9=>ι (by
      have hal:=φ w8 (.cells #[xR nm,.string ⟨#[]⟩,.bool true] 63);have h10:=(H8.o.below hal).app h9;rw[<-HSG.o] at h10;refine⟨by rw[HST.o];exact h10,?_,by rw[HST.o];exact HLX.o,?_⟩
      ·rw[HQN.o,HSN.o,HST.o];omega
      ·exact(HB8.o.below hal).belowW (h9.bel (H8.o.own.alloc _) ν (Aq _ _) (HB8.o.below hal).sz))
     go_wp2_with (at_builtin;refine uG tyCh rfl _ _ rfl rfl rfl (H8.o.own.alloc _) HRL.o (by have:=HLG.o;simp;omega) (HB8.o.below (φ w8 _)).sz ?_;intro v9 w9 h9;have HA9:=HAD.o _ _ h9;clear h9)
     exact⟨⟨k+1,_,_,_,_,_,_,ω,ω,by go_num,HA9⟩,by simp[intOf];omega⟩
  all_goals
   have HGL:Hid (mgL d u xD old ep x=N.take k):=ι (by unfold mgL;rw[HN.o,HM.o]);have HGX:Hid (mgX d u xD old ep x=xk):=ι (by unfold mgX;rw[HGL.o,HXK.o])
   have HGO:Hid (xP0 d u xD old ep x xB=(decide (N.take k≠[])&&decide (xL5 d u xD xB xk (mgG u (N.take k))=0))):=ι (by unfold xP0;rw[HGX.o,HGL.o]);have HGE:Hid (yC6 d u xD old ep x xB=if xP0 d u xD old ep x xB=true then xk else x):=ι (by unfold yC6;rw[HGX.o])
   have HGD:Hid (xV4 d u xD old ep x xB=if xP0 d u xD old ep x xB=true then keepD d u xD xB xk (mgG u (N.take k)) else d):=ι (by unfold xV4;rw[HGX.o,HGL.o]);have HG0:Hid ((mgG u (N.take k)).length=0↔N.take k=[]):=ι (by unfold mgG;rw[Bw,List.length_eq_zero_iff])
   have HG1:Hid ((mgG u (N.take k)).length<=10):=ι (by unfold mgG;rw[Bw,Ck];omega);generalize mgG u (N.take k)=gs at HT HGO HGD HG0 HG1;generalize N.take k=Lk at HGO HG0;obtain⟨A10,k10,hu9,_⟩:=HT.o.own.form;subst hu9;clear HGL HGX HXK HM HN
   by_cases hg:gs.length=0
   ·have HRX0:Hid (yC6 d u xD old ep x xB=x):=ι (by rw[HGE.o,HGO.o,HG0.o.1 hg];simp);have HRD0:Hid (xV4 d u xD old ep x xB=d):=ι (by rw[HGD.o,HGO.o,HG0.o.1 hg];simp)
    have HQ:=ι (show MgQ w w.heap.size (.slice A1 d.secs.length c1) (.slice A2 d.cache.length c2) (qE u xD old ep (.slice Ab x.boxes.length cb) (.slice As x.subs.length cs) x.given) (.slice Ab x.boxes.length cb) (.slice As x.subs.length cs) x d false false _ from⟨HT.o.d,HT.o.s,HT.o.o1,HT.o.o2,HRD.o.2.1.below HT.o.bel,λ_=>(HRD.o.1.below HT.o.bel ν).more HT.o.bel.size,HT.o.bel⟩)
    rw[hg];clear HT HGO HGE HGD HG0 HG1;go_upto_region 14 with fail
    refine RG.vL [2,3] (λL W=>Hid (MgQ w w.heap.size (.slice A1 d.secs.length c1) (.slice A2 d.cache.length c2) (qE u xD old ep (.slice Ab x.boxes.length cb) (.slice As x.subs.length cs) x.given) (.slice Ab x.boxes.length cb) (.slice As x.subs.length cs) x d (L 2) (L 3) W)) (λL L' W hl h=>by rw[<-hl 2 σ,<-hl 3 σ];exact h) κ κ κ (ι HQ.o.drew) ?_
    refine RG.lF (λL w9 hw9=>xAr hw9.o.s) ?_;refine RG.lF (λL w9 hw9=>uQ hw9.o.d) ?_;apply RG.uV
    ·rfl
    ·intro L w9 h0 _ hw9;have h9:=hw9.o;rw[h0] at h9;have hx:=h9.o1;rw[Ag σ] at hx;have HP:=ι (MgQ.rM h9 (l:=[.string u,.string xD,.string old,.int .i64 ep,.slice Ab x.boxes.length cb,.slice As x.subs.length cs,.int .i64 x.given]) rfl rfl ω)
     simp only[yE,Nat.reduceAdd] at HP;obtain⟨o0,y0,f0,o1,y1,f1,o2,y2,f2,o3,y3,f3,o4,y4,f4,o5,y5,f5,o6,y6,f6,HB⟩:=cpl7 hx h9.bel ω (.string u) (.string xD) (.string old) (.int .i64 ep) (.slice Ab x.boxes.length cb) (.slice As x.subs.length cs) (.int .i64 x.given) _ rfl
     clear hx h9 hw9;repeat go_step
     refine RG.xE ?_;exact HP
    ·rfl
    apply RG.uV
    ·rfl
    ·intro L w9 h0 _ hw9;have h9:=hw9.o;rw[h0] at h9;have hx:=h9.o2;rw[Ag σ] at hx;have HP:=ι (MgQ.yBc h9 ω);simp only[yE,Nat.reduceAdd] at HP;obtain⟨o0,y0,f0,o1,y1,f1,HB⟩:=xMk hx h9.bel ω (.slice A1 d.secs.length c1) (.slice A2 d.cache.length c2) _ rfl;clear hx h9 hw9
     repeat go_step
     refine RG.xE ?_;exact HP
    ·rfl
    refine RG.yY (λw14 xP1=>?_);have h1:=xP1.o.o1;have h2:=xP1.o.o2;rw[Ah rfl] at h1 h2;obtain⟨f0,f1,f2,f3,f4,f5,f6⟩:=xAr h1;obtain⟨g0,g1⟩:=uQ h2;have HB:=ι (Ai xP1.o.bel xP1.o.ix);clear h1 h2 xP1 HQ;go_wp2
    refine Ak (v:=.tuple #[xXa u xD old ep (.slice Ab x.boxes.length cb) (.slice As x.subs.length cs) x.given,.agg #[.slice A1 d.secs.length c1,.slice A2 d.cache.length c2]]) (by simp[results,results52,go_sem,f0,f1,f2,f3,f4,f5,f6,g0,g1]) rfl ?_;rw[<-HPO.o]
    exact⟨_,_,_,_,λ_=>⟨rfl,rfl⟩,by rw[HRX0.o],by rw[HRX0.o];exact HB.o.2,by rw[HRD0.o];exact(HRD.o.1.below HB.o.1 ν).more HB.o.1.size,HB.o.1⟩
   ·have hgl:Lk≠[]:=λe=>hg (HG0.o.2 e)
    have HKP:=ι (yH6 (.slice A1 d.secs.length c1) (.slice A2 d.cache.length c2) d u xD old xB ep x.given Ab As x.boxes.length cb x.subs.length cs (.slice A6 n6 k6) (.slice A7 n7 k7) (.slice A10 gs.length k10) xk gs _ ((HRD.o.1.below HT.o.bel ν).more HT.o.bel.size) HT.o.rd.rd (HT.o.own.rd xH5) HLQ.o.1 HLQ.o.2.1 HLQ.o.2.2 (by have:=HG1.o;omega) HRD.o.2.2.2.2.2.2.1 HRD.o.2.2.2.1 HRD.o.2.2.2.2.1 HRD.o.2.2.2.2.2.1 (HRD.o.2.2.2.2.2.2.2.below HT.o.bel ν))
    have HKS0:=ι (λhe=>xQc (d:=d) (u:=u) (xD:=xD) (xB:=xB) (x:=xk) (oth:=gs) he);generalize xL5 d u xD xB xk gs=ke at HKP HGO HKS0;generalize keepD d u xD xB xk gs=kd at HKP HGD HKS0;have hd:=HT.o.d;obtain⟨e0,e1⟩:=uQ hd;have hb:=HT.o.s;obtain⟨s0,s1,s2,s3,s4,s5,s6⟩:=xAr hb
    have hx:=HT.o.xb;obtain⟨x0,x1,x2⟩:=xAs hx;clear hd hb hx HG0 HG1;go_upto_region 15 with fail
    go_wp2_with fail
    refine HKP.o.mono ?_;rintro e w15 ⟨va',vb',rfl,hrd,hb15⟩;obtain⟨A11,k11,A12,k12,rfl,rfl⟩:=yC hrd;have hal:=φ w15 (yI (.slice A11 kd.secs.length k11) (.slice A12 kd.cache.length k12));have HT2:=ι ((HT.o.below hb15).below hal);have HR2:=ι ((hrd.below hal ν).more hal.size)
    have HD2:=ι (xJ w15 (yI (.slice A11 kd.secs.length k11) (.slice A12 kd.cache.length k12)));have HGDN:Hid (w.heap.size+5<=w15.heap.size):=ι (by have:=xH (HT.o.below hb15).xb;omega);clear HT hrd hb15 HKP hal e0 e1 s0 s1 s2 s3 s4 s5 s6 x0 x1 x2;go_upto_region 16 with fail
    obtain⟨w16,hw16⟩:=eX (w15.alloc (yI (.slice A11 kd.secs.length k11) (.slice A12 kd.cache.length k12)));rw[hw16] at HT2 HR2 HD2;simp only[yI] at hw16;rw[hw16];clear hw16;generalize w15.heap.size=gd at HD2 HGDN⊢
    by_cases hke:ke=0
    ·subst hke;have HKS:=ι (HKS0.o rfl);have yMi:Hid (xP0 d u xD old ep x xB=true):=ι (by rw[HGO.o];simp[hgl]);have HRX1:Hid (yC6 d u xD old ep x xB=xk):=ι (by rw[HGE.o,HGO.o];simp[hgl]);have HRD1:Hid (xV4 d u xD old ep x xB=kd):=ι (by rw[HGD.o,HGO.o];simp[hgl])
     clear HGO HGE HGD HKS0 hgl;have hb:=HT2.o.s;have o4:=xA hb 4;have o5:=xA hb 5;have o6:=xA hb 6;have y4:=xG hb 4;have y5:=xG hb 5;have y6:=xG hb 6;have hx:=HT2.o.xb;have x0:=xA hx 0;have x1:=xA hx 1;have x2:=xA hx 2;simp only[gA,gB,gC] at x0 x1 x2
     simp only[gA,gB,gC] at o4 o5 o6;have hsz:=(zG (b:=w.heap.size+1) (B:=0) (Bc _) [.slice A6 n6 k6,.slice A7 n7 k7,.int .i64 xk.given] 4 w16 (Aq 0 w16)).size;have o1:=HT2.o.o1;have o2:=HT2.o.o2
     have HQ:=ι (show MgQ w gd (.slice A11 kd.secs.length k11) (.slice A12 kd.cache.length k12) (qE u xD old ep (.slice A6 n6 k6) (.slice A7 n7 k7) xk.given) (.slice A6 n6 k6) (.slice A7 n7 k7) xk kd false false (yE (w.heap.size+1) 4 [.slice A6 n6 k6,.slice A7 n7 k7,.int .i64 xk.given] w16) from
      ⟨yH (by have:=HGDN.o;omega) _ 4 _ HD2.o,(xDx [.slice A6 n6 k6,.slice A7 n7 k7,.int .i64 xk.given] 4 w16 _ hb σ).trans rfl,by rw[Ag σ];exact yH ω _ 4 _ o1,by rw[Ag σ];exact yH ω _ 4 _ o2,HT2.o.rd.set hb δ δ δ _ 4,λhs=>(xCb HR2.o hs (yI1 hb _ _ _) (xI7 hb)).more hsz,zG ω _ 4 _ HT2.o.bel⟩)
     simp only[yE,Nat.reduceAdd] at HQ;clear HT2 HR2 HD2 hb hx hsz o1 o2;go_upto_region 19 with fail
     refine RG.vL [2,3] (λL W=>Hid (MgQ w gd (.slice A11 kd.secs.length k11) (.slice A12 kd.cache.length k12) (qE u xD old ep (.slice A6 n6 k6) (.slice A7 n7 k7) xk.given) (.slice A6 n6 k6) (.slice A7 n7 k7) xk kd (L 2) (L 3) W)) (λL L' W hl h=>by rw[<-hl 2 σ,<-hl 3 σ];exact h) κ κ κ (ι HQ.o.drew) ?_
     refine RG.lF (λL w9 hw9=>xAr hw9.o.s) ?_;refine RG.lF (λL w9 hw9=>uQ hw9.o.d) ?_;apply RG.uV
     ·rfl
     ·intro L w9 h0 _ hw9;have h9:=hw9.o;rw[h0] at h9;have hx:=h9.o1;rw[Ag σ] at hx;have HP:=ι (MgQ.rM h9 (l:=[.string u,.string xD,.string old,.int .i64 ep,.slice A6 n6 k6,.slice A7 n7 k7,.int .i64 xk.given]) rfl rfl (by have:=HGDN.o;omega))
      simp only[yE,Nat.reduceAdd] at HP;obtain⟨o0,y0,f0,o1,y1,f1,o2,y2,f2,o3,y3,f3,o4,y4,f4,o5,y5,f5,o6,y6,f6,HB⟩:=cpl7 hx h9.bel ω (.string u) (.string xD) (.string old) (.int .i64 ep) (.slice A6 n6 k6) (.slice A7 n7 k7) (.int .i64 xk.given) _ rfl;clear hx h9 hw9
      repeat go_step
      refine RG.xE ?_;exact HP
     ·rfl
     apply RG.uV
     ·rfl
     ·intro L w9 h0 _ hw9;have h9:=hw9.o;rw[h0] at h9;have hx:=h9.o2;rw[Ag σ] at hx;have HP:=ι (MgQ.yBc h9 (by have:=HGDN.o;omega));simp only[yE,Nat.reduceAdd] at HP
      obtain⟨o0,y0,f0,o1,y1,f1,HB⟩:=xMk hx h9.bel ω (.slice A11 kd.secs.length k11) (.slice A12 kd.cache.length k12) _ rfl;clear hx h9 hw9;repeat go_step
      refine RG.xE ?_;exact HP
     ·rfl
     refine RG.yY (λw14 xP1=>?_);have h1:=xP1.o.o1;have h2:=xP1.o.o2;rw[Ah rfl] at h1 h2;obtain⟨f0,f1,f2,f3,f4,f5,f6⟩:=xAr h1;obtain⟨g0,g1⟩:=uQ h2;have HB:=ι (Ai xP1.o.bel (Ai xP1.o.ix (xP1.o.rd HKS.o)));clear h1 h2 xP1 HQ;go_wp2
     refine Ak (v:=.tuple #[xXa u xD old ep (.slice A6 n6 k6) (.slice A7 n7 k7) xk.given,.agg #[.slice A11 kd.secs.length k11,.slice A12 kd.cache.length k12]]) (by simp[results,results52,go_sem,f0,f1,f2,f3,f4,f5,f6,g0,g1]) rfl ?_;rw[<-HPO.o]
     exact⟨_,_,_,_,λh=>absurd (h.symm.trans yMi.o) δ,by rw[HRX1.o],by rw[HRX1.o];exact HB.o.2.1,by rw[HRD1.o];exact HB.o.2.2,HB.o.1⟩
    ·have HRX0:Hid (yC6 d u xD old ep x xB=x):=ι (by rw[HGE.o,HGO.o];simp[hke]);have HRD0:Hid (xV4 d u xD old ep x xB=d):=ι (by rw[HGD.o,HGO.o];simp[hke])
     have HQ:=ι (show MgQ w w.heap.size (.slice A1 d.secs.length c1) (.slice A2 d.cache.length c2) (qE u xD old ep (.slice Ab x.boxes.length cb) (.slice As x.subs.length cs) x.given) (.slice Ab x.boxes.length cb) (.slice As x.subs.length cs) x d false false _ from⟨HT2.o.d,HT2.o.s,HT2.o.o1,HT2.o.o2,HRD.o.2.1.below HT2.o.bel,λ_=>(HRD.o.1.below HT2.o.bel ν).more HT2.o.bel.size,HT2.o.bel⟩)
     clear HT2 HR2 HD2 HGO HGE HGD HKS0 hgl HGDN;go_upto_region 17 with fail
     refine RG.vL [2,3] (λL W=>Hid (MgQ w w.heap.size (.slice A1 d.secs.length c1) (.slice A2 d.cache.length c2) (qE u xD old ep (.slice Ab x.boxes.length cb) (.slice As x.subs.length cs) x.given) (.slice Ab x.boxes.length cb) (.slice As x.subs.length cs) x d (L 2) (L 3) W)) (λL L' W hl h=>by rw[<-hl 2 σ,<-hl 3 σ];exact h) κ κ κ (ι HQ.o.drew) ?_
     refine RG.lF (λL w9 hw9=>xAr hw9.o.s) ?_;refine RG.lF (λL w9 hw9=>uQ hw9.o.d) ?_;apply RG.uV
     ·rfl
     ·intro L w9 h0 _ hw9;have h9:=hw9.o;rw[h0] at h9;have hx:=h9.o1;rw[Ag σ] at hx;have HP:=ι (MgQ.rM h9 (l:=[.string u,.string xD,.string old,.int .i64 ep,.slice Ab x.boxes.length cb,.slice As x.subs.length cs,.int .i64 x.given]) rfl rfl ω)
      simp only[yE,Nat.reduceAdd] at HP;obtain⟨o0,y0,f0,o1,y1,f1,o2,y2,f2,o3,y3,f3,o4,y4,f4,o5,y5,f5,o6,y6,f6,HB⟩:=cpl7 hx h9.bel ω (.string u) (.string xD) (.string old) (.int .i64 ep) (.slice Ab x.boxes.length cb) (.slice As x.subs.length cs) (.int .i64 x.given) _ rfl
      clear hx h9 hw9;repeat go_step
      refine RG.xE ?_;exact HP
     ·rfl
     apply RG.uV
     ·rfl
     ·intro L w9 h0 _ hw9;have h9:=hw9.o;rw[h0] at h9;have hx:=h9.o2;rw[Ag σ] at hx;have HP:=ι (MgQ.yBc h9 ω);simp only[yE,Nat.reduceAdd] at HP;obtain⟨o0,y0,f0,o1,y1,f1,HB⟩:=xMk hx h9.bel ω (.slice A1 d.secs.length c1) (.slice A2 d.cache.length c2) _ rfl;clear hx h9 hw9
      repeat go_step
      refine RG.xE ?_;exact HP
     ·rfl
     refine RG.yY (λw14 xP1=>?_);have h1:=xP1.o.o1;have h2:=xP1.o.o2;rw[Ah rfl] at h1 h2;obtain⟨f0,f1,f2,f3,f4,f5,f6⟩:=xAr h1;obtain⟨g0,g1⟩:=uQ h2;have HB:=ι (Ai xP1.o.bel xP1.o.ix);clear h1 h2 xP1 HQ;go_wp2
     refine Ak (v:=.tuple #[xXa u xD old ep (.slice Ab x.boxes.length cb) (.slice As x.subs.length cs) x.given,.agg #[.slice A1 d.secs.length c1,.slice A2 d.cache.length c2]]) (by simp[results,results52,go_sem,f0,f1,f2,f3,f4,f5,f6,g0,g1]) rfl ?_;rw[<-HPO.o]
     exact⟨_,_,_,_,λ_=>⟨rfl,rfl⟩,by rw[HRX0.o],by rw[HRX0.o];exact HB.o.2,by rw[HRD0.o];exact(HRD.o.1.below HB.o.1 ν).more HB.o.1.size,HB.o.1⟩
end Go.Proofs.VA
namespace Mailsack
def lgK (d:Dk) (u pw:ByteArray):List ByteArray:=xOw (wK d u) pw
def rZ (d:Dk) (u pw:ByteArray):ByteArray:=(lgK d u pw).getD 0 ⟨#[]⟩
def xJt (d:Dk) (u pw:ByteArray):ByteArray:=(lgK d u pw).getD 1 ⟨#[]⟩
def lgE (d:Dk) (u pw xB:ByteArray):Int:=
 if xB.size≠12 then 1 else if xC3 d u≠0 then xC3 d u else if xKw (wK d u) pw≠0 then xKw (wK d u) pw else xPx d u (rZ d u pw)
def lgX (d:Dk) (u pw xB:ByteArray):yN:=if lgE d u pw xB=0 then yC6 d u (rZ d u pw) (xJt d u pw) (wK d u).jB (xFt d u (rZ d u pw)) xB else ix0
def lgM (d:Dk) (u pw xB:ByteArray):Bool:=xP0 d u (rZ d u pw) (xJt d u pw) (wK d u).jB (xFt d u (rZ d u pw)) xB
def lgD (d:Dk) (u pw xB:ByteArray):Dk:=if lgE d u pw xB=0 then xV4 d u (rZ d u pw) (xJt d u pw) (wK d u).jB (xFt d u (rZ d u pw)) xB else⟨[],[]⟩
theorem yEp {d:Dk} {u:ByteArray} (hu:u.size<=1000):(wK d u).user.size<=1000:=by
 unfold wK;split
 ·rename_i h
  unfold xC3 at h;split at h
  ·split at h
   ·rename_i h2
    unfold xDt at h2;simp only[Au,Be] at h2;rw[h2.2];exact hu
   ·cases h
  ·cases h
 ·decide
theorem yL9 (a:vY) (pw:ByteArray):∀k∈xOw a pw,k.size<=1000000:=by
 intro k hk;unfold xOw at hk;split at hk
 ·rename_i h
  have hr:uL a=true:=by
   cases hr:uL a with
   |true=>rfl
   |false=>unfold xKw at h;rw[Ah hr] at h;cases h
  unfold uL at hr;simp only[Au,Bool.or_eq_true,Be] at hr;have hw:=xHe (pw:=pw) hr.1.2;split at hk
  ·simp only[De,Dp,Gn] at hk;subst hk;omega
  ·rename_i h0
   simp only[De,Dp,Gn] at hk;rcases hk with rfl|rfl
   ·omega
   ·have:a.old.size=48:=hr.2.resolve_left h0;rw[xPd,yS,kP,xHz this];omega
 ·cases hk
theorem yH0 (d:Dk) (u xD:ByteArray):xLc (xFt d u xD):=by
 unfold xFt;split
 ·unfold xKx;split
  ·rename_i h
   unfold yLc at h;simp only[Au] at h;exact xLc.right h.2
  ·exact⟨δ,λb hb=>(nomatch hb),δ⟩
 ·exact⟨δ,λb hb=>(nomatch hb),δ⟩
end Mailsack
namespace Go.Proofs.VA
open Go.RowKit Mailsack MM BB SH SV RK DS IX Go.Proofs.ST Go.Proofs.SE
def xMw (va vb:Value) (d:Dk) (u pw xB:ByteArray) (w:World) (e:Ending) (w':World):Prop:=
 ∃su sp so se bv sv va' vb',e=.returned (.tuple #[xXa su sp so se bv sv (lgX d u pw xB).given,.agg #[va',vb'],.int .i64 (lgE d u pw xB)])/\(lgE d u pw xB=0->su=u/\sp=rZ d u pw/\so=xJt d u pw/\se=(wK d u).jB)/\(lgE d u pw xB=0->lgM d u pw xB=false->va'=va/\vb'=vb)/\wZ 0 w' bv sv (lgX d u pw xB)/\RdD w' w'.heap.size va' vb' (lgD d u pw xB)/\ψ w w'
theorem xMw.bad {va vb:Value} {d:Dk} {u pw xB:ByteArray} {w w':World} {er:Int} (he:lgE d u pw xB=er) (hn:er≠0) (hb:ψ w w'):xMw va vb d u pw xB w (.returned (.tuple #[xXa ⟨#[]⟩ ⟨#[]⟩ ⟨#[]⟩ 0 (.slice none 0 0) (.slice none 0 0) 0,.agg #[.slice none 0 0,.slice none 0 0],.int .i64 er])) w':=by
 have h1:lgX d u pw xB=ix0:=by unfold lgX;rw[he,Ag hn]
 have h2:lgD d u pw xB=⟨[],[]⟩:=by unfold lgD;rw[he,Ag hn]
 exact⟨_,_,_,_,_,_,_,_,by rw[h1,he];rfl,λh=>absurd (he.symm.trans h) hn,λh=>absurd (he.symm.trans h) hn,by rw[h1];exact wZ.zero _ _,by rw[h2];exact⟨⟨none,0,rfl,Bd _,λh=>absurd h δ⟩,⟨none,0,rfl,Bd _,λh=>absurd h δ⟩,Bc _,Bc _⟩,hb⟩
theorem LgN.newd {w W:World} {va vb va' vb':Value} {so dd:Obj} {b1 b2:Bool} (h:LgN w va vb so dd b1 b2 W):LgN w va' vb' so dd b1 b2 (yE w.heap.size 0 [va',vb'] W):=
 ⟨vC h.d rfl,yH ω _ 0 W h.o1,yH ω _ 0 W h.o2,zG ω _ 0 W h.bel⟩
theorem yGm {W:World} {g:Nat} {A1 A2:Option Addr} {n1 c1 n2 c2:Nat} (h:W.heap[g]?=some (yI (.slice A1 n1 c1) (.slice A2 n2 c2))):NoWr W g:=by
 intro i a l h1 h2;rw[xA h] at h1 h2;rcases i with _|_|i<;>simp at h1 h2
theorem yI2 {W:World} {g:Nat} {A1 A2:Option Addr} {n1 c1 n2 c2:Nat} (h:W.heap[g]?=some (yI (.slice A1 n1 c1) (.slice A2 n2 c2))) (l:List Value):yMj W (yE g 0 l W) g:=by
 intro b o;rcases tN (g:=g) l 0 W b o with e|⟨rfl,_,_⟩
 ·exact .inl e
 ·refine .inr ⟨rfl,λs hs e=>?_⟩;rw[xA h] at e;rcases o with _|_|o<;>simp[xR] at e
theorem yEh {W:World} {g:Nat} {u p o:ByteArray} {ep gv:Int} {A1 A2:Option Addr} {n1 c1 n2 c2:Nat} (h:W.heap[g]?=some (qE u p o ep (.slice A1 n1 c1) (.slice A2 n2 c2) gv)) (a b c:Value):yMj W (yE g 0 [.string u,.string p,.string o,.int .i64 ep,a,b,c] W) g:=by
 intro b' i;have h2:=vC (b:=g) (l:=[.string u,.string p,.string o,.int .i64 ep,a,b,c]) h rfl;rcases tN (g:=g) [.string u,.string p,.string o,.int .i64 ep,a,b,c] 0 W b' i with e|⟨rfl,_,_⟩
 ·exact .inl e
 ·rw[xA h,xA h2];rcases i with _|_|_|_|_|_|_|i
  ·exact .inl rfl
  ·exact .inl rfl
  ·exact .inl rfl
  ·exact .inl rfl
  all_goals exact .inr ⟨rfl,λs hs e=>by simp[xR] at e⟩
theorem xIi (g i:Nat) (l:List Value) (W:World):W.heap.size<=(yE g i l W).heap.size:=(zG (b:=g) (B:=0) (Bc _) l i W (Aq 0 W)).size
theorem yCa (va vb:Value) (d:Dk) (u pw xB:ByteArray) (w:World) (h:RdD w w.heap.size va vb d) (hu:u.size<=1000) (hpw:pw.size<=1000000) (hc:d.cache.length<=10000) (hT:VaT w):
  Calls prog 14 #[.agg #[va,vb],.string u,.string pw,.string xB] w (xMw va vb d u pw xB w):=by
 have hps:∀k∈lgK d u pw,k.size<=1000000:=yL9 _ _
 by_cases hn:xB.size=12
 case neg=>
  refine(xJs va vb d u pw xB w h hn).mono ?_;rintro e w' ⟨rfl,hb⟩;exact xMw.bad (by unfold lgE;rw[Ah hn]) δ hb
 obtain⟨A1,c1,A2,c2,rfl,rfl⟩:=yC h;have H0:=ι (λso dd=>xVa w (.slice A1 d.secs.length c1) (.slice A2 d.cache.length c2) so dd);have HAC:=ι (λW (hb:ψ w W)=>xF9 (.slice A1 d.secs.length c1) (.slice A2 d.cache.length c2) d u W ((h.below hb ν).more hb.size) ω)
 have HUL:=ι (λW (hb:ψ w W)=>xX0 (wK d u) pw W (yEp hu) hpw (hT.se.sha.below hb ν));have HRD:=ι (Ai h (Ai hu (Ai hc (Ai hT hn))))
 have HLE:Hid (lgE d u pw xB=if xC3 d u≠0 then xC3 d u else if xKw (wK d u) pw≠0 then xKw (wK d u) pw else xPx d u (rZ d u pw)):=ι (by unfold lgE;rw[Ag (by simpa using hn)])
 have HBA:=ι (λer (he:lgE d u pw xB=er) hn w' hb=>xMw.bad (va:=.slice A1 d.secs.length c1) (vb:=.slice A2 d.cache.length c2) (w:=w) (w':=w') he hn hb);have HPS:=ι hps;have HKE:Hid (xOw (wK d u) pw=lgK d u pw):=ι rfl;rw[HKE.o] at HUL
 obtain⟨PO,hPO⟩:=eX (xMw (.slice A1 d.secs.length c1) (.slice A2 d.cache.length c2) d u pw xB w);rw[hPO];have HPO:=ι hPO;have hn1:((xB.size:Int)==12)=true:=by simp;omega
 have hn2:((xB.size:Int)!=12)=false:=by simp;omega
 have HEP:Hid ((wK d u).jB=(wK d u).jB):=ι rfl;clear h hu hpw hps hc hT hPO hn HKE;generalize hae:xC3 d u=ae at HAC HLE;have HAE:=ι hae;generalize hue:xKw (wK d u) pw=ue at HUL HLE;have HUE:=ι hue;obtain⟨ar,har⟩:=eX (wK d u);have HAR:=ι har;rw[har] at HAC HUL
 clear har hae hue HEP;obtain⟨tu,ts,tr,te,tp,tn,tw,to_⟩:=ar;simp only[xB1] at HAC HUL;go_enter func14,ntmps14;go_upto_region 3 with fail
 obtain⟨w1,hw1⟩:=eX (((w.alloc (yI (.slice A1 d.secs.length c1) (.slice A2 d.cache.length c2))).alloc jK).alloc wO);rw[hw1] at H0;simp only[qE,jK,wO] at hw1;rw[hw1];clear hw1;have hb:=(H0.o jK wO).d;obtain⟨e0,e1⟩:=uQ hb;clear hb;go_wp2_with fail
 refine cM (HAC.o _ (H0.o jK wO).bel) λw2 hb2=>?_;have H2:=ι (λso dd=>(H0.o so dd).below hb2);clear H0 HAC hb2 e0 e1
 have H3:Hid ((∀so dd,LgN w (.slice A1 d.secs.length c1) (.slice A2 d.cache.length c2) so dd false false (w2.alloc (yV ⟨tu,ts,tr,te,tp,tn,tw,to_⟩)))/\(w2.alloc (yV ⟨tu,ts,tr,te,tp,tn,tw,to_⟩)).heap[w2.heap.size]?=some (yV ⟨tu,ts,tr,te,tp,tn,tw,to_⟩)):=ι ⟨λso dd=>(H2.o so dd).below ((Aq _ _).alloc ν _),xJ _ _⟩
 go_upto_region 4 with fail
 obtain⟨w3,hw3⟩:=eX (w2.alloc (yV ⟨tu,ts,tr,te,tp,tn,tw,to_⟩));rw[hw3] at H3;simp only[yV] at hw3 H3;rw[hw3];clear hw3 H2;generalize w2.heap.size=g2 at H3⊢
 by_cases hae:ae=0
 case neg=>
  have HBAD:=ι (HBA.o ae (by rw[HLE.o,Ah hae]) hae);have HW:=ι (H3.o.1 jK wO);clear H3 HLE HUL HBA;go_upto_region 5 with fail
  have h1:=HW.o.o1;have h2:=HW.o.o2;rw[Ag σ] at h1 h2;have HP:=ι (LgN.yBc (LgN.rM HW.o (l:=[.string ⟨#[]⟩,.string ⟨#[]⟩,.string ⟨#[]⟩,.int .i64 0,.slice none 0 0,.slice none 0 0,.int .i64 0]) rfl rfl) (l:=[.slice none 0 0,.slice none 0 0]) rfl rfl)
  simp only[yE,Nat.reduceAdd] at HP;have H0:=HW;clear HW;have o0:=xA h1 0;have o1:=xA h1 1;have o2:=xA h1 2;have o3:=xA h1 3;have o4:=xA h1 4;have o5:=xA h1 5;have o6:=xA h1 6;have y0:=xG h1 0;have y1:=xG h1 1;have y2:=xG h1 2;have y3:=xG h1 3;have y4:=xG h1 4;have y5:=xG h1 5
  have y6:=xG h1 6;have q0:=xA h2 0;have q1:=xA h2 1;have z0:=xG h2 0;have z1:=xG h2 1;simp only[gA,gB,gC] at o0 o1 o2 o3 o4 o5 o6 q0 q1;clear h1 h2 H0;rw[show w.heap.size+1+1=w.heap.size+2 from rfl];go_wp2;have h1:=HP.o.o1;have h2:=HP.o.o2;rw[Ah rfl] at h1 h2
  obtain⟨f0,f1,f2,f3,f4,f5,f6⟩:=xAr h1;obtain⟨g0,g1⟩:=uQ h2;have HB:=ι HP.o.bel
  refine Ak (v:=.tuple #[.agg #[.string ⟨#[]⟩,.string ⟨#[]⟩,.string ⟨#[]⟩,.int .i64 0,.slice none 0 0,.slice none 0 0,.int .i64 0],.agg #[.slice none 0 0,.slice none 0 0],.int .i64 ae]) (by simp[results,results14,go_sem,f0,f1,f2,f3,f4,f5,f6,g0,g1]) rfl ?_
  rw[<-HPO.o];exact HBAD.o _ HB.o
 subst hae;rw[Ag σ] at HLE;have hb:=H3.o.2;obtain⟨a0,a1,a2,a3,a4,a5,a6,a7⟩:=xYs hb;clear hb;go_upto_region 6 with fail
 go_wp2_with fail
 refine(HUL.o _ (H3.o.1 jK wO).bel).mono ?_;rintro e w4 ⟨v,rfl,hv,hb4⟩;have H4:=ι (Ai (λso dd=>(H3.o.1 so dd).below hb4) (xC H3.o.2 hb4 (xH H3.o.2)));clear H3 HUL hb4 a0 a1 a2 a3 a4 a5 a6 a7;have HV:=ι hv;obtain⟨A3,k3,rfl,hk3,_⟩:=hv
 by_cases hue:ue=0
 case neg=>
  have HBAD:=ι (HBA.o ue (by rw[HLE.o,Ah hue]) hue);have HW:=ι (H4.o.1 jK wO);clear H4 HLE HBA HV;go_upto_region 8 with fail
  have h1:=HW.o.o1;have h2:=HW.o.o2;rw[Ag σ] at h1 h2;have HP:=ι (LgN.yBc (LgN.rM HW.o (l:=[.string ⟨#[]⟩,.string ⟨#[]⟩,.string ⟨#[]⟩,.int .i64 0,.slice none 0 0,.slice none 0 0,.int .i64 0]) rfl rfl) (l:=[.slice none 0 0,.slice none 0 0]) rfl rfl)
  simp only[yE,Nat.reduceAdd] at HP;have H0:=HW;clear HW;have o0:=xA h1 0;have o1:=xA h1 1;have o2:=xA h1 2;have o3:=xA h1 3;have o4:=xA h1 4;have o5:=xA h1 5;have o6:=xA h1 6;have y0:=xG h1 0;have y1:=xG h1 1;have y2:=xG h1 2;have y3:=xG h1 3;have y4:=xG h1 4;have y5:=xG h1 5
  have y6:=xG h1 6;have q0:=xA h2 0;have q1:=xA h2 1;have z0:=xG h2 0;have z1:=xG h2 1;simp only[gA,gB,gC] at o0 o1 o2 o3 o4 o5 o6 q0 q1;clear h1 h2 H0;rw[show w.heap.size+1+1=w.heap.size+2 from rfl];go_wp2;have h1:=HP.o.o1;have h2:=HP.o.o2;rw[Ah rfl] at h1 h2
  obtain⟨f0,f1,f2,f3,f4,f5,f6⟩:=xAr h1;obtain⟨g0,g1⟩:=uQ h2;have HB:=ι HP.o.bel
  refine Ak (v:=.tuple #[.agg #[.string ⟨#[]⟩,.string ⟨#[]⟩,.string ⟨#[]⟩,.int .i64 0,.slice none 0 0,.slice none 0 0,.int .i64 0],.agg #[.slice none 0 0,.slice none 0 0],.int .i64 ue]) (by simp[results,results14,go_sem,f0,f1,f2,f3,f4,f5,f6,g0,g1]) rfl ?_
  rw[<-HPO.o];exact HBAD.o _ HB.o
 subst hue;rw[Ag σ] at HLE
 have HKS:Hid (∃p,lgK d u pw=[p]∨∃o,lgK d u pw=[p,o]):=ι (by
  unfold lgK xOw;rw[HUE.o,Ah rfl];split
  ·exact⟨_,.inl rfl⟩
  ·exact⟨_,.inr ⟨_,rfl⟩⟩)
 obtain⟨xD,hk⟩:=HKS.o;rcases hk with hk|⟨old,hk⟩
 case' inr=>
  have HPR:Hid (rZ d u pw=xD):=ι (by unfold rZ;rw[hk];rfl);have HOR:Hid (xJt d u pw=old):=ι (by unfold xJt;rw[hk];rfl);have HPK:Hid (xD∈lgK d u pw):=ι (by rw[hk];simp);rw[hk,show[xD,old].map (λb:ByteArray=>b.data.toList)=[xD.data.toList,old.data.toList] from rfl] at HV
  rw[hk] at hk3;obtain⟨_,_,he,_,hcl⟩:=HV.o;injection he with he1 he2 he3;subst he1 he3;obtain⟨b3,f3,rfl,hb3,hcs⟩:=hcl σ;have HV:=ι (Ai hb3 (hcs 0 _ rfl));have HV2:=ι (Ai hb3 (hcs 1 _ rfl));rw[show xR xD.data.toList=.string xD from rfl] at HV
  rw[show xR old.data.toList=.string old from rfl] at HV2;rw[hk];clear hcs hb3 hcl HKS hk;have hk3':2<=k3:=hk3;clear hk3;go_upto_region 9 with fail
  rw[Db] at HV;have H5:Hid (∀w5,ψ w4 w5->(∀so dd,LgN w (.slice A1 d.secs.length c1) (.slice A2 d.cache.length c2) so dd false false w5)):=ι (λw5 hb so dd=>(H4.o.1 so dd).below hb)
  refine RG.rR [8] [7] (λL α W=>Hid (J7 w4 (qE u xD ⟨#[]⟩ te (.slice none 0 0) (.slice none 0 0) 0) L α W)) (λL L' α α' W hl ha h=>ι ⟨h.o.b,λe=>by
   have l7:=hl 7 σ;have l8:=hl 8 σ;rw[<-ha 7 σ (l7.trans e),<-l8];exact h.o.n (l7.trans e)⟩) κ κ κ (ι ⟨(Aq _ _).drew,λe=>(by cases e)⟩) ?_
  iterate 3 refine RG.aS ?_
  refine RG.aF (λα L w9 h0 hcl xQ hw9=>(hw9.o.b.cell (p:=θ b3 f3) HV.o.1).trans HV.o.2) ?_;refine RG.aS ?_;apply RG.pK
  ·rfl
  ·rfl
  ·intro α L w9 h0 hcl xQ hw9;have hb:=xC H4.o.2 hw9.o.b (xH H4.o.2);have a3:=xA hb 3;simp only[gA,gB,gC] at a3;repeat go_step
   exact RG.xE hw9
  ·intro α;rfl
  refine RG.aS ?_;apply RG.xS1
  ·rfl
  ·intro α L w9 b hb h0 hcl hw9;have e8:=hcl.not 9 (i:=8) h0 κ;repeat go_step
   rw[<-hb];refine RG.xE ?_;refine ι ⟨hw9.o.b.alloc hw9.o.b.size _,λ_=>?_⟩;rw[RG.xBs,Ag (by simp[e8]),hb];exact⟨hw9.o.b.size,xJ _ _⟩
  ·intro b α;rfl
  apply RG.xN1 (v:=undef)
  ·rfl
  ·rfl
  ·intro α L w9 h0 hcl xQ hw9;have h7:L 7=true:=by simpa using xQ.yes 9 (i:=8) (j:=7) σ κ
   obtain⟨hle,hx⟩:=hw9.o.n h7;rw[h0,Ag σ] at hx;obtain⟨o0,y0,f0,o1,y1,f1,o2,y2,f2,o3,y3,f3,o4,y4,f4,o5,y5,f5,o6,y6,f6,HB⟩:=cpl7 hx hw9.o.b ω (.string u) (.string xD) (.string ⟨#[]⟩) (.int .i64 te) (.slice none 0 0) (.slice none 0 0) (.int .i64 0) _ rfl
   have hx2:=vC (b:=α 7) (l:=[.string u,.string xD,.string ⟨#[]⟩,.int .i64 te,.slice none 0 0,.slice none 0 0,.int .i64 0]) hx rfl;simp only[yE,Nat.reduceAdd] at hx2;have HX:=ι hx2;clear hx hx2;repeat go_step
   refine RG.xE ?_;exact ι ⟨HB.o,λ_=>⟨hle,by rw[Ah σ];exact HX.o⟩⟩
  ·intro α;rfl
  refine RG.kM (λα w5 hw5=>?_);obtain⟨hle,hx⟩:=hw5.o.n rfl;rw[Ah rfl] at hx;simp only[Ay,Nat.reduceAdd];generalize α 7=g at hle hx⊢
  have H6:=ι (Ai (H5.o w5 hw5.o.b) (Ai hx (show w.heap.size+3<=g from Bg (by have:=xH (H4.o.1 jK wO).o2;omega) hle)));have HB45:=ι hw5.o.b;clear hw5 hx hle H5 H4 HV;have q:=(HB45.o.cell (p:=(θ b3 (f3+1))) HV2.o.1).trans HV2.o.2;have hs:=H6.o.2.1
  have o2:=xA hs 2;have y2:=xG hs 2;simp only[gA,gB,gC] at o2;have hb2:=yD hs 2 (.string old);simp only[Ba,Cm,Bh] at hb2;have HN:=ι (Ai (λso dd=>(H6.o.1 so dd).far H6.o.2.2 [.string old] 2) (Ai hb2 H6.o.2.2))
  simp only[yE] at HN;clear hs hb2 HV2 HB45;clear H6;go_upto_region 12 with fail
  have H6:=HN;clear HN q o2 y2;obtain⟨w5b,hw5b⟩:=eX (w5.setCell (θ g 2) (.string old));rw[hw5b] at H6;rw[hw5b];clear hw5b
 case' inl=>
  have HPR:Hid (rZ d u pw=xD):=ι (by unfold rZ;rw[hk];rfl);have HOR:Hid (xJt d u pw=⟨#[]⟩):=ι (by unfold xJt;rw[hk];rfl);have HPK:Hid (xD∈lgK d u pw):=ι (by rw[hk];simp);rw[hk,show[xD].map (λb:ByteArray=>b.data.toList)=[xD.data.toList] from rfl] at HV;rw[hk] at hk3
  obtain⟨_,_,he,_,hcl⟩:=HV.o;injection he with he1 he2 he3;subst he1 he3;obtain⟨b3,f3,rfl,hb3,hcs⟩:=hcl σ;have HV:=ι (Ai hb3 (hcs 0 _ rfl));rw[show xR xD.data.toList=.string xD from rfl] at HV;rw[hk];clear hcs hb3 hcl HKS hk;have hk3':1<=k3:=hk3;clear hk3
  go_upto_region 9 with fail
  rw[Db] at HV;have H5:Hid (∀w5,ψ w4 w5->(∀so dd,LgN w (.slice A1 d.secs.length c1) (.slice A2 d.cache.length c2) so dd false false w5)):=ι (λw5 hb so dd=>(H4.o.1 so dd).below hb)
  refine RG.rR [8] [7] (λL α W=>Hid (J7 w4 (qE u xD ⟨#[]⟩ te (.slice none 0 0) (.slice none 0 0) 0) L α W)) (λL L' α α' W hl ha h=>ι ⟨h.o.b,λe=>by
   have l7:=hl 7 σ;have l8:=hl 8 σ;rw[<-ha 7 σ (l7.trans e),<-l8];exact h.o.n (l7.trans e)⟩) κ κ κ (ι ⟨(Aq _ _).drew,λe=>(by cases e)⟩) ?_
  iterate 3 refine RG.aS ?_
  refine RG.aF (λα L w9 h0 hcl xQ hw9=>(hw9.o.b.cell (p:=θ b3 f3) HV.o.1).trans HV.o.2) ?_;refine RG.aS ?_;apply RG.pK
  ·rfl
  ·rfl
  ·intro α L w9 h0 hcl xQ hw9;have hb:=xC H4.o.2 hw9.o.b (xH H4.o.2);have a3:=xA hb 3;simp only[gA,gB,gC] at a3;repeat go_step
   exact RG.xE hw9
  ·intro α;rfl
  refine RG.aS ?_;apply RG.xS1
  ·rfl
  ·intro α L w9 b hb h0 hcl hw9;have e8:=hcl.not 9 (i:=8) h0 κ;repeat go_step
   rw[<-hb];refine RG.xE ?_;refine ι ⟨hw9.o.b.alloc hw9.o.b.size _,λ_=>?_⟩;rw[RG.xBs,Ag (by simp[e8]),hb];exact⟨hw9.o.b.size,xJ _ _⟩
  ·intro b α;rfl
  apply RG.xN1 (v:=undef)
  ·rfl
  ·rfl
  ·intro α L w9 h0 hcl xQ hw9;have h7:L 7=true:=by simpa using xQ.yes 9 (i:=8) (j:=7) σ κ
   obtain⟨hle,hx⟩:=hw9.o.n h7;rw[h0,Ag σ] at hx;obtain⟨o0,y0,f0,o1,y1,f1,o2,y2,f2,o3,y3,f3,o4,y4,f4,o5,y5,f5,o6,y6,f6,HB⟩:=cpl7 hx hw9.o.b ω (.string u) (.string xD) (.string ⟨#[]⟩) (.int .i64 te) (.slice none 0 0) (.slice none 0 0) (.int .i64 0) _ rfl
   have hx2:=vC (b:=α 7) (l:=[.string u,.string xD,.string ⟨#[]⟩,.int .i64 te,.slice none 0 0,.slice none 0 0,.int .i64 0]) hx rfl;simp only[yE,Nat.reduceAdd] at hx2;have HX:=ι hx2;clear hx hx2;repeat go_step
   refine RG.xE ?_;exact ι ⟨HB.o,λ_=>⟨hle,by rw[Ah σ];exact HX.o⟩⟩
  ·intro α;rfl
  refine RG.kM (λα w5 hw5=>?_);obtain⟨hle,hx⟩:=hw5.o.n rfl;rw[Ah rfl] at hx;simp only[Ay,Nat.reduceAdd];generalize α 7=g at hle hx⊢
  have H6:=ι (Ai (H5.o w5 hw5.o.b) (Ai hx (show w.heap.size+3<=g from Bg (by have:=xH (H4.o.1 jK wO).o2;omega) hle)));have HB45:=ι hw5.o.b;clear hw5 hx hle H5 H4 HV;go_upto_region 12 with fail
  obtain⟨old,hold⟩:=eX (⟨#[]⟩:ByteArray);rw[hold] at H6 HOR;clear hold
 all_goals
  have HOP:=ι (λW (hb:ψ w W)=>xXn (.slice A1 d.secs.length c1) (.slice A2 d.cache.length c2) d u xD W ((HRD.o.1.below hb ν).more hb.size) (by have:=HRD.o.2.1;omega) (HPS.o xD HPK.o) (HRD.o.2.2.2.1.se.sha.below hb ν));have HLO:=ι (yH0 d u xD)
  have HOX:Hid (xFt d u (rZ d u pw)=xFt d u xD):=ι (by rw[HPR.o]);rw[HPR.o] at HLE;generalize xFt d u xD=oi at HOP HLO HOX;generalize xPx d u xD=oe at HOP HLE;have hb:=(H6.o.1 jK wO).d;have hs:=H6.o.2.1;obtain⟨e0,e1⟩:=uQ hb;obtain⟨s0,s1,s2,s3,s4,s5,s6⟩:=xAr hs;clear hb hs
  go_wp2_with fail
  refine(HOP.o _ (H6.o.1 jK wO).bel).mono ?_;rintro e w6 ⟨bv,sv,rfl,ho,hb6⟩;obtain⟨A7,n7,k7,A8,n8,k8,rfl,rfl⟩:=ho.form;have H7:=ι (Ai (λso dd=>(H6.o.1 so dd).below hb6) (Ai (xC H6.o.2.1 hb6 (xH H6.o.2.1)) H6.o.2.2));have HO:=ι (ho.less (Bc _))
  clear hb6 ho HOP H6 e0 e1 s0 s1 s2 s3 s4 s5 s6
  have H8:Hid ((∀so dd,LgN w (.slice A1 d.secs.length c1) (.slice A2 d.cache.length c2) so dd false false (yE g 4 [.slice A7 n7 k7,.slice A8 n8 k8,.int .i64 oi.given] w6))/\(yE g 4 [.slice A7 n7 k7,.slice A8 n8 k8,.int .i64 oi.given] w6).heap[g]?=some (qE u xD old te (.slice A7 n7 k7) (.slice A8 n8 k8) oi.given)/\w.heap.size+3<=g/\wZ 0 (yE g 4 [.slice A7 n7 k7,.slice A8 n8 k8,.int .i64 oi.given] w6) (.slice A7 n7 k7) (.slice A8 n8 k8) oi):=ι ⟨λso dd=>(H7.o.1 so dd).far H7.o.2.2 _ _,by
   have e:=yD (yD (yD H7.o.2.1 4 (.slice A7 n7 k7)) 5 (.slice A8 n8 k8)) 6 (.int .i64 oi.given);simpa[yE] using e,H7.o.2.2,HO.o.set H7.o.2.1 δ δ δ _ 4⟩
  have hs:=H7.o.2.1;have o4:=xA hs 4;have o5:=xA hs 5;have o6:=xA hs 6;have y4:=xG hs 4;have y5:=xG hs 5;have y6:=xG hs 6;simp only[gA,gB,gC] at o4 o5 o6;clear hs H7 HO;go_upto_region 13 with fail
  obtain⟨w7,hw7⟩:=eX (yE g 4 [.slice A7 n7 k7,.slice A8 n8 k8,.int .i64 oi.given] w6);rw[hw7] at H8;simp only[yE,Nat.reduceAdd] at hw7;rw[hw7];clear hw7 o4 o5 o6 y4 y5 y6
  by_cases hoe:oe=0
  case neg=>
   have HBAD:=ι (HBA.o oe HLE.o hoe);have HW:=ι (H8.o.1 jK wO);clear H8 HLE HBA HLO HOX;go_upto_region 14 with fail
   have h1:=HW.o.o1;have h2:=HW.o.o2;rw[Ag σ] at h1 h2;have HP:=ι (LgN.yBc (LgN.rM HW.o (l:=[.string ⟨#[]⟩,.string ⟨#[]⟩,.string ⟨#[]⟩,.int .i64 0,.slice none 0 0,.slice none 0 0,.int .i64 0]) rfl rfl) (l:=[.slice none 0 0,.slice none 0 0]) rfl rfl)
   simp only[yE,Nat.reduceAdd] at HP;have H0:=HW;clear HW;have o0:=xA h1 0;have o1:=xA h1 1;have o2:=xA h1 2;have o3:=xA h1 3;have o4:=xA h1 4;have o5:=xA h1 5;have o6:=xA h1 6;have y0:=xG h1 0;have y1:=xG h1 1;have y2:=xG h1 2;have y3:=xG h1 3;have y4:=xG h1 4;have y5:=xG h1 5
   have y6:=xG h1 6;have q0:=xA h2 0;have q1:=xA h2 1;have z0:=xG h2 0;have z1:=xG h2 1;simp only[gA,gB,gC] at o0 o1 o2 o3 o4 o5 o6 q0 q1;clear h1 h2 H0;rw[show w.heap.size+1+1=w.heap.size+2 from rfl];go_wp2;have h1:=HP.o.o1;have h2:=HP.o.o2;rw[Ah rfl] at h1 h2
   obtain⟨f0,f1,f2,f3,f4,f5,f6⟩:=xAr h1;obtain⟨g0,g1⟩:=uQ h2;have HB:=ι HP.o.bel
   refine Ak (v:=.tuple #[.agg #[.string ⟨#[]⟩,.string ⟨#[]⟩,.string ⟨#[]⟩,.int .i64 0,.slice none 0 0,.slice none 0 0,.int .i64 0],.agg #[.slice none 0 0,.slice none 0 0],.int .i64 oe]) (by simp[results,results14,go_sem,f0,f1,f2,f3,f4,f5,f6,g0,g1]) rfl ?_
   rw[<-HPO.o];exact HBAD.o _ HB.o
  subst hoe;clear HBA;have HGX:Hid (lgX d u pw xB=yC6 d u xD old te oi xB):=ι (by unfold lgX;rw[Ah HLE.o,HOX.o,HPR.o,HOR.o,HAR.o]);have HGD:Hid (lgD d u pw xB=xV4 d u xD old te oi xB):=ι (by unfold lgD;rw[Ah HLE.o,HOX.o,HPR.o,HOR.o,HAR.o])
  have HMG:=ι (yC7 (.slice A1 d.secs.length c1) (.slice A2 d.cache.length c2) d u xD old xB te (.slice A7 n7 k7) (.slice A8 n8 k8) oi w7 ((HRD.o.1.below (H8.o.1 jK wO).bel ν).more (H8.o.1 jK wO).bel.size) H8.o.2.2.2 HLO.o HRD.o.2.1 (HPS.o xD HPK.o) HRD.o.2.2.2.2 HRD.o.2.2.1 (HRD.o.2.2.2.1.below (H8.o.1 jK wO).bel))
  unfold yEt at HMG;have HSEC:=ι (λh=>yKv (d:=d) (u:=u) (xD:=xD) (old:=old) (xB:=xB) (ep:=te) (x:=oi) h);have HND:Hid (xP0 d u xD old te oi xB=false->xV4 d u xD old te oi xB=d):=ι (λh=>by unfold xV4;rw[h];rfl)
  have HLM:Hid (lgM d u pw xB=xP0 d u xD old te oi xB):=ι (by unfold lgM;rw[HOX.o,HPR.o,HOR.o,HAR.o]);have HAE2:Hid ((wK d u).jB=te):=ι (by rw[HAR.o]);generalize yC6 d u xD old te oi xB=rx at HMG HGX;generalize xV4 d u xD old te oi xB=rd at HMG HGD HSEC HND
  generalize xP0 d u xD old te oi xB=ok at HMG HSEC HND HLM;have hb:=(H8.o.1 jK wO).d;have hs:=H8.o.2.1;obtain⟨e0,e1⟩:=uQ hb;obtain⟨s0,s1,s2,s3,s4,s5,s6⟩:=xAr hs;clear hb hs;go_upto_region 15 with fail
  go_wp2_with fail
  refine HMG.o.mono ?_;rintro e w8 ⟨bv',sv',va',vb',hok,rfl,hox,hrd,hb8⟩;obtain⟨A9,n9,k9,A10,n10,k10,rfl,rfl⟩:=hox.form;obtain⟨A11,k11,A12,k12,rfl,rfl⟩:=yC hrd;have HOK:=ι hok
  have H9:=ι (Ai (λso dd=>(H8.o.1 so dd).below hb8) (Ai (xC H8.o.2.1 hb8 (xH H8.o.2.1)) (Ai H8.o.2.2.1 (Ai hox hrd))));clear hb8 hok hox hrd HMG H8 e0 e1 s0 s1 s2 s3 s4 s5 s6
  have HD9:Hid ((yE g 0 [.string u,.string xD,.string old,.int .i64 te,.slice A9 n9 k9,.slice A10 n10 k10,.int .i64 rx.given] w8).heap[w.heap.size]?=some (yI (.slice A1 d.secs.length c1) (.slice A2 d.cache.length c2))):=ι (yH (by have:=H9.o.2.2.1;omega) _ 0 _ (H9.o.1 jK wO).d)
  have H10:Hid ((∀so dd,LgN w (.slice A11 rd.secs.length k11) (.slice A12 rd.cache.length k12) so dd false false (yE w.heap.size 0 [.slice A11 rd.secs.length k11,.slice A12 rd.cache.length k12] (yE g 0 [.string u,.string xD,.string old,.int .i64 te,.slice A9 n9 k9,.slice A10 n10 k10,.int .i64 rx.given] w8)))/\((yE w.heap.size 0 [.slice A11 rd.secs.length k11,.slice A12 rd.cache.length k12] (yE g 0 [.string u,.string xD,.string old,.int .i64 te,.slice A9 n9 k9,.slice A10 n10 k10,.int .i64 rx.given] w8))).heap[g]?=some (qE u xD old te (.slice A9 n9 k9) (.slice A10 n10 k10) rx.given)/\w.heap.size+3<=g/\wZ 0 (yE w.heap.size 0 [.slice A11 rd.secs.length k11,.slice A12 rd.cache.length k12] (yE g 0 [.string u,.string xD,.string old,.int .i64 te,.slice A9 n9 k9,.slice A10 n10 k10,.int .i64 rx.given] w8)) (.slice A9 n9 k9) (.slice A10 n10 k10) rx/\((∀s∈rd.secs,s≠[])->RdD (yE w.heap.size 0 [.slice A11 rd.secs.length k11,.slice A12 rd.cache.length k12] (yE g 0 [.string u,.string xD,.string old,.int .i64 te,.slice A9 n9 k9,.slice A10 n10 k10,.int .i64 rx.given] w8)) ((yE w.heap.size 0 [.slice A11 rd.secs.length k11,.slice A12 rd.cache.length k12] (yE g 0 [.string u,.string xD,.string old,.int .i64 te,.slice A9 n9 k9,.slice A10 n10 k10,.int .i64 rx.given] w8))).heap.size (.slice A11 rd.secs.length k11) (.slice A12 rd.cache.length k12) rd)):=ι ⟨λso dd=>((H9.o.1 so dd).far H9.o.2.2.1 _ _).newd,by
   refine yH (by have:=H9.o.2.2.1;omega) _ 0 _ ?_;exact vC H9.o.2.1 rfl,H9.o.2.2.1,(H9.o.2.2.2.1.set H9.o.2.1 δ δ δ _ 0).set HD9.o δ δ δ _ 0,λhs=>by
   have r1:=(xCb H9.o.2.2.2.2 hs (yEh H9.o.2.1 (.slice A9 n9 k9) (.slice A10 n10 k10) (.int .i64 rx.given)) (xI7 H9.o.2.1)).more (xIi g 0 [.string u,.string xD,.string old,.int .i64 te,.slice A9 n9 k9,.slice A10 n10 k10,.int .i64 rx.given] w8)
   exact(xCb r1 hs (yI2 HD9.o [.slice A11 rd.secs.length k11,.slice A12 rd.cache.length k12]) (yGm HD9.o)).more (xIi _ _ _ _)⟩
  have hs:=H9.o.2.1;have hd:=(H9.o.1 jK wO).d;have o0:=xA hs 0;have o1:=xA hs 1;have o2:=xA hs 2;have o3:=xA hs 3;have o4:=xA hs 4;have o5:=xA hs 5;have o6:=xA hs 6;have q0:=xA hd 0;have q1:=xA hd 1;have y0:=xG hs 0;have y1:=xG hs 1;have y2:=xG hs 2;have y3:=xG hs 3
  have y4:=xG hs 4;have y5:=xG hs 5;have y6:=xG hs 6;have z0:=xG hd 0;have z1:=xG hd 1;simp only[gA,gB,gC] at o0 o1 o2 o3 o4 o5 o6 q0 q1;have hne:¬(w.heap.size=g):=by have:=H9.o.2.2.1;omega
  have hne2:¬(g=w.heap.size):=ω;clear hs hd H9 HD9;go_upto_region 16 with fail
  obtain⟨w9,hw9⟩:=eX ((yE w.heap.size 0 [.slice A11 rd.secs.length k11,.slice A12 rd.cache.length k12] (yE g 0 [.string u,.string xD,.string old,.int .i64 te,.slice A9 n9 k9,.slice A10 n10 k10,.int .i64 rx.given] w8)));rw[hw9] at H10;simp only[yE,Nat.reduceAdd] at hw9
  rw[hw9];clear hw9 o0 o1 o2 o3 o4 o5 o6 y0 y1 y2 y3 y4 y5 y6 q0 q1 z0 z1 hne hne2
  refine RG.vL [2,3] (λL W=>Hid (LgN w (.slice A11 rd.secs.length k11) (.slice A12 rd.cache.length k12) (qE u xD old te (.slice A9 n9 k9) (.slice A10 n10 k10) rx.given) (yI (.slice A11 rd.secs.length k11) (.slice A12 rd.cache.length k12)) (L 2) (L 3) W/\W.heap[g]?=some (qE u xD old te (.slice A9 n9 k9) (.slice A10 n10 k10) rx.given)/\wZ 0 W (.slice A9 n9 k9) (.slice A10 n10 k10) rx/\((∀s∈rd.secs,s≠[])->RdD W W.heap.size (.slice A11 rd.secs.length k11) (.slice A12 rd.cache.length k12) rd))) (λL L' W hl h=>by rw[<-hl 2 σ,<-hl 3 σ];exact h) κ κ κ (ι ⟨(H10.o.1 _ _).drew,H10.o.2.1,H10.o.2.2.2.1.below (Aq _ _).drew,λhs=>(H10.o.2.2.2.2 hs).below (Aq _ _).drew ν⟩) ?_
  refine RG.lF (λL w9 hw9=>xAr hw9.o.2.1) ?_;refine RG.lF (λL w9 hw9=>uQ hw9.o.1.d) ?_;apply RG.uV
  ·rfl
  ·intro L w9 h0 _ hw9;obtain⟨h9,h10,h11,h12⟩:=hw9.o;rw[h0] at h9;have hx:=h9.o1;rw[Ag σ] at hx;have hgg:=H10.o.2.2.1
   have HP:=ι (Ai (LgN.rM h9 (l:=[.string u,.string xD,.string old,.int .i64 te,.slice A9 n9 k9,.slice A10 n10 k10,.int .i64 rx.given]) rfl rfl) (Ai (yH (b:=w.heap.size+1) (g:=g) ω [.string u,.string xD,.string old,.int .i64 te,.slice A9 n9 k9,.slice A10 n10 k10,.int .i64 rx.given] 0 w9 h10) (Ai (h11.set hx δ δ δ [.string u,.string xD,.string old,.int .i64 te,.slice A9 n9 k9,.slice A10 n10 k10,.int .i64 rx.given] 0) (λhs=>(xCb (h12 hs) hs (xRc hx [.string u,.string xD,.string old,.int .i64 te,.slice A9 n9 k9,.slice A10 n10 k10,.int .i64 rx.given]) (xI7 hx)).more (xIi (w.heap.size+1) 0 [.string u,.string xD,.string old,.int .i64 te,.slice A9 n9 k9,.slice A10 n10 k10,.int .i64 rx.given] w9)))))
   simp only[yE,Nat.reduceAdd] at HP;obtain⟨o0,y0,f0,o1,y1,f1,o2,y2,f2,o3,y3,f3,o4,y4,f4,o5,y5,f5,o6,y6,f6,HB⟩:=cpl7 hx h9.bel ω (.string u) (.string xD) (.string old) (.int .i64 te) (.slice A9 n9 k9) (.slice A10 n10 k10) (.int .i64 rx.given) _ rfl;clear hx h9 hw9 h10 h11 h12
   repeat go_step
   refine RG.xE ?_;exact HP
  ·rfl
  apply RG.uV
  ·rfl
  ·intro L w9 h0 _ hw9;obtain⟨h9,h10,h11,h12⟩:=hw9.o;rw[h0] at h9;have hx:=h9.o2;rw[Ag σ] at hx;have hgg:=H10.o.2.2.1
   have HP:=ι (Ai (LgN.yBc h9 (l:=[.slice A11 rd.secs.length k11,.slice A12 rd.cache.length k12]) rfl rfl) (Ai (yH (b:=w.heap.size+2) (g:=g) ω [.slice A11 rd.secs.length k11,.slice A12 rd.cache.length k12] 0 w9 h10) (Ai (h11.set hx δ δ δ [.slice A11 rd.secs.length k11,.slice A12 rd.cache.length k12] 0) (λhs=>(xCb (h12 hs) hs (xRd hx [.slice A11 rd.secs.length k11,.slice A12 rd.cache.length k12]) (xQ0 hx)).more (xIi (w.heap.size+2) 0 [.slice A11 rd.secs.length k11,.slice A12 rd.cache.length k12] w9)))))
   simp only[yE,Nat.reduceAdd] at HP;obtain⟨o0,y0,f0,o1,y1,f1,HB⟩:=xMk hx h9.bel ω (.slice A11 rd.secs.length k11) (.slice A12 rd.cache.length k12) _ rfl;clear hx h9 hw9 h10 h11 h12;repeat go_step
   refine RG.xE ?_;exact HP
  ·rfl
  refine RG.lS ?_;refine RG.yY (λw10 yCx=>?_);have HP:=ι yCx.o.1;have HO:=ι yCx.o.2.2;clear yCx H10;have h1:=HP.o.o1;have h2:=HP.o.o2;rw[Ah rfl] at h1 h2;obtain⟨f0,f1,f2,f3,f4,f5,f6⟩:=xAr h1;obtain⟨g0,g1⟩:=uQ h2;have HB:=ι HP.o.bel;clear h1 h2 HP;go_wp2
  refine Ak (v:=.tuple #[xXa u xD old te (.slice A9 n9 k9) (.slice A10 n10 k10) rx.given,.agg #[.slice A11 rd.secs.length k11,.slice A12 rd.cache.length k12],.int .i64 0]) (by simp[results,results14,go_sem,f0,f1,f2,f3,f4,f5,f6,g0,g1]) rfl ?_;rw[<-HPO.o]
  refine⟨_,_,_,_,_,_,_,_,by rw[HGX.o,HLE.o],λ_=>⟨rfl,HPR.o.symm,HOR.o.symm,HAE2.o.symm⟩,λ_ hm=>HOK.o (HLM.o.symm.trans hm),by rw[HGX.o];exact HO.o.1,?_,HB.o⟩;rw[HGD.o];cases hk:ok with
  |true=>exact HO.o.2 (HSEC.o hk)
  |false=>
   obtain⟨e1,e2⟩:=HOK.o hk;rw[HND.o hk] at e1 e2⊢;rw[e1,e2];exact(HRD.o.1.below HB.o ν).more HB.o.size
end Go.Proofs.VA
namespace Mailsack
def dlN (d:Dk) (u:ByteArray):List Int:=wM d [109] u.data.toList
def dlE (d:Dk) (u once text:ByteArray):Int:=
 if xC3 d u≠0 then xC3 d u else if 30<=(dlN d u).length then 9 else xP4 (wK d u).pub once text
def dlM (d:Dk) (u:ByteArray):Int:=if (dlN d u).length=0 then 1 else(dlN d u).getD ((dlN d u).length-1) 0+1
def dlC (d:Dk) (u once text:ByteArray):List Ch:=[⟨xJk [109] u.data.toList (dlM d u),oct (wK d u).jB::(xKr (wK d u).pub once text).data.toList,false⟩,⟨xJk [113] u.data.toList (dlM d u),[],false⟩]
def dlL (d:Dk) (u once text:ByteArray):List Ch:=if dlE d u once text=0 then dlC d u once text else[]
def dlR (d:Dk) (u once text:ByteArray):Int:=if dlE d u once text=0 then dlM d u else 0
theorem yEd (pub once s:ByteArray):(xKr pub once s).size<=100000:=by
 unfold xKr;split
 ·rename_i h
  unfold xP4 at h;split at h
  ·cases h
  ·split at h
   ·cases h
   ·rename_i h2
    obtain⟨c,hc,_,h3,_⟩:=xDq (n:=s.size) ω;unfold xTw;rw[Aw,kH,xBt ω,hc];have:(xV once).size=32:=wC _ _;rw[this];omega
 ·decide
theorem yDv (d:Dk) (u:ByteArray):0<=dlM d u/\dlM d u<=4294967296:=by
 unfold dlM;split
 ·decide
 ·rename_i h
  have hm:(dlN d u).getD ((dlN d u).length-1) 0∈wM d [109] u.data.toList:=by
   rw[Aa,Af (show(dlN d u).length-1<(dlN d u).length by omega)];exact List.getElem_mem _
  have:=xM2 hm;omega
end Mailsack
namespace Go.Proofs.VA
open Go.RowKit Mailsack MM BB SH SV RK DS IX Go.Proofs.ST Go.Proofs.SE
def xRn (d:Dk) (u once text:ByteArray) (w:World) (e:Ending) (w':World):Prop:=
 ∃v,e=.returned (.tuple #[v,.int .i64 (dlR d u once text),.int .i64 (dlE d u once text)])/\RdR 3 chF w' w'.heap.size v (dlL d u once text)/\ψ w w'
theorem xRn.bad {d:Dk} {u once text:ByteArray} {w w':World} {er:Int} (he:dlE d u once text=er) (hn:er≠0) (hb:ψ w w'):xRn d u once text w (.returned (.tuple #[.slice none 0 0,.int .i64 0,.int .i64 er])) w':=by
 have h1:dlL d u once text=[]:=by unfold dlL;rw[he,Ag hn]
 have h2:dlR d u once text=0:=by unfold dlR;rw[he,Ag hn]
 exact⟨_,by rw[h2,he],by rw[h1];exact⟨none,0,rfl,Bd _,λh=>absurd h δ⟩,hb⟩
theorem xQy (va vb:Value) (d:Dk) (u once text:ByteArray) (w:World) (h:RdD w w.heap.size va vb d) (hu:u.size<=1000) (hT:VaT w):
  Calls prog 7 #[.agg #[va,vb],.string u,.string once,.string text] w (xRn d u once text w):=by
 obtain⟨A1,c1,A2,c2,rfl,rfl⟩:=yC h;have hal:=φ w (yI (.slice A1 d.secs.length c1) (.slice A2 d.cache.length c2));have H0:=ι (Ai (xJ w (yI (.slice A1 d.secs.length c1) (.slice A2 d.cache.length c2))) hal)
 have HAC:=ι (λW (hb:ψ w W)=>xF9 (.slice A1 d.secs.length c1) (.slice A2 d.cache.length c2) d u W ((h.below hb ν).more hb.size) ω);have HNB:=ι (λW (hb:ψ w W)=>xEy (.slice A1 d.secs.length c1) (.slice A2 d.cache.length c2) d ⟨#[109]⟩ u W ((h.below hb ν).more hb.size) δ ω)
 have HND:Hid (wM d [109] u.data.toList=dlN d u):=ι rfl;rw[show(⟨#[109]⟩:ByteArray).data.toList=[109] from rfl,HND.o] at HNB;have HBX:=ι (λW (hb:ψ w W)=>yM7 (wK d u).pub once text W (hT.below hb).se)
 have HNU:=ι (λ(k:ByteArray) W n (hk:k.size<=100) (hb:ψ w W) (hn:0<=n/\n<=4294967296)=>xD3 k u n W hk ω ω (hT.below hb));have HLE:Hid (dlE d u once text=if xC3 d u≠0 then xC3 d u else if 30<=(dlN d u).length then 9 else xP4 (wK d u).pub once text):=ι rfl;have HMB:=ι (yDv d u)
 have HBA:=ι (λer (he:dlE d u once text=er) hn w' hb=>xRn.bad (w:=w) (w':=w') he hn hb);have HDM:Hid (dlM d u=if (dlN d u).length=0 then 1 else(dlN d u).getD ((dlN d u).length-1) 0+1):=ι rfl
 have HDR:Hid (dlE d u once text=0->dlR d u once text=dlM d u/\dlL d u once text=[⟨xJk [109] u.data.toList (dlM d u),oct (wK d u).jB::(xKr (wK d u).pub once text).data.toList,false⟩,⟨xJk [113] u.data.toList (dlM d u),[],false⟩]):=ι (λh=>⟨by unfold dlR;rw[Ah h],by unfold dlL;rw[Ah h];rfl⟩)
 obtain⟨PO,hPO⟩:=eX (xRn d u once text w);rw[hPO];have HPO:=ι hPO;clear h hu hT hPO hal HND;generalize xC3 d u=ae at HAC HLE;generalize wK d u=ar at HAC HBX HLE HDR;generalize dlN d u=N at HNB HLE HDM;generalize dlM d u=nm at HMB HDM HDR
 obtain⟨tu,ts,tr,te,tp,tn,tw,to_⟩:=ar;simp only[xB1] at HAC HBX HLE HDR;generalize xP4 tp once text=be at HBX HLE;have HBS:=ι (yEd tp once text);generalize xKr tp once text=bt at HBX HDR HBS;go_enter func7,ntmps7;go_upto_region 1 with fail
 obtain⟨w1,hw1⟩:=eX (w.alloc (yI (.slice A1 d.secs.length c1) (.slice A2 d.cache.length c2)));rw[hw1] at H0;simp only[yI] at hw1;rw[hw1];clear hw1;have hb:=H0.o.1;obtain⟨e0,e1⟩:=uQ hb;clear hb;go_wp2_with fail
 refine cM (HAC.o _ H0.o.2) λw2 hb2=>?_;have hal:=φ w2 (yV ⟨tu,ts,tr,te,tp,tn,tw,to_⟩);have hb3:=bT hb2 hal
 have H3:=ι (Ai (xC H0.o.1 hb3 (xH H0.o.1)) (Ai (xJ w2 (yV ⟨tu,ts,tr,te,tp,tn,tw,to_⟩)) (bT H0.o.2 hb3)));clear H0 HAC hb2 hb3 hal e0 e1;go_upto_region 2 with fail
 obtain⟨w3,hw3⟩:=eX (w2.alloc (yV ⟨tu,ts,tr,te,tp,tn,tw,to_⟩));rw[hw3] at H3;simp only[yV] at hw3 H3;rw[hw3];clear hw3;generalize w2.heap.size=g2 at H3⊢
 by_cases hae:ae=0
 case neg=>
  have HBAD:=ι (HBA.o ae (by rw[HLE.o,Ah hae]) hae w3 H3.o.2.2);clear H3 HLE HBA HNB HBX;go_wp2;refine Ak (v:=.tuple #[.slice none 0 0,.int .i64 0,.int .i64 ae]) (by simp[results,results7,go_sem]) rfl ?_;rw[<-HPO.o];exact HBAD.o
 subst hae;rw[Ag σ] at HLE;have hb:=H3.o.1;obtain⟨e0,e1⟩:=uQ hb;clear hb;go_upto_region 4 with fail
 go_wp2_with fail
 refine(HNB.o _ H3.o.2.2).mono ?_;rintro e w4 ⟨v,rfl,hr,hb4⟩;have HR:=ι hr;obtain⟨A5,k5,rfl,_,hcl⟩:=hr;have HCL:=ι hcl;have H4:=ι (Ai (xC H3.o.2.1 hb4 (xH H3.o.2.1)) (bT H3.o.2.2 hb4));clear hcl hb4 H3 HNB e0 e1
 by_cases h30:30<=N.length
 ·have HBAD:=ι (HBA.o 9 (by rw[HLE.o,Ah h30]) δ w4 H4.o.2);clear HLE HBA HBX H4 HR HCL;go_wp2;refine Ak (v:=.tuple #[.slice none 0 0,.int .i64 0,.int .i64 9]) (by simp[results,results7,go_sem]) rfl ?_;rw[<-HPO.o];exact HBAD.o
 rw[Ag h30] at HLE;have hb:=H4.o.1;obtain⟨a0,a1,a2,a3,a4,a5,a6,a7⟩:=xYs hb;clear hb;go_upto_region 7 with fail
 go_wp2_with fail
 refine cM (HBX.o _ H4.o.2) λw5 hb5=>?_;have H5:=ι (Ai (xC H4.o.1 hb5 (xH H4.o.1)) (Ai (bT H4.o.2 hb5) hb5));clear hb5 H4 HBX a0 a1 a2 a3 a4 a5 a6 a7
 by_cases hbe:be=0
 case neg=>
  have HBAD:=ι (HBA.o be HLE.o hbe w5 H5.o.2.1);clear HLE HBA HR HCL H5;go_wp2;refine Ak (v:=.tuple #[.slice none 0 0,.int .i64 0,.int .i64 be]) (by simp[results,results7,go_sem]) rfl ?_;rw[<-HPO.o];exact HBAD.o
 subst hbe;obtain⟨hr1,hr2⟩:=HDR.o HLE.o;have HR1:=ι hr1;have HR2:=ι hr2;clear hr1 hr2 HDR HBA;have HB5:=ι H5.o.2.2
 by_cases h0:N.length=0
 ·rw[Ah h0] at HDM;rw[h0];go_upto_region 13 with fail
  rw[show(Value.int .i64 1)=Value.int .i64 nm from by rw[HDM.o]];generalize hn1:xJk [109] u.data.toList nm=n1 at HR2;generalize hn2:xJk [113] u.data.toList nm=n2 at HR2;have HN1:=ι hn1;have HN2:=ι hn2;clear hn1 hn2;have HU1:=ι (λW (hb:ψ w W)=>HNU.o ⟨#[109]⟩ W nm δ hb HMB.o)
  have HU2:=ι (λW (hb:ψ w W)=>HNU.o ⟨#[113]⟩ W nm δ hb HMB.o);rw[show(⟨#[109]⟩:ByteArray).data.toList=[109] from rfl,HN1.o] at HU1;rw[show(⟨#[113]⟩:ByteArray).data.toList=[113] from rfl,HN2.o] at HU2;have HEP:=ι (λW=>xQu te W)
  rw[show xR [oct te]=.string ⟨#[oct te]⟩ from rfl] at HEP;have b1:¬(9223372036854775807<(⟨#[oct te]⟩:ByteArray).size+bt.size):=by have:=HBS.o;show ¬(_<1+bt.size);omega
  have b2:¬(9223372036854775807<1+bt.size):=by have:=HBS.o;omega
  have HCH:Hid (chF ⟨n1,oct te::bt.data.toList,false⟩=[xR n1,.string (⟨#[oct te]⟩++bt),.bool false]):=ι (by
   show[xR n1,xR (oct te::bt.data.toList),Value.bool false]=_
   congr 2)
  generalize hcl:([⟨n1,oct te::bt.data.toList,false⟩,⟨n2,[],false⟩]:List Ch)=C at HR2;have HC:=ι hcl;clear hcl;have HWB:=ι H5.o.2.1
  have HOW:Hid (∀W:World,xW 63 3 chF (W.alloc (.cells #[xR n1,.string (⟨#[oct te]⟩++bt),.bool false,xR n2,.string ⟨#[]⟩,.bool false] 63)) W.heap.size (.slice (some (θ W.heap.size 0)) 2 2) C):=ι (λW=>by
   rw[<-HC.o];refine⟨rfl,.inr ⟨W.heap.size,2,_,rfl,Bd _,xJ _ _,Bd _,by unfold maxLen;omega,rfl,?_⟩⟩;rw[Cz,HCH.o]
   rfl)
  refine RG.vE [15] [13] (λL α W=>Hid (ψ w5 W/\(L 13=true->∃g,α 13=.slice (some (θ g 0)) 2 2/\xW 63 3 chF W w5.heap.size (.slice (some (θ g 0)) 2 2) C))) (λL L' α α' W hl ha h=>ι ⟨h.o.1,λe=>by
   have l13:=hl 13 σ;obtain⟨g,q1,q2⟩:=h.o.2 (l13.trans e);exact⟨g,by rw[<-ha 13 σ (l13.trans e)];exact q1,q2⟩⟩) κ κ κ (ι ⟨(Aq _ _).drew,λe=>(by cases e)⟩) ?_
  iterate 2 refine RG.vS ?_
  apply RG.zR
  ·rfl
  ·rfl
  ·intro α L w9 h0 hcl xQ hw9;repeat go_step
   refine cM (HU1.o w9 (HWB.o.trans (hw9.o.1.mono HWB.o.size))) λw10 hb=>?_;simp only[];repeat go_step
   refine RG.xE ?_
   exact ι ⟨bT hw9.o.1 hb,λe=>by
    obtain⟨g,q1,q2⟩:=hw9.o.2 e;exact⟨g,q1,q2.below hb⟩⟩
  ·intro α;rfl
  refine RG.vS ?_;apply RG.zR
  ·rfl
  ·rfl
  ·intro α L w9 h0 hcl xQ hw9;have hb:=xC H5.o.1 hw9.o.1 (xH H5.o.1);have a3:=xA hb 3;simp only[gA,gB,gC] at a3;clear hb;repeat go_step
   exact RG.xE hw9
  ·intro α;rfl
  apply RG.zR
  ·rfl
  ·rfl
  ·intro α L w9 h0 hcl xQ hw9;repeat go_step
   refine cM (HEP.o w9) λw10 hb=>?_;simp only[];repeat go_step
   refine RG.xE ?_
   exact ι ⟨bT hw9.o.1 hb,λe=>by
    obtain⟨g,q1,q2⟩:=hw9.o.2 e;exact⟨g,q1,q2.below hb⟩⟩
  ·intro α;rfl
  iterate 5 refine RG.vS ?_
  apply RG.zR
  ·rfl
  ·rfl
  ·intro α L w9 h0 hcl xQ hw9;repeat go_step
   refine cM (HU2.o w9 (HWB.o.trans (hw9.o.1.mono HWB.o.size))) λw10 hb=>?_;simp only[];repeat go_step
   refine RG.xE ?_
   exact ι ⟨bT hw9.o.1 hb,λe=>by
    obtain⟨g,q1,q2⟩:=hw9.o.2 e;exact⟨g,q1,q2.below hb⟩⟩
  ·intro α;rfl
  refine RG.vS ?_;apply RG.qP
  ·rfl
  ·intro α L w9 h0 hcl xQ hw9;have HAL:=ι (φ w9 (.cells #[xR n1,.string (⟨#[oct te]⟩++bt),.bool false,xR n2,.string ⟨#[]⟩,.bool false] 63));have HO9:=ι (HOW.o w9);refine⟨.slice (some (θ w9.heap.size 0)) 2 2,λbv hbv=>?_⟩;repeat go_step
   rw[<-hbv];refine RG.xE ?_;exact ι ⟨hw9.o.1.trans (HAL.o.mono hw9.o.1.size),λ_=>⟨w9.heap.size,(RG.zL _ _ _).trans hbv,HO9.o.less hw9.o.1.size⟩⟩
  ·intro b α;rfl
  refine RG.vS ?_;apply RG.xDv (v:=λα=>α 13)
  ·rfl
  ·kernel_rfl
  ·rfl
  ·intro α L w9 h0 hcl xQ hw9;repeat go_step
   refine RG.xE ?_;exact ι ⟨hw9.o.1,λe=>hw9.o.2 (by simpa using e)⟩
  ·intro α;rfl
  iterate 2 refine RG.vS ?_
  refine RG.xA6 (λα w6 hw6=>?_);obtain⟨g,q1,q2⟩:=hw6.o.2 rfl;have H6:=ι (Ai (q2.rd xH5) (HWB.o.trans (hw6.o.1.mono HWB.o.size)));simp only[Ay,Nat.reduceAdd];rw[show α 13=_ from q1];clear q1 q2 hw6;go_wp2
  refine Ak (v:=.tuple #[.slice (some (θ g 0)) 2 2,.int .i64 nm,.int .i64 0]) (by simp[results,results7,go_sem]) rfl ?_;rw[<-HPO.o];exact⟨_,by rw[HR1.o,HLE.o],by rw[HR2.o];exact H6.o.1,H6.o.2⟩
 ·rw[Ag h0] at HDM;obtain⟨b,off,rfl,hbw,hcs⟩:=HCL.o ω;obtain⟨z,hz⟩:∃z,N[N.length-1]?=some z:=⟨_,Af ω⟩;have hzg:N.getD (N.length-1) 0=z:=by rw[Aa,hz];rfl
  rw[hzg] at HDM;have q:=(H5.o.2.2.cell (p:=(θ b (off+(N.length-1)))) hbw).trans (by have:=hcs (N.length-1) z hz 0 (.int .i64 z) rfl;simpa using this);have HNM:=ι HMB.o;have hm1:1<=N.length:=ω;have hm30:N.length<30:=ω
  have hz0:0<=z+1/\z+1<=4294967296:=by have:=HMB.o;rw[HDM.o] at this;exact this
  clear hcs hzg hz h0 HCL HR h30 hbw;generalize N.length=M at q hm1 hm30⊢;obtain⟨m,rfl⟩:∃m,M=m+1:=⟨M-1,ω⟩;rw[Nat.add_sub_cancel] at q;have hw1:((m+1:Nat):Int)-1=(m:Int):=ω;have hz1:=hz0.1;have hz2:=hz0.2;clear hz0;go_upto_region 12 with fail
  go_upto_region 13 with fail
  rw[show(Value.int .i64 (z+1))=Value.int .i64 nm from by rw[HDM.o]];clear q hm1 hm30 hw1 hz1 hz2 HNM;generalize hn1:xJk [109] u.data.toList nm=n1 at HR2;generalize hn2:xJk [113] u.data.toList nm=n2 at HR2;have HN1:=ι hn1;have HN2:=ι hn2;clear hn1 hn2
  have HU1:=ι (λW (hb:ψ w W)=>HNU.o ⟨#[109]⟩ W nm δ hb HMB.o);have HU2:=ι (λW (hb:ψ w W)=>HNU.o ⟨#[113]⟩ W nm δ hb HMB.o);rw[show(⟨#[109]⟩:ByteArray).data.toList=[109] from rfl,HN1.o] at HU1;rw[show(⟨#[113]⟩:ByteArray).data.toList=[113] from rfl,HN2.o] at HU2
  have HEP:=ι (λW=>xQu te W);rw[show xR [oct te]=.string ⟨#[oct te]⟩ from rfl] at HEP;have b1:¬(9223372036854775807<(⟨#[oct te]⟩:ByteArray).size+bt.size):=by have:=HBS.o;show ¬(_<1+bt.size);omega
  have b2:¬(9223372036854775807<1+bt.size):=by have:=HBS.o;omega
  have HCH:Hid (chF ⟨n1,oct te::bt.data.toList,false⟩=[xR n1,.string (⟨#[oct te]⟩++bt),.bool false]):=ι (by
   show[xR n1,xR (oct te::bt.data.toList),Value.bool false]=_
   congr 2)
  generalize hcl:([⟨n1,oct te::bt.data.toList,false⟩,⟨n2,[],false⟩]:List Ch)=C at HR2;have HC:=ι hcl;clear hcl;have HWB:=ι H5.o.2.1
  have HOW:Hid (∀W:World,xW 63 3 chF (W.alloc (.cells #[xR n1,.string (⟨#[oct te]⟩++bt),.bool false,xR n2,.string ⟨#[]⟩,.bool false] 63)) W.heap.size (.slice (some (θ W.heap.size 0)) 2 2) C):=ι (λW=>by
   rw[<-HC.o];refine⟨rfl,.inr ⟨W.heap.size,2,_,rfl,Bd _,xJ _ _,Bd _,by unfold maxLen;omega,rfl,?_⟩⟩;rw[Cz,HCH.o]
   rfl)
  refine RG.vE [15] [13] (λL α W=>Hid (ψ w5 W/\(L 13=true->∃g,α 13=.slice (some (θ g 0)) 2 2/\xW 63 3 chF W w5.heap.size (.slice (some (θ g 0)) 2 2) C))) (λL L' α α' W hl ha h=>ι ⟨h.o.1,λe=>by
   have l13:=hl 13 σ;obtain⟨g,q1,q2⟩:=h.o.2 (l13.trans e);exact⟨g,by rw[<-ha 13 σ (l13.trans e)];exact q1,q2⟩⟩) κ κ κ (ι ⟨(Aq _ _).drew,λe=>(by cases e)⟩) ?_
  iterate 2 refine RG.vS ?_
  apply RG.zR
  ·rfl
  ·rfl
  ·intro α L w9 h0 hcl xQ hw9;repeat go_step
   refine cM (HU1.o w9 (HWB.o.trans (hw9.o.1.mono HWB.o.size))) λw10 hb=>?_;simp only[];repeat go_step
   refine RG.xE ?_
   exact ι ⟨bT hw9.o.1 hb,λe=>by
    obtain⟨g,q1,q2⟩:=hw9.o.2 e;exact⟨g,q1,q2.below hb⟩⟩
  ·intro α;rfl
  refine RG.vS ?_;apply RG.zR
  ·rfl
  ·rfl
  ·intro α L w9 h0 hcl xQ hw9;have hb:=xC H5.o.1 hw9.o.1 (xH H5.o.1);have a3:=xA hb 3;simp only[gA,gB,gC] at a3;clear hb;repeat go_step
   exact RG.xE hw9
  ·intro α;rfl
  apply RG.zR
  ·rfl
  ·rfl
  ·intro α L w9 h0 hcl xQ hw9;repeat go_step
   refine cM (HEP.o w9) λw10 hb=>?_;simp only[];repeat go_step
   refine RG.xE ?_
   exact ι ⟨bT hw9.o.1 hb,λe=>by
    obtain⟨g,q1,q2⟩:=hw9.o.2 e;exact⟨g,q1,q2.below hb⟩⟩
  ·intro α;rfl
  iterate 5 refine RG.vS ?_
  apply RG.zR
  ·rfl
  ·rfl
  ·intro α L w9 h0 hcl xQ hw9;repeat go_step
   refine cM (HU2.o w9 (HWB.o.trans (hw9.o.1.mono HWB.o.size))) λw10 hb=>?_;simp only[];repeat go_step
   refine RG.xE ?_
   exact ι ⟨bT hw9.o.1 hb,λe=>by
    obtain⟨g,q1,q2⟩:=hw9.o.2 e;exact⟨g,q1,q2.below hb⟩⟩
  ·intro α;rfl
  refine RG.vS ?_;apply RG.qP
  ·rfl
  ·intro α L w9 h0 hcl xQ hw9;have HAL:=ι (φ w9 (.cells #[xR n1,.string (⟨#[oct te]⟩++bt),.bool false,xR n2,.string ⟨#[]⟩,.bool false] 63));have HO9:=ι (HOW.o w9);refine⟨.slice (some (θ w9.heap.size 0)) 2 2,λbv hbv=>?_⟩;repeat go_step
   rw[<-hbv];refine RG.xE ?_;exact ι ⟨hw9.o.1.trans (HAL.o.mono hw9.o.1.size),λ_=>⟨w9.heap.size,(RG.zL _ _ _).trans hbv,HO9.o.less hw9.o.1.size⟩⟩
  ·intro b α;rfl
  refine RG.vS ?_;apply RG.xDv (v:=λα=>α 13)
  ·rfl
  ·kernel_rfl
  ·rfl
  ·intro α L w9 h0 hcl xQ hw9;repeat go_step
   refine RG.xE ?_;exact ι ⟨hw9.o.1,λe=>hw9.o.2 (by simpa using e)⟩
  ·intro α;rfl
  iterate 2 refine RG.vS ?_
  refine RG.xA6 (λα w6 hw6=>?_);obtain⟨g,q1,q2⟩:=hw6.o.2 rfl;have H6:=ι (Ai (q2.rd xH5) (HWB.o.trans (hw6.o.1.mono HWB.o.size)));simp only[Ay,Nat.reduceAdd];rw[show α 13=_ from q1];clear q1 q2 hw6;go_wp2
  refine Ak (v:=.tuple #[.slice (some (θ g 0)) 2 2,.int .i64 nm,.int .i64 0]) (by simp[results,results7,go_sem]) rfl ?_;rw[<-HPO.o];exact⟨_,by rw[HR1.o,HLE.o],by rw[HR2.o];exact H6.o.1,H6.o.2⟩
end Go.Proofs.VA
namespace Mailsack
open Go.Proofs.VA Go.Proofs.SH
def alU:ByteArray:=⟨#[97,108]⟩
def nmA (k:UInt8) (i:Nat):Bs:=xJk [k] alB (i:Int)
theorem xUw (k:UInt8) {i:Nat} (h9:i<=9):nmA k i=[k,47,97,108,47,UInt8.ofNat (48+i)]:=by
 have h:∀j:Fin 10,Go.Lib.itoa ((j:Nat):Int)=[UInt8.ofNat (48+j)]:=by decide +kernel
 unfold nmA xJk;rw[h ⟨i,ω⟩]
 rfl
theorem xGu {k k':UInt8} {i j:Nat} (hi:i<=9) (hj:j<=9):nmA k i=nmA k' j↔(k=k'/\i=j):=by
 rw[xUw k hi,xUw k' hj]
 constructor
 ·intro h;simp only[List.cons.injEq,true_and,and_true] at h;refine⟨h.1,?_⟩;have:=Ap UInt8.toNat h.2
  rw[UInt8.toNat_ofNat_of_lt' (show 48+i<UInt8.size by have:UInt8.size=256:=rfl;omega),UInt8.toNat_ofNat_of_lt' (show 48+j<UInt8.size by have:UInt8.size=256:=rfl;omega)] at this;omega
 ·rintro⟨rfl,rfl⟩;rfl
theorem xD4 {k k':UInt8} {i:Nat} (hi:i<=9):nmA k i≠vD [k'] alB:=by
 rw[xUw k hi];intro h;have:=Ap List.length h;simp[vD,slash,alB] at this
def nmL (k q:Nat):List Bs:=(List.range' 1 k).map (nmA 109)++(List.range' 1 q).map (nmA 113)++[vD [117] alB,vD [120] alB]
def xRs (k:Nat):List Int:=(List.range' 1 k).map λ(i:Nat)=>(i:Int)
theorem xXt:∀k q:Fin 7,(nmL k q).Pairwise (·<·):=by decide +kernel
theorem yGi:∀k q:Fin 7,(nmL k q).flatMap (numberOf (xHm [109] alB))=xRs k/\(nmL k q).flatMap (numberOf (xHm [113] alB))=xRs q:=by decide +kernel
theorem xJi:∀k:Fin 7,(xRs k).Pairwise (·<=·):=by decide +kernel
theorem xUj {l:List Int} (h:l.Pairwise (·<=·)):xEu l=l:=by
 unfold xEu;refine List.Perm.eq_of_pairwise (le:=λx y=>decide (x<=y)=true) ?_ (List.pairwise_mergeSort ?_ ?_ _) ?_ (List.mergeSort_perm _ _)
 ·intro a b _ _ h1 h2;exact Int.le_antisymm (Ej h1) (Ej h2)
 ·intro a b c h1 h2;exact Bq (Int.le_trans (Ej h1) (Ej h2))
 ·intro a b;rcases Int.le_total a b with h|h
  ·simp[h]
  ·simp[h]
 ·exact h.imp λ{a b} h=>Bq h
structure Sq (d:Dk) (A:vY) (ix:Bs) (M:Nat->Bs) (k q:Nat):Prop where
 calm:Calm d
 acct:vH d (vD [117] alB)=some (xAa A).data.toList
 idx:vH d (vD [120] alB)=some ix
 msg:∀i,1<=i->i<=k->vH d (nmA 109 i)=some (M i)
 wait:∀i,1<=i->i<=q->vH d (nmA 113 i)=some []
 only:∀n,vH d n≠none->n=vD [117] alB∨n=vD [120] alB∨(∃i,1<=i/\i<=k/\n=nmA 109 i)∨∃i,1<=i/\i<=q/\n=nmA 113 i
section
variable {d:Dk} {A:vY} {ix:Bs} {M:Nat->Bs} {k q:Nat}
theorem Sq.names (h:Sq d A ix M k q) (hk:k<=6) (hq:q<=6):xAg d=nmL k q:=by
 refine xUy h.calm.store (xXt ⟨k,ω⟩ ⟨q,ω⟩) λn=>?_;unfold nmL;simp only[Em,Ew,List.mem_range'_1,De,Dp,Gn]
 constructor
 ·rintro((⟨i,⟨a,b⟩,rfl⟩|⟨i,⟨a,b⟩,rfl⟩)|rfl|rfl)
  ·rw[h.msg i a ω];simp
  ·rw[h.wait i a ω];simp
  ·rw[h.acct];simp
  ·rw[h.idx];simp
 ·intro hn;rcases h.only n hn with rfl|rfl|⟨i,a,b,rfl⟩|⟨i,a,b,rfl⟩
  ·exact .inr (.inl rfl)
  ·exact .inr (.inr rfl)
  ·exact .inl (.inl ⟨i,⟨a,ω⟩,rfl⟩)
  ·exact .inl (.inr ⟨i,⟨a,ω⟩,rfl⟩)
theorem Sq.numbers (h:Sq d A ix M k q) (hk:k<=6) (hq:q<=6):wM d [109] alB=xRs k/\wM d [113] alB=xRs q:=by
 obtain⟨h1,h2⟩:=yGi ⟨k,ω⟩ ⟨q,ω⟩;unfold wM;rw[h.names hk hq,h1,h2];exact⟨xUj (xJi ⟨k,ω⟩),xUj (xJi ⟨q,ω⟩)⟩
theorem Sq.yEq (h:Sq d A ix M k q) (hA:uL A=true) (hu:A.user=alU):xC3 d alU=0/\wK d alU=A:=by
 obtain⟨h2,h3⟩:=yDa h.calm.store h.acct;obtain⟨h4,h5⟩:=yFm hA
 have hg:xB0 d alU=xAa A:=by
  show bsA (xOa d (vD [117] alB))=_;rw[h3,xWa]
 have hfit:xDt d alU=true:=by
  unfold xDt;rw[hg,h4,h5];exact Bq hu
 have he:xC3 d alU=0:=by
  show(if xAe d (vD [117] alB)=0 then(if xDt d alU=true then 0 else 3) else 6)=(0:Int);rw[h2,Ah rfl,hfit,Ah rfl]
 refine⟨he,?_⟩;unfold wK;rw[he,Ah rfl,hg,h5]
def ixB (xD xB:ByteArray) (x:yN):Bs:=(xB++wP (zC xD) xB alU (bsA (kC x))).data.toList
theorem Sq.index {xD xB:ByteArray} {x:yN} (h:Sq d A (ixB xD xB x) M k q) (hn:xB.size=12) (hx:xPg (kC x)=0/\xKx (kC x)=x):xPx d alU xD=0/\xFt d alU xD=x:=by
 obtain⟨h2,h3⟩:=yDa h.calm.store h.idx
 have hg:uF d alU=xB++wP (zC xD) xB alU (bsA (kC x)):=by
  show bsA (xOa d (vD [120] alB))=_;rw[h3,ixB,xWa]
 obtain⟨k1,k2⟩:=xOm (b:=wP (zC xD) xB alU (bsA (kC x))) hn;obtain⟨hok,htx⟩:=xRh (zC xD) xB alU (bsA (kC x))
 have hoo:xJg d alU xD=true:=by
  show(decide (xAe d (vD [120] alB)=0)&&decide (12<=(uF d alU).size)&&aOk (zC xD) ((uF d alU).extract 0 12) alU ((uF d alU).extract 12 (uF d alU).size))=true;rw[h2,hg,k1,k2,hok,Bq rfl,Bq (by rw[Aw];omega)]
  rfl
 have hot:xD2 d alU xD=kC x:=by
  unfold xD2;rw[hg,k1,k2,htx];simp[bsA]
 unfold xPx xFt;rw[hoo,Ah rfl,Ah rfl,hot];exact hx
def msB (A:vY) (once:ByteArray) (T:List ByteArray) (i:Nat):Bs:=oct A.jB::(xKr A.pub once (T.getD (i-1) ⟨#[]⟩)).data.toList
theorem Sq.text {xD once:ByteArray} {T:List ByteArray} (h:Sq d A ix (msB A once T) k q) (he:A.jB=0) (hpu:A.pub=xV xD) (hp:xD.size=32) (ho:once.size=32) (old:ByteArray) {i:Nat} (h1:1<=i) (hi:i<=k) (ht:(T.getD (i-1) ⟨#[]⟩).size<=700):
  yIs d alU xD old 0 (i:Int)=0/\xV0 d alU xD old 0 (i:Int)=T.getD (i-1) ⟨#[]⟩:=by
 obtain⟨h2,h3⟩:=yDa h.calm.store (h.msg i h1 hi);have hp32:(xV xD).size=32:=wC _ _;have hbe:xP4 A.pub once (T.getD (i-1) ⟨#[]⟩)=0:=by unfold xP4;rw[Ag (by rw[hpu];omega),Ag ω]
 have hbt:xKr A.pub once (T.getD (i-1) ⟨#[]⟩)=xTw (xV xD) once (T.getD (i-1) ⟨#[]⟩):=by unfold xKr;rw[Ah hbe,hpu]
 obtain⟨o1,o2⟩:=yBk (once:=once) hp ht
 have hg:pG d alU (i:Int)=bsA (msB A once T i):=by
  show bsA (xOa d (nmA 109 i))=_;rw[h3]
 have hs:(bsA (msB A once T i)).size=(xKr A.pub once (T.getD (i-1) ⟨#[]⟩)).size+1:=by rw[yS];simp[msB]
 have hx:(bsA (msB A once T i)).extract 1 (bsA (msB A once T i)).size=xKr A.pub once (T.getD (i-1) ⟨#[]⟩):=by
  have e:bsA (msB A once T i)=bsA [oct A.jB]++xKr A.pub once (T.getD (i-1) ⟨#[]⟩):=by
   apply Ee;simp[msB,bsA]
  rw[e];exact(xOm (a:=bsA [oct A.jB]) rfl).2
 have hb0:yU (bsA (msB A once T i)) 0=0 % 256:=by
  show((oct A.jB).toNat:Int)=0;rw[he]
  rfl
 have hk:yGt (pG d alU (i:Int)) xD old 0=xD:=by unfold yGt;rw[hg,Ah hb0]
 have hE:yIs d alU xD old 0 (i:Int)=0:=by
  show(if xAe d (nmA 109 i)≠0 then 6 else _)=(0:Int);rw[Ag (by rw[h2];simp),hk,hg,Ag (by rw[hs];omega),hx,hbt,Ag (by rw[o1];simp)]
 refine⟨hE,?_⟩;unfold xV0;rw[Ah hE,hk,hg,hx,hbt,o2]
end
end Mailsack
namespace Mailsack
open Go.Proofs.VA Go.Proofs.SH
def Rm (d:Dk) (k:Nat):Prop:=jA 0 (uZ d)<=2+2*k/\jA 1 (uZ d)<=k
section
variable {d e:Dk} {A:vY} {ix:Bs} {M:Nat->Bs} {k q:Nat} {once:ByteArray} {T:List ByteArray}
theorem xI6 (k:Nat):(xRs k).length=k:=by simp[xRs]
theorem Sq.yLz (h:Sq d A ix (msB A once T) k k) (hk:k<=5) (hA:uL A=true) (hu:A.user=alU) (ho:once.size=32) {t:ByteArray} (hT:T.getD k ⟨#[]⟩=t) (ht:t.size<=700):
  dlE d alU once t=0/\dlR d alU once t=(k:Int)+1/\dlL d alU once t=[⟨nmA 109 (k+1),msB A once T (k+1),false⟩,⟨nmA 113 (k+1),[],false⟩]:=by
 obtain⟨a1,a2⟩:=h.yEq hA hu;have hn:dlN d alU=xRs k:=(h.numbers ω ω).1;have hp:A.pub.size=32:=(tZ hA).2.2.2.2.2.2.2.1
 have hE:dlE d alU once t=0:=by
  unfold dlE;rw[a1,Ag σ,hn,xI6,Ag ω,a2];unfold xP4;rw[Ag ω,Ag ω]
 have hM:dlM d alU=((k+1:Nat):Int):=by
  unfold dlM;rw[hn,xI6]
  by_cases h0:k=0
  ·subst h0;rfl
  ·rw[Ag h0]
   have:(xRs k).getD (k-1) 0=(k:Int):=by
    unfold xRs;rw[Aa,Cg,List.getElem?_range' ω];show((1+1*(k-1):Nat):Int)=k;omega
   rw[this];omega
 refine⟨hE,by unfold dlR;rw[Ah hE,hM];omega,?_⟩;unfold dlL;rw[Ah hE];unfold dlC;rw[hM,a2];unfold msB;rw[show k+1-1=k by omega,hT]
 rfl
def dvL (A:vY) (once:ByteArray) (T:List ByteArray) (k:Nat):List Ch:=[⟨nmA 109 (k+1),msB A once T (k+1),false⟩,⟨nmA 113 (k+1),[],false⟩]
theorem yKu (A:vY) (once:ByteArray) (T:List ByteArray) (i:Nat):(msB A once T i).length<=1024:=by
 unfold msB;simp only[Bl,Cu];show(xKr A.pub once (T.getD (i-1) ⟨#[]⟩)).size+1<=1024;unfold xKr;split
 ·rename_i h
  unfold xP4 at h;split at h
  ·cases h
  ·split at h
   ·cases h
   ·rename_i h2
    obtain⟨c,hc,_,h3,_⟩:=xDq (n:=(T.getD (i-1) ⟨#[]⟩).size) ω;unfold xTw;rw[Aw,kH,xBt ω,hc];have:(xV once).size=32:=wC _ _;rw[this];omega
 ·decide
theorem xGt (c:UInt8) {i:Nat} (h:i<=9):(nmA c i).length=6:=by rw[xUw c h];rfl
theorem yLx (h:Sq d A ix (msB A once T) k k) (hr:Rm d k) (hk:k<=5):
  uY d (dvL A once T k)=0/\(yX d (dvL A once T k)).length≠0/\jA 0 (zF (stS d) (dvL A once T k)).1.slots<=2+2*(k+1)/\jA 1 (zF (stS d) (dvL A once T k)).1.slots<=k+1:=by
 have hc:=xGa (msB A once T (k+1))
 have hb:xTy (dvL A once T k)=yJ (msB A once T (k+1)):=by
  show xWc _+(xWc _+0)=_;unfold xWc;simp[yJ]
 have hw:wlL (dvL A once T k)=10+12*yJ (msB A once T (k+1)):=by
  show wlC _+(wlC _+0)=_;unfold wlC;simp[yJ];omega
 have hg:xU7 (vH d) (dvL A once T k):=by
  refine⟨by rw[xGt _ ω];omega,by rw[xGt _ ω];omega,by rw[Ag σ];exact yKu _ _ _ _,by rw[xGt _ ω];omega,by rw[xGt _ ω];omega,by rw[Ag σ];simp,trivial⟩
 have hl:(dvL A once T k).length=2:=rfl;obtain⟨r1,r2,r3,r4⟩:=xSi h.calm.store hr.1 hr.2 hg (by rw[hl];omega) (by rw[hb];omega) (by rw[hl,hb];omega) (by rw[hw];omega);exact⟨r1,by rw[r2,hw];omega,by rw[hl] at r3;omega,by rw[hb] at r4;omega⟩
theorem Sq.next (h:Sq d A ix (msB A once T) k k) (hk:k<=5) (hc:Calm e) (hl:∀n,vH e n=xF2 (vH d) (dvL A once T k) n):Sq e A ix (msB A once T) (k+1) (k+1):=by
 have hl2:∀n,vH e n=if n=nmA 113 (k+1) then some [] else if n=nmA 109 (k+1) then some (msB A once T (k+1)) else vH d n:=λn=>by
  rw[hl];simp[xF2,dvL,jS]
 refine⟨hc,?_,?_,λi a b=>?_,λi a b=>?_,λn hn=>?_⟩
 ·rw[hl2,Ag (En (xD4 ω)),Ag (En (xD4 ω))];exact h.acct
 ·rw[hl2,Ag (En (xD4 ω)),Ag (En (xD4 ω))];exact h.idx
 ·rw[hl2,Ag (by rw[xGu ω ω];rintro⟨e1,_⟩;exact absurd e1 δ)]
  by_cases hi:i=k+1
  ·rw[hi,Ah rfl]
  ·rw[Ag (by rw[xGu ω ω];exact λe1=>hi e1.2)];exact h.msg i a ω
 ·rw[hl2]
  by_cases hi:i=k+1
  ·rw[hi,Ah rfl]
  ·rw[Ag (by rw[xGu ω ω];exact λe1=>hi e1.2),Ag (by rw[xGu ω ω];rintro⟨e1,_⟩;exact absurd e1 δ)];exact h.wait i a ω
 ·rw[hl2] at hn
  by_cases h1:n=nmA 113 (k+1)
  ·exact .inr (.inr (.inr ⟨k+1,ω,ω,h1⟩))
  ·rw[Ag h1] at hn
   by_cases h2:n=nmA 109 (k+1)
   ·exact .inr (.inr (.inl ⟨k+1,ω,ω,h2⟩))
   ·rw[Ag h2] at hn;rcases h.only n hn with g|g|⟨i,a,b,g⟩|⟨i,a,b,g⟩
    ·exact .inl g
    ·exact .inr (.inl g)
    ·exact .inr (.inr (.inl ⟨i,a,ω,g⟩))
    ·exact .inr (.inr (.inr ⟨i,a,ω,g⟩))
theorem Sq.same (h:Sq d A ix M k q) (hc:Calm e) (hl:∀n,vH e n=vH d n):Sq e A ix M k q:=
 ⟨hc,by rw[hl];exact h.acct,by rw[hl];exact h.idx,λi a b=>by rw[hl];exact h.msg i a b,λi a b=>by rw[hl];exact h.wait i a b,λn hn=>h.only n (by rw[<-hl];exact hn)⟩
theorem Sq.apply (h:Sq d A ix (msB A once T) k k) (hr:Rm d k) (hk:k<=5):xAj d (dvL A once T k)=0/\Sq (vO d (dvL A once T k)) A ix (msB A once T) (k+1) (k+1)/\Rm (vO d (dvL A once T k)) (k+1):=by
 obtain⟨r1,_,r3,r4⟩:=yLx h hr hk;obtain⟨a1,_,a3⟩:=xGe h.calm.store r1;exact⟨a1,h.next hk (xH6 h.calm r1) a3,by unfold Rm;rw[xKm h.calm.store r1];exact⟨r3,r4⟩⟩
theorem Sq.yDx (h:Sq d A ix (msB A once T) k k) (hr:Rm d k) (hk:k<=5) (m:Nat) (keep:List Int):
  vZ d (yX d (dvL A once T k))=0/\∃j,(j=k∨j=k+1)/\Sq (xPt (rA (vJ d ((zU (yX d (dvL A once T k))).take m)) keep)) A ix (msB A once T) j j/\Rm (xPt (rA (vJ d ((zU (yX d (dvL A once T k))).take m)) keep)) j:=by
 obtain⟨r1,r2,r3,r4⟩:=yLx h hr hk;obtain⟨_,_,w4⟩:=xOn h.calm.store r1;obtain⟨c1,c2⟩:=xYi h.calm r1 r2 m keep;refine⟨w4 r2,?_⟩;rcases c2 with ⟨s1,l1⟩|⟨s1,l1⟩
 ·exact⟨k,.inl rfl,h.same c1 l1,by unfold Rm;rw[s1];exact hr⟩
 ·exact⟨k+1,.inr rfl,h.next hk c1 l1,by unfold Rm;rw[s1];exact⟨r3,r4⟩⟩
end
end Mailsack
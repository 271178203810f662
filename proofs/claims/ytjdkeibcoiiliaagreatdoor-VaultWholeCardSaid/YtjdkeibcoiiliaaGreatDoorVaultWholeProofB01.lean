/- Contracts of functions. Conditions: as stated. -/
import Derived.Test.YtjdkeibcoiiliaaGreatDoorVaultWholeProofB00
import Derived.Deep.WholeRow
open Go.Proofs.Tryz
set_option maxHeartbeats 8000000
set_option maxRecDepth 100000
namespace Mailsack
def wF (x:Wr) (n:Nat):Bool:=decide (0<=x.at_)&&decide (x.at_<n)&&decide (x.data.length=64)
def yP (d:Dk):Bool:=decide (1<=d.secs.length)&&decide (d.secs.length<=1024)&&d.secs.all (λs=>decide (s.length=64))&&d.cache.all (λx=>wF x d.secs.length)
theorem xOt {α:Type} {f:α->Bool} {L:List α} {k:Nat} {x:α} (h:L[k]?=some x) (hf:f x=true) (h0:∀r∈L.take k,f r=true):∀r∈L.take (k+1),f r=true:=by
 intro q hq;rw[Cc,h] at hq;rcases Em.1 hq with hq|hq
 ·exact h0 q hq
 ·simp at hq;subst hq;exact hf
theorem all_false {α:Type} {f:α->Bool} {L:List α} {k:Nat} {x:α} (h:L[k]?=some x) (hf:f x=false):L.all f=false:=by
 rw[List.all_eq_false];exact⟨x,Bb h,by rw[hf];simp⟩
theorem all_true {α:Type} {f:α->Bool} {L:List α} (h:∀r∈L.take L.length,f r=true):L.all f=true:=by
 rw[Cf] at h;exact Bv.2 h
end Mailsack
namespace Go.Proofs.DS
open Go.RowKit Mailsack MM BB
def RdW (w:World) (B:Nat) (v:Value) (L:List Wr):Prop:=
 ∃A c,v=.slice A L.length c/\L.length<=c/\(0<L.length->∃b off,A=some (θ b off)/\b<B/\∀j x,L[j]?=some x->w.cell? (θ b (off+j*2))=some (.int .i64 x.at_)/\w.cell? (θ b (off+j*2+1))=some (xR x.data))
theorem RdW.keep {w w':World} {B:Nat} {v:Value} {L:List Wr} (h:RdW w B v L) (hk:∀p:Addr,p.block<B->w'.cell? p=w.cell? p):RdW w' B v L:=by
 obtain⟨A,c,h1,h2,h3⟩:=h;refine⟨A,c,h1,h2,λhn=>?_⟩;obtain⟨b,off,h4,h5,h6⟩:=h3 hn;exact⟨b,off,h4,h5,λj x hx=>⟨(hk _ h5).trans (h6 j x hx).1,(hk _ h5).trans (h6 j x hx).2⟩⟩
theorem RdW.below {w w':World} {B B':Nat} {v:Value} {L:List Wr} (h:RdW w B v L) (hb:Below B' w w') (hB:B<=B'):RdW w' B v L:=h.keep λ_ hp=>hb.cell ω
theorem RdW.more {w:World} {B B':Nat} {v:Value} {L:List Wr} (h:RdW w B v L) (hB:B<=B'):RdW w B' v L:=by
 obtain⟨A,c,h1,h2,h3⟩:=h;refine⟨A,c,h1,h2,λhn=>?_⟩;obtain⟨b,off,h4,h5,h6⟩:=h3 hn;exact⟨b,off,h4,ω,h6⟩
theorem RdW.xJj (w:World) (B:Nat):RdW w B (.slice none 0 0) []:=⟨none,0,rfl,Bd _,λh=>by simp at h⟩
structure RdD (w:World) (B:Nat) (a b:Value) (d:Dk):Prop where
 s:RdS w B a d.secs
 c:RdW w B b d.cache
 ls:d.secs.length<=1000000
 lc:d.cache.length<=1000000
theorem RdD.below {w w':World} {B B':Nat} {a b:Value} {d:Dk} (h:RdD w B a b d) (hb:Below B' w w') (hB:B<=B'):RdD w' B a b d:=⟨h.s.below hb hB,h.c.below hb hB,h.ls,h.lc⟩
theorem RdD.more {w:World} {B B':Nat} {a b:Value} {d:Dk} (h:RdD w B a b d) (hB:B<=B'):RdD w B' a b d:=⟨h.s.more hB,h.c.more hB,h.ls,h.lc⟩
theorem xVu (x:Wr) (n:Nat) (w:World):
  Calls prog 88 #[.agg #[.int .i64 x.at_,xR x.data],.int .i64 n] w (pv (.bool (wF x n)) w):=by
 obtain⟨a,s⟩:=x;obtain⟨sb,hsb⟩:=eX (⟨s.toArray⟩:ByteArray);have HF:Hid (wF ⟨a,s⟩ n=(decide (0<=a)&&decide (a<n)&&decide (sb.size=64))):=ι (by rw[<-hsb];rfl);show Calls prog 88 #[.agg #[.int .i64 a,.string ⟨s.toArray⟩],.int .i64 n] w _;rw[hsb]
 have hB:=xJ w (.cells #[.int .i64 a,.string sb] 94);have c0:=xA hB 0;have c1:=xA hB 1;have HB:=ι (φ w (.cells #[.int .i64 a,.string sb] 94));clear hB hsb
 by_cases h1:0<=a
 ·by_cases h2:a<n
  ·by_cases h3:sb.size=64
   ·have h3i:(sb.size:Int)=64:=ω;have h3b:((sb.size:Int)==64)=true:=by simpa using h3i
    have HR:Hid (wF ⟨a,s⟩ n=true):=ι (by rw[HF.o];simp[h1,h2,h3]);clear h3;go_enter func88,ntmps88;go_wp2;go_ret;exact⟨by rw[HR.o];rfl,HB.o⟩
   ·have h3i:¬((sb.size:Int)=64):=ω;have h3b:((sb.size:Int)==64)=false:=by simpa using h3i
    have HR:Hid (wF ⟨a,s⟩ n=false):=ι (by rw[HF.o];simp[h3]);clear h3;go_enter func88,ntmps88;go_wp2;go_ret;exact⟨by rw[HR.o];rfl,HB.o⟩
  ·have HR:Hid (wF ⟨a,s⟩ n=false):=ι (by rw[HF.o];simp[h2]);go_enter func88,ntmps88;go_wp2;go_ret;exact⟨by rw[HR.o];rfl,HB.o⟩
 ·have HR:Hid (wF ⟨a,s⟩ n=false):=ι (by rw[HF.o];simp[h1]);go_enter func88,ntmps88;go_wp2;go_ret;exact⟨by rw[HR.o];rfl,HB.o⟩
theorem qX (va vb:Value) (d:Dk) (w:World) (h:RdD w w.heap.size va vb d):
  Calls prog 44 #[.agg #[va,vb]] w (pv (.bool (yP d)) w):=by
 obtain⟨S,C⟩:=d;obtain⟨⟨A1,c1,rfl,hc1,h1⟩,⟨A2,c2,rfl,hc2,h2⟩,hls,hlc⟩:=h;have H1:=ι h1;have H2:=ι h2;simp only at hc1 hc2 hls hlc H1 H2⊢;have HF:Hid (yP ⟨S,C⟩=(decide (1<=S.length)&&decide (S.length<=1024)&&S.all (λs=>decide (s.length=64))&&C.all (λx=>wF x S.length))):=ι rfl
 have hB:=xJ w (yI (.slice A1 S.length c1) (.slice A2 C.length c2));have HB:=ι (φ w (yI (.slice A1 S.length c1) (.slice A2 C.length c2)));have b0:=xA hB 0;have HBK:=ι hB;clear hB h1 h2
 by_cases g1:1<=S.length
 ·by_cases g2:S.length<=1024
  ·have i1:¬((S.length:Int)<1):=ω;have i2:¬(1024<(S.length:Int)):=ω;have HF2:Hid (yP ⟨S,C⟩=(S.all (λs=>decide (s.length=64))&&C.all (λx=>wF x S.length))):=ι (by rw[HF.o];simp[g1,g2]);clear HF;go_enter func44,ntmps44;go_wp2_with fail
   obtain⟨b,off,rfl,hbw,hcs⟩:=H1.o ω;have HCS:=ι hcs;clear H1 hcs b0;generalize w.alloc (yI (.slice (some (θ b off)) S.length c1) (.slice A2 C.length c2))=w0 at HB HBK⊢
   go_loopw [20] (λiv wr=>∃k:Nat,k<=S.length/\iv=.int .i64 k/\wr=w0/\Hid (∀r∈S.take k,decide (r.length=64)=true)) (λiv _=>S.length- (intOf iv).toNat)
   case atStart=>exact⟨0,Bc _,rfl,rfl,ι σ⟩
   case round=>
    obtain⟨k,hk,rfl,rfl,hok⟩:=hrel
    by_cases hlt:k<S.length
    ·obtain⟨x,hx⟩:∃x,S[k]?=some x:=⟨_,Af hlt⟩;have q0:=(HB.o.cell (p:=(θ b (off+k))) hbw).trans (HCS.o k x hx);have HX:=ι hx;clear hx;obtain⟨xb,hxb⟩:=eX (⟨x.toArray⟩:ByteArray);have hxs:xb.size=x.length:=by rw[<-hxb];rfl
     have q1:wr.cell? (θ b (off+k))=some (.string xb):=by rw[<-hxb];exact q0
     clear q0 hxb
     by_cases h64:x.length=64
     ·have e1:((xb.size:Int)!=64)=false:=by simp;omega
      have e2:(xb.size:Int)=64:=ω;have HO:=ι (xOt HX.o (by simpa using h64) hok.o);clear h64 hxs;go_wp2;exact⟨⟨k+1,ω,by go_num,trivial,HO⟩,by simp[intOf];omega⟩
     ·have e1:((xb.size:Int)!=64)=true:=by simp;omega
      have e2:¬((xb.size:Int)=64):=ω;have HR:Hid (yP ⟨S,C⟩=false):=ι (by rw[HF2.o,all_false HX.o (by simpa using h64)];rfl);clear h64 hxs;go_wp2;go_ret;exact⟨by rw[HR.o];rfl,HB.o⟩
    ·obtain rfl:k=S.length:=ω;have HF3:Hid (yP ⟨S,C⟩=C.all (λx=>wF x S.length)):=ι (by rw[HF2.o,all_true hok.o];rfl);clear HF2 hok HCS hlt;have b1:=xA HBK.o 1;go_wp2_with fail
     clear b1
     go_loopw [31] (λiv wx=>∃k:Nat,k<=C.length/\iv=.int .i64 k/\Hid (ψ wr wx)/\Hid (∀r∈C.take k,wF r S.length=true)) (λiv _=>C.length- (intOf iv).toNat)
     case atStart=>exact⟨0,Bc _,rfl,ι (Aq _ _),ι σ⟩
     case round=>
      obtain⟨k,hk,rfl,hbx,hok⟩:=hrel
      by_cases hlt:k<C.length
      ·obtain⟨b2,yBr,rfl,hb2,hc2⟩:=H2.o ω;obtain⟨x,hx⟩:∃x,C[k]?=some x:=⟨_,Af hlt⟩;obtain⟨p0,p1⟩:=hc2 k x hx;have HBX:=ι (HB.o.trans (hbx.o.mono HB.o.size));have q0:=(HBX.o.cell (p:=(θ b2 (yBr+k*2))) hb2).trans p0
       have q1:=(HBX.o.cell (p:=(θ b2 (yBr+k*2+1))) hb2).trans p1;have HX:=ι hx;have HFT:=ι (λW=>xVu x S.length W);have b0:=xA (xN (xC HBK.o hbx.o (xH HBK.o)) (.cells #[.int .i64 x.at_,.string ⟨x.data.toArray⟩] 94)) 0
       have HA:=ι (φ wr (.cells #[.int .i64 x.at_,.string ⟨x.data.toArray⟩] 94));obtain⟨a,s⟩:=x;simp only at q0 q1 HFT b0 HA;clear hc2 hx p0 p1 H2;go_wp2_with fail
       refine cM (HFT.o _) λw5 hb5=>?_;have HB5:=ι (hbx.o.trans ((bT HA.o hb5).mono hbx.o.size));clear hb5 HA b0 q0 q1 HFT;cases hft:wF ⟨a,s⟩ S.length with
       |true=>
        have HO:=ι (xOt HX.o hft hok.o);clear hft;go_wp2;exact⟨⟨k+1,ω,by go_num,HB5,HO⟩,by simp[intOf];omega⟩
       |false=>
        have HR:Hid (yP ⟨S,C⟩=false):=ι (by rw[HF3.o,all_false HX.o hft]);clear hft;go_wp2;go_ret;exact⟨by rw[HR.o];rfl,HB.o.trans (HB5.o.mono HB.o.size)⟩
      ·obtain rfl:k=C.length:=ω;have HR:Hid (yP ⟨S,C⟩=true):=ι (by rw[HF3.o,all_true hok.o]);clear hlt;go_wp2;go_ret;exact⟨by rw[HR.o];rfl,HB.o.trans (hbx.o.mono HB.o.size)⟩
  ·have i1:¬((S.length:Int)<1):=ω;have i2:1024<(S.length:Int):=ω;have HR:Hid (yP ⟨S,C⟩=false):=ι (by rw[HF.o];simp[g2]);go_enter func44,ntmps44;go_wp2;go_ret;exact⟨by rw[HR.o];rfl,HB.o⟩
 ·have i1:(S.length:Int)<1:=ω;have HR:Hid (yP ⟨S,C⟩=false):=ι (by rw[HF.o];simp[g1]);go_enter func44,ntmps44;go_wp2;go_ret;exact⟨by rw[HR.o];rfl,HB.o⟩
end Go.Proofs.DS
namespace Mailsack
def wrD (C:List Wr) (k:Nat):Wr:=C.getD k ⟨0,[]⟩
def kD (c:Nat->Bool) (C:List Wr) (S:List Bs):Nat->List Bs
 |0=>S
 |k+1=>if c k=true then(kD c C S k).set (wrD C k).at_.toNat (wrD C k).data else kD c C S k
theorem xAv (c:Nat->Bool) (C:List Wr) (S:List Bs):∀k,(kD c C S k).length=S.length
 |0=>rfl
 |k+1=>by
  unfold kD;split
  ·rw[Bf,xAv c C S k]
  ·exact xAv c C S k
def xY (d:Dk):Dk:=if yP d=true then⟨kD (λ_=>true) d.cache d.secs d.cache.length,[]⟩ else d
theorem xLp {d:Dk} (h:yP d=true):1<=d.secs.length/\d.secs.length<=1024:=by
 unfold yP at h;simp only[Au,Be] at h;exact⟨h.1.1.1,h.1.1.2⟩
theorem yB5 {d:Dk} (h:yP d=true) {k:Nat} {x:Wr} (hx:d.cache[k]?=some x):0<=x.at_/\x.at_<d.secs.length/\x.data.length=64:=by
 unfold yP at h;simp only[Au] at h;have:=Bv.1 h.2 x (Bb hx);unfold wF at this;simp only[Au,Be] at this;exact⟨this.1.1,this.1.2,this.2⟩
end Mailsack
namespace Go.Proofs.DS
open Go.RowKit Mailsack MM BB
theorem xTm (l:List Bs):(jT l).toList=l.map xR:=by simp[jT]
theorem qA.row {W:World} {g:Nat} {l:List Bs} (h:qA W g l) (l':List Bs):qA (W.setRow g (jT l')) g l':=Bp W g _ _ _ _ h.blk
theorem yM3 {W:World} {g:Nat} {l:List Bs} (h:qA W g l) (S:List Bs) (hl:l.length=S.length) (b off c cd:Nat) (ty:TypeId) (hsrc:∀j x,S[j]?=some x->W.cell? (θ b (off+j))=some (xR x)):
  (Builtin.copy_ #[24,24] ty #[.slice (some (θ g 0)) S.length cd,.slice (some (θ b off)) S.length c]).run prog W=.ok (goInt S.length) (W.setRow g (jT S)):=by
 have h3:=run_copy_row (P:=prog) W 24 24 ty 9 g 0 S.length cd (θ b off) S.length c (jT l) _ (S.map xR) underlying24 κ h.blk σ (λj v hv=>by
  rw[Cg] at hv;obtain⟨x,hx,rfl⟩:=Df.1 hv;have hadd:(⟨b,off,none⟩:Addr).add j=⟨b,off+j,none⟩:=by unfold Addr.add;split<;>simp_all
  rw[hadd];exact hsrc j x hx) (by rw[xQv];simp;omega) (λv hv=>by
  obtain⟨x,_,rfl⟩:=Ew.1 hv
  rfl)
 have hrow:((jT l).toList.take 0++S.map xR++(jT l).toList.drop (0+(S.map xR).length)).toArray=jT S:=by
  rw[xTm];simp[jT,<-hl]
 rw[h3,hrow];simp
theorem yAe (w:World) (o o' o'':Obj):(((w.alloc o).alloc o').alloc o'').heap[w.heap.size+1+1]?=some o'':=by
 have:=xJ ((w.alloc o).alloc o') o''
 rwa [show((w.alloc o).alloc o').heap.size=w.heap.size+1+1 by simp] at this
structure PfI (w:World) (g:Nat) (va vb:Value) (l:List Bs) (W:World):Prop where
 box:W.heap[w.heap.size]?=some (yI va vb)
 res:W.heap[w.heap.size+1]?=some (yI (.slice none 0 0) (.slice none 0 0))
 row:qA W g l
 bel:ψ w W
 lo:w.heap.size+1<g
theorem PfI.call {w:World} {g:Nat} {va vb:Value} {l:List Bs} {W W':World} (h:PfI w g va vb l W) (hb:ψ W W'):PfI w g va vb l W':=
 ⟨xC h.box hb (xH h.box),xC h.res hb (xH h.res),h.row.below hb h.row.lt,bT h.bel hb,h.lo⟩
theorem PfI.put {w:World} {g:Nat} {va vb:Value} {l:List Bs} {W:World} (h:PfI w g va vb l W) (i:Nat) (x:Bs):PfI w g va vb (l.set i x) (W.setCell (θ g i) (xR x)):=
 ⟨yA h.box (p:=θ g i) (by have:=h.lo;simp;omega) _,yA h.res (p:=θ g i) (by have:=h.lo;simp;omega) _,h.row.put i x,h.bel.setCell (p:=θ g i) (by have:=h.lo;simp;omega) _,h.lo⟩
theorem xJd (va vb:Value) (d:Dk) (fid:FuncId) (fr:Array Value) (c:Nat->Bool) (w:World) (h:RdD w w.heap.size va vb d) (hr:yP d=true) (hE:∀args W,(callFunc fid args).run prog W=.ok (.enter fid args) W)
  (hc:∀i W,i<d.cache.length->ψ w W->Calls prog fid (#[.int .i64 (i:Int)]++fr) W (pv (.bool (c i)) W)):
  Calls prog 45 #[.agg #[va,vb],.func (.func fid) #[] fr] w λe w'=>∃g,e=.returned (.agg #[.slice (some (θ g 0)) d.secs.length d.secs.length,.slice none 0 0])/\qA w' g (kD c d.cache d.secs d.cache.length)/\w.heap.size<g/\ψ w w':=by
 obtain⟨hn1,hn2⟩:=xLp hr;have HFIT:=ι (λ(k:Nat) (x:Wr) (hx:d.cache[k]?=some x)=>yB5 hr hx);have HC:=ι hc;obtain⟨S,C⟩:=d;obtain⟨⟨A1,c1,rfl,hc1,h1⟩,⟨A2,c2,rfl,hc2,h2⟩,hls,hlc⟩:=h;simp only at hn1 hn2 hc1 hc2 h1 h2 hls hlc HFIT HC⊢;obtain⟨b,off,rfl,hbw,hcs⟩:=h1 ω;have HCS:=ι hcs
 have H2:=ι h2;have t0:=zM w (yI (.slice (some (θ b off)) S.length c1) (.slice A2 C.length c2)) (yI (.slice none 0 0) (.slice none 0 0));have t1:=zI w (yI (.slice (some (θ b off)) S.length c1) (.slice A2 C.length c2)) (yI (.slice none 0 0) (.slice none 0 0))
 have HB0:=ι ((φ w (yI (.slice (some (θ b off)) S.length c1) (.slice A2 C.length c2))).alloc σ (yI (.slice none 0 0) (.slice none 0 0)));have HT0:=ι t0;have HT1:=ι t1;have k0:=xA t0 0;have hmk:=λW=>madeS W S.length ω;clear hr hc hcs h1 h2 t0 t1
 go_enter func45,ntmps45;go_upto_region 2 with fail
 have HP:Hid (PfI w (w.heap.size+1+1) (.slice (some (θ b off)) S.length c1) (.slice A2 C.length c2) (List.replicate S.length []) (((w.alloc (yI (.slice (some (θ b off)) S.length c1) (.slice A2 C.length c2))).alloc (yI (.slice none 0 0) (.slice none 0 0))).alloc (.cells (jT (List.replicate S.length [])) 9))):=
  ι ⟨xN HT0.o _,xN HT1.o _,yAe _ _ _ _,HB0.o.alloc HB0.o.size _,ω⟩
 generalize ((w.alloc (yI (.slice (some (θ b off)) S.length c1) (.slice A2 C.length c2))).alloc (yI (.slice none 0 0) (.slice none 0 0))).alloc (.cells (jT (List.replicate S.length [])) 9)=w3 at HP⊢;generalize w.heap.size+1+1=g at HP⊢;clear k0 hmk HT0 HT1 HB0
 have k0:=xA HP.o.box 0;have hcp:=yM3 HP.o.row S σ b off c1 S.length 3 (λj x hx=>(HP.o.bel.cell (p:=(θ b (off+j))) hbw).trans (HCS.o j x hx));go_upto_region 3 with fail
 have HP2:Hid (PfI w g (.slice (some (θ b off)) S.length c1) (.slice A2 C.length c2) (kD c C S 0) (w3.setRow g (jT S))):=
  ι ⟨by rw[Bj _ _ _ _ (by have:=HP.o.lo;omega)];exact HP.o.box,by rw[Bj _ _ _ _ (by have:=HP.o.lo;omega)];exact HP.o.res,qA.row HP.o.row S,Bn HP.o.bel (by have:=HP.o.lo;omega) _,HP.o.lo⟩
 generalize w3.setRow g (jT S)=w4 at HP2⊢;clear HP hcp HCS k0;have k1:=xA HP2.o.box 1;go_wp2_with fail
 clear k1
 go_loopw [19] (λiv wr=>∃k:Nat,k<=C.length/\iv=.int .i64 k/\Hid (PfI w g (.slice (some (θ b off)) S.length c1) (.slice A2 C.length c2) (kD c C S k) wr)) (λiv _=>C.length- (intOf iv).toNat)
 case atStart=>exact⟨0,Bc _,rfl,HP2⟩
 case round=>
  obtain⟨k,hk,rfl,hr⟩:=hrel;clear HP2
  by_cases hlt:k<C.length
  ·obtain⟨b2,yBr,rfl,hb2,hc2⟩:=H2.o ω;obtain⟨x,hx⟩:∃x,C[k]?=some x:=⟨_,Af hlt⟩;obtain⟨p0,p1⟩:=hc2 k x hx;have q0:=(hr.o.bel.cell (p:=(θ b2 (yBr+k*2))) hb2).trans p0;have q1:=(hr.o.bel.cell (p:=(θ b2 (yBr+k*2+1))) hb2).trans p1
   obtain⟨f0,f1,f2⟩:=HFIT.o k x hx;have HD:Hid (wrD C k=x):=ι (by unfold wrD;rw[Aa,hx];rfl);obtain⟨a,s⟩:=x;simp only at q0 q1 f0 f1 f2;have HA:=ι (hr.o.call (φ wr (.cells #[.int .i64 a,xR s] 94)));have hbk:=xJ wr (.cells #[.int .i64 a,xR s] 94)
   have hcc:=HC.o k (wr.alloc (.cells #[.int .i64 a,xR s] 94)) hlt HA.o.bel;have HBK:=ι hbk;have HCC:=ι hcc;clear hc2 hx p0 p1 H2 hbk hcc;go_wp2_with fail
   refine HCC.o.mono ?_;rintro e w5 ⟨rfl,hb5⟩;have hk5:=xC HBK.o hb5 (xH HBK.o);have HR5:=ι (HA.o.call hb5);have m0:=xA hk5 0;have m1:=xA hk5 1;clear HA HBK HCC hb5 hk5 q0 q1 hr;cases hck:c k with
   |true=>
    have HPL:Hid (kD c C S (k+1)=(kD c C S k).set a.toNat s):=ι (by rw[kD,Ah hck,HD.o]);obtain⟨an,rfl⟩:∃an:Nat,a=an:=⟨a.toNat,ω⟩;have hal:an<(kD c C S k).length:=by rw[xAv];omega
    obtain⟨y,hy⟩:∃y,(kD c C S k)[an]?=some y:=⟨_,Af hal⟩;have cy:=HR5.o.row.cell hy;have yy:=HR5.o.row.free an;have HE5:=ι (HR5.o.put an s);have hpl:=HPL.o;simp only[Cn] at hpl;rw[<-hpl] at HE5;clear hck HPL hal hy hpl HD;go_wp2
    exact⟨⟨k+1,ω,by go_num,HE5⟩,by simp[intOf];omega⟩
   |false=>
    have HPL:Hid (kD c C S (k+1)=kD c C S k):=ι (by rw[kD,Ag (by rw[hck];simp)]);clear hck HD;go_wp2;exact⟨⟨k+1,ω,by go_num,by rw[HPL.o];exact HR5⟩,by simp[intOf];omega⟩
  ·obtain rfl:k=C.length:=ω;have c0:=xA hr.o.res 0;have c1:=xA hr.o.res 1;have y0:=xG hr.o.res 0;have y1:=xG hr.o.res 1;have hB:=yD (yD hr.o.res 0 (.slice (some (θ g 0)) S.length S.length)) 1 (.slice none 0 0);have f0:=xA hB 0;have f1:=xA hB 1
   simp only[Ba,Bh,Cm,gA,gC,gB] at f0 f1;clear hB hlt H2 HC HFIT;have HL:Hid (w.heap.size+1<g):=ι hr.o.lo;go_wp2
   refine Ak (v:=.agg #[.slice (some (θ g 0)) S.length S.length,.slice none 0 0]) (by simp[results,results45,go_sem,f0,f1]) rfl ?_;have hlo:=HL.o;refine⟨g,rfl,?_,ω,?_⟩
   ·exact(hr.o.row.far (p:=(θ (w.heap.size+1) 0)) (by simp;omega) _).far (p:=(θ (w.heap.size+1) 1)) (by simp;omega) _
   ·exact(hr.o.bel.setCell (p:=(θ (w.heap.size+1) 0)) σ _).setCell (p:=(θ (w.heap.size+1) 1)) σ _
def noB (n:Nat):Array Value:=(List.replicate n (Value.bool false)).toArray
theorem yGn (n:Nat):madeCells (Value.cells (.bool false)) (n*1)=noB n:=by
 apply Array.ext_getElem?;intro i
 by_cases h:i<n
 ·have:(noB n)[i]?=some (.bool false):=by simp[noB,h]
  rw[this];simp[madeCells,Value.cells,h,Nat.mod_one]
 ·rw[Dr (by simp[madeCells];omega),Dr (by simp[noB];omega)]
theorem madeB (W:World) (n:Nat) (hm:n<=1000000):(Instr.makeSlice 110 (.int .i64 (n:Int)) (.int .i64 (n:Int))).run prog W=.ok (.slice (some (θ W.heap.size 0)) n n) (W.alloc (.cells (noB n) 4)):=by
 have hinfo:(prog.info? 4).map (λi=>(i.zero,i.size,i.bytes))=some (some (.bool false),1,1):=κ;cases hq:prog.info? 4 with
 |none=>rw[hq] at hinfo;cases hinfo
 |some i=>
  rw[hq] at hinfo;simp only[Fe,Ez,Prod.mk.injEq] at hinfo;obtain⟨hz,hs,hb⟩:=hinfo;have h:=run_make (P:=prog) (w:=W) 110 4 i _ underlying110 hq hz .i64 .i64 (n:Int) (n:Int) ω ω (by rw[hb];omega) ω;simp only[Cn] at h
  rw[hs,yGn] at h;exact h
theorem yEm (i:Int) (w:World):Calls prog 89 #[.int .i64 i] w (pv (.bool true) w):=by
 go_enter func89,ntmps89;go_wp2;go_ret;exact⟨rfl,Aq _ _⟩
theorem xG3 (va vb:Value) (d:Dk) (w:World) (h:RdD w w.heap.size va vb d):
  Calls prog 47 #[.agg #[va,vb]] w λe w'=>∃va' vb',e=.returned (.agg #[va',vb'])/\RdD w' w'.heap.size va' vb' (xY d)/\(yP d=true->∃g,va'=.slice (some (θ g 0)) d.secs.length d.secs.length/\qA w' g (xY d).secs)/\ψ w w':=by
 obtain⟨A1,c1,rfl,_,_⟩:=h.s;obtain⟨A2,c2,rfl,_,_⟩:=h.c;have t0:=zM w (yI (.slice A1 d.secs.length c1) (.slice A2 d.cache.length c2)) (yI (.slice none 0 0) (.slice none 0 0))
 have t1:=zI w (yI (.slice A1 d.secs.length c1) (.slice A2 d.cache.length c2)) (yI (.slice none 0 0) (.slice none 0 0));have HB0:=ι ((φ w (yI (.slice A1 d.secs.length c1) (.slice A2 d.cache.length c2))).alloc σ (yI (.slice none 0 0) (.slice none 0 0)));have HD:=ι h
 have HRT:=ι (λW (hb:ψ w W)=>qX _ _ d W ((h.below hb ν).more hb.size));have HT0:=ι t0;have HT1:=ι t1;have k0:=xA t0 0;have k1:=xA t0 1;clear h t0 t1;go_enter func47,ntmps47;go_wp2_with fail
 refine cM (HRT.o _ HB0.o) λw1 hb1=>?_;have HB1:=ι (bT HB0.o hb1);have yMh:=ι (xC HT0.o hb1 (xH HT0.o));have xZ4:=ι (xC HT1.o hb1 (xH HT1.o));clear HT0 HT1 HB0 hb1 k0 k1 HRT;have k0:=xA yMh.o 0;have k1:=xA yMh.o 1;cases hr:yP d with
 |false=>
  have j0:=xA xZ4.o 0;have j1:=xA xZ4.o 1;have y0:=xG xZ4.o 0;have y1:=xG xZ4.o 1;have hB:=yD (yD xZ4.o 0 (.slice A1 d.secs.length c1)) 1 (.slice A2 d.cache.length c2);have f0:=xA hB 0;have f1:=xA hB 1
  simp only[Ba,Bh,Cm,gA,gC,gB] at f0 f1;have HF:Hid (xY d=d):=ι (by unfold xY;rw[Ag (by rw[hr];simp)]);have HRF:=ι hr;clear hB hr;go_wp2
  refine Ak (v:=.agg #[.slice A1 d.secs.length c1,.slice A2 d.cache.length c2]) (by simp[results,results47,go_sem,f0,f1]) rfl ?_
  have hb:=(HB1.o.setCell (p:=(θ (w.heap.size+1) 0)) σ (.slice A1 d.secs.length c1)).setCell (p:=(θ (w.heap.size+1) 1)) σ (.slice A2 d.cache.length c2);refine⟨_,_,rfl,?_,(λh=>by rw[HRF.o] at h;cases h),hb⟩;rw[HF.o];exact(HD.o.below hb ν).more hb.size
 |true=>
  have HPF:=ι (xJd _ _ d 89 #[] (λ_=>true) w1 ((HD.o.below HB1.o ν).more HB1.o.size) hr (λargs W=>enters_of func89 κ rfl args W) (λi W _ _=>by have:=yEm i W;simpa using this))
  have HF:Hid (xY d=⟨kD (λ_=>true) d.cache d.secs d.cache.length,[]⟩):=ι (by unfold xY;rw[Ah hr]);clear hr;go_wp2_with fail
  refine HPF.o.mono ?_;rintro e w2 ⟨g,rfl,hs,hg,hb2⟩;have HT2:=ι (xC xZ4.o hb2 (xH xZ4.o));have HS2:=ι hs;have HB2:=ι (bT HB1.o hb2);have hgw:w.heap.size+1<g:=by have:=xH xZ4.o;omega
  clear HPF hs hg hb2 yMh xZ4 HB1 k0 k1;have j0:=xA HT2.o 0;have j1:=xA HT2.o 1;have y0:=xG HT2.o 0;have y1:=xG HT2.o 1;have hB:=yD (yD HT2.o 0 (.slice (some (θ g 0)) d.secs.length d.secs.length)) 1 (.slice none 0 0);have f0:=xA hB 0;have f1:=xA hB 1
  simp only[Ba,Bh,Cm,gA,gC,gB] at f0 f1;clear hB;go_wp2;refine Ak (v:=.agg #[.slice (some (θ g 0)) d.secs.length d.secs.length,.slice none 0 0]) (by simp[results,results47,go_sem,f0,f1]) rfl ?_
  have hb:=(HB2.o.setCell (p:=(θ (w.heap.size+1) 0)) σ (.slice (some (θ g 0)) d.secs.length d.secs.length)).setCell (p:=(θ (w.heap.size+1) 1)) σ (.slice none 0 0)
  have hs2:=(HS2.o.far (p:=(θ (w.heap.size+1) 0)) (by simp;omega) (.slice (some (θ g 0)) d.secs.length d.secs.length)).far (p:=(θ (w.heap.size+1) 1)) (by simp;omega) (.slice none 0 0);refine⟨_,_,rfl,?_,λ_=>⟨g,rfl,?_⟩,hb⟩
  ·rw[HF.o];refine⟨?_,RdW.xJj _ _,?_,σ⟩
   ·have hl:=xAv (λ_=>true) d.cache d.secs d.cache.length;have:=hs2.rd d.secs.length ω;rw[hl] at this;exact this.more hs2.lt
   ·show(kD _ _ _ _).length<=_;rw[xAv];exact HD.o.ls
  ·rw[HF.o];exact hs2
end Go.Proofs.DS
namespace Go.Proofs.DS
open Go.RowKit Mailsack MM BB SH
theorem xIv (va vb:Value) (d:Dk) (w:World) (h:RdD w w.heap.size va vb d):
  Calls prog 35 #[.agg #[va,vb]] w (pv (.bool (decide (61<d.secs.length)&&yP d)) w):=by
 obtain⟨A1,c1,rfl,_,_⟩:=h.s;obtain⟨A2,c2,rfl,_,_⟩:=h.c;have hb:=xJ w (yI (.slice A1 d.secs.length c1) (.slice A2 d.cache.length c2));have HB:=ι (φ w (yI (.slice A1 d.secs.length c1) (.slice A2 d.cache.length c2)))
 have HRT:=ι (λW (hb:ψ w W)=>qX _ _ d W ((h.below hb ν).more hb.size));have k0:=xA hb 0;have k1:=xA hb 1;clear h hb
 by_cases hl:61<d.secs.length
 ·have hi:61<(d.secs.length:Int):=ω;have HD:Hid (decide (61<d.secs.length)=true):=ι (by simpa using hl);go_enter func35,ntmps35;go_wp2_with fail
  refine cM (HRT.o _ HB.o) λw1 hb1=>?_;have HB1:=ι (bT HB.o hb1);have HE:Hid ((decide (61<d.secs.length)&&yP d)=yP d):=ι (by rw[HD.o,Ed]);clear hb1;go_wp2;go_ret;exact⟨by rw[HE.o];rfl,HB1.o⟩
 ·have hi:¬(61<(d.secs.length:Int)):=ω;have HE:Hid ((decide (61<d.secs.length)&&yP d)=false):=ι (by simp[hl]);go_enter func35,ntmps35;go_wp2;go_ret;exact⟨rfl,HB.o⟩
end Go.Proofs.DS
namespace Go.Proofs.BB
open Go.RowKit Mailsack MM
theorem yFx {P:Program} (w:World) (base:Nat) (t u ty e:TypeId) (i:TypeInfo) (ht:P.underlying t=some (.slice e)) (hu:P.underlying u=some .string) (hi:P.info? e=some i) (hz:i.zero=some (.int .u8 0))
  (hsize:i.size=1) (hby:i.bytes=1) (g n cap:Nat) (xs:List Value) (hown:w.ownsRow base e 1 (.slice (some (θ g 0)) n cap) n xs) (s:ByteArray)
  (h63:n+s.size<=maxLen) (hbytes:n+s.size<=140737488355328) (hbase:base<=w.heap.size):
  ∃v' w',(Builtin.append_ #[t,u] ty #[.slice (some (θ g 0)) n cap,.string s]).run P w=.ok v' w'/\w'.ownsRow base e 1 v' (n+s.size) (xs++Lib.strCells s)/\w.grownBy w' (some g)/\
   (v'.ownBlock=some g∨v'.ownBlock=some w.heap.size):=by
 obtain⟨v',w',hr,h2,h3,_⟩:=Hu (P:=P) w base t u ty e i ht hu hi hz hsize hby _ n xs hown s h63 hbytes hbase;refine⟨v',w',hr,h2,h3,?_⟩;have hsmall:n+s.size<=9223372036854775807:=by simp only[maxLen] at h63;omega
 have hxl:xs.length=n:=by simpa using hown.1
 rcases hown.2 with ⟨h,_⟩|⟨g',cap',cur,h,hbg,hg,hnc,hcm,hcs,htake⟩
 ·cases h
 ·injection h with h h' h'';injection h with h;injection h with h;subst h h''
  by_cases hroom:n+s.size<=cap
  ·have hcs':cur.size=cap:=by simpa using hcs
   have hq:=Lib.run_append_room_string (P:=P) w t u ty e i ht hu hi hsize g n cap cur hg s hroom ω;rw[hq] at hr;injection hr with hv hw;exact .inl (by rw[<-hv];rfl)
  ·have holds:∀j u,xs[j]?=some u->w.cell? ((⟨g,0,none⟩:Addr).add j)=some u:=hown.cells (g:=g) rfl
   have hq:=Lib.run_append_grow_string (P:=P) w t u ty e i (.int .u8 0) ht hu hi hz (θ g 0) n cap xs (by rw[hsize];simpa using hxl) holds s ω ω (by rw[hby];exact growslice_fits ω ω);rw[hq] at hr;injection hr with hv hw;exact .inr (by rw[<-hv];rfl)
theorem xIm {P:Program} {w:World} {ops:Array Oper} {rest:List Oper} {o:Oper} {a:Act} {Q:Exit->Act->World->Prop} (hgd:o.guard=none) (sl x:Operand) (t u:TypeId)
  (ho:o.op=.call {callee:=.builtin .append,args:=#[sl,x],argTypes:=#[t,u]})
  (base:Nat) (e:TypeId) (i:TypeInfo) (ht:P.underlying t=some (.slice e)) (hu:P.underlying u=some .string) (hi:P.info? e=some i) (hz:i.zero=some (.int .u8 0))
  (hsize:i.size=1) (hby:i.bytes=1)
  (g n cap:Nat) (xs:List Value) (hs:a.eval sl=.slice (some (θ g 0)) n cap) (hown:w.ownsRow base e 1 (.slice (some (θ g 0)) n cap) n xs) (s:ByteArray) (hx:a.eval x=.string s)
  (h63:n+s.size<=maxLen) (hbytes:n+s.size<=140737488355328) (hbase:base<=w.heap.size)
  (h:∀v' w',w'.ownsRow base e 1 v' (n+s.size) (xs++Lib.strCells s)->w.grownBy w' (some g)->(v'.ownBlock=some g∨v'.ownBlock=some w.heap.size)->wpList P ops Q rest (a.put o.dst v') w'):wpList P ops Q (o::rest) a w:=by
 refine Hr hgd λK hK=>?_;obtain⟨v',w',hr,h2,h3,h4⟩:=yFx (P:=P) w base t u o.type e i ht hu hi hz hsize hby g n cap xs hown s h63 hbytes hbase;unfold Oper.wp execOp
 simp only[ho,resolve,invoke,builtin,Gu,Sem.run_pure,Gy,Gl,Du,Ht,hs,hx,hr];exact hK _ _ (h v' w' h2 h3 h4)
theorem xY6:(prog.info? 5).map (λi=>(i.zero,i.size,i.bytes))=some (some (.int .u8 0),1,1):=κ
theorem jL {P:Program} {t:TypeId} {z:Value} {n b:Nat} (h:(P.info? t).map (λi=>(i.zero,i.size,i.bytes))=some (some z,n,b)):∃i,P.info? t=some i/\i.zero=some z/\i.size=n/\i.bytes=b:=by
 cases hq:P.info? t with
 |none=>rw[hq] at h;cases h
 |some i=>
  rw[hq] at h;simp only[Fe,Ez,Prod.mk.injEq] at h;exact⟨i,rfl,h.1,h.2.1,h.2.2⟩
def vX (w:World) (base:Nat) (v:Value) (l:Bs):Prop:=w.ownsRow base 5 1 v l.length (l.map λc=>Value.int .u8 (c.toNat:Int))
theorem vX.row {w:World} {base:Nat} {v:Value} {l:Bs} (h:vX w base v l):w.ownsRow base 5 1 v l.length (l.map λc=>Value.int .u8 (c.toNat:Int)):=h
theorem vX.of {w:World} {base:Nat} {v:Value} {l m:Bs} (h:w.ownsRow base 5 1 v (l.length+m.length) (l.map (λc=>Value.int .u8 (c.toNat:Int))++m.map (λc=>Value.int .u8 (c.toNat:Int)))):vX w base v (l++m):=by
 unfold vX;rw[Aj,Da];exact h
theorem vX.alloc {w:World} {base:Nat} {v:Value} {l:Bs} (h:vX w base v l) (o:Obj):vX (w.alloc o) base v l:=Hw h o
theorem vX.grown {w w':World} {base:Nat} {v:Value} {l:Bs} {row:Option Nat} (h:vX w base v l) (hg:w.grownBy w' row) (hne:v.ownBlock=none∨v.ownBlock≠row):vX w' base v l:=h.row.kept hg hne
theorem vX.below {w w':World} {base:Nat} {v:Value} {l:Bs} (h:vX w base v l) (hb:ψ w w'):vX w' base v l:=
 h.grown (xEq hb none) (by cases v.ownBlock<;>simp)
theorem vX.drew {w:World} {base:Nat} {v:Value} {l:Bs} (h:vX w base v l):vX w.drew base v l:=h
theorem vX.form {w:World} {base:Nat} {v:Value} {l:Bs} (h:vX w base v l):∃A c,v=.slice A l.length c/\l.length<=c:=by
 rcases h.2 with ⟨h1,h2⟩|⟨g,cap,cur,h1,_,_,h2,_⟩
 ·exact⟨none,0,by rw[h1,h2],ω⟩
 ·exact⟨_,_,h1,h2⟩
theorem vX.room (w:World) (c:Nat) (base:Nat) (hb:base<=w.heap.size) (hc:c<=9223372036854775807):vX (w.alloc (.cells (yO (xO c)) 5)) base (.slice (some (θ w.heap.size 0)) 0 c) []:=
 ⟨rfl,.inr ⟨w.heap.size,c,_,rfl,hb,xJ _ _,Bc _,by unfold maxLen;exact hc,by rw[wJ,yR,Gr],σ⟩⟩
theorem vX.head {w:World} {g:Nat} {l:Bs} (h:kG w g l) (n:Nat) (base:Nat) (hb:base<=g) (hn:n<=l.length) (hc:l.length<=9223372036854775807):vX w base (.slice (some (θ g 0)) n l.length) (l.take n):=by
 have hl:(l.take n).length=n:=by rw[Ck];omega
 unfold vX;rw[hl];refine⟨by simp;omega,.inr ⟨g,l.length,_,rfl,hb,h.blk,hn,by unfold maxLen;exact hc,by rw[wJ,Gr],?_⟩⟩;rw[Gr,List.map_take]
 rfl
theorem vX.text {w:World} {base:Nat} {v:Value} {l:Bs} (h:vX w base v l):(convert 96 9 v).run prog w=.ok (xR l) w:=by
 rcases h.2 with ⟨h1,h2⟩|⟨g,cap,cur,h1,_,_,h2,_⟩
 ·have:l=[]:=Cs h2;subst this;have h0:∀W:World,(convert 96 9 (.slice none 0 0)).run prog W=.ok (.string ⟨#[]⟩) W:=λ_=>by kernel_rfl
  rw[h1];exact h0 w
 ·rw[h1];refine Dl w _ _ 5 (θ g 0) cap l underlying96 underlying5 underlying9 (λj hj=>?_);exact Eh h (g:=g) (by rw[h1];rfl) j _ (by simp[hj])
theorem xXf {w w2 w1:World} {B n:Nat} {tv:Value} {xs:List Value} {E:TypeId} {o:Obj} (hT:w2.ownsRow B E 1 tv n xs) (hg:(w2.alloc o).grownBy w1 tv.ownBlock) (hb:Below B w w2) (hB:B<=w2.heap.size):Below B w w1:=
 (hb.alloc hB o).grown hg (by simp;omega) (λk hk=>(Di hT k hk).1)
theorem yE7 (w:World) (xs:List Value) (t:TypeId):∀j u,xs[j]?=some u->(w.alloc (.cells xs.toArray t)).cell? ((⟨w.heap.size,0,none⟩:Addr).add j)=some u:=by
 intro j u hj;have hadd:(⟨w.heap.size,0,none⟩:Addr).add j=⟨w.heap.size,j,none⟩:=by unfold Addr.add;split<;>simp_all
 rw[hadd,xA (xJ w (.cells xs.toArray t)) j];simpa using hj
end Go.Proofs.BB
namespace Mailsack
structure S8 where
 a:Int
 b:Int
 c:Int
 d:Int
 e:Int
 f:Int
 g:Int
 h:Int
def S8.list (s:S8):List Int:=[s.a,s.b,s.c,s.d,s.e,s.f,s.g,s.h]
def S8.ok (s:S8):Prop:=U32 s.a/\U32 s.b/\U32 s.c/\U32 s.d/\U32 s.e/\U32 s.f/\U32 s.g/\U32 s.h
def xBr:List Int:=[0x428a2f98,0x71374491,0xb5c0fbcf,0xe9b5dba5,0x3956c25b,0x59f111f1,0x923f82a4,0xab1c5ed5,
 0xd807aa98,0x12835b01,0x243185be,0x550c7dc3,0x72be5d74,0x80deb1fe,0x9bdc06a7,0xc19bf174,
 0xe49b69c1,0xefbe4786,0x0fc19dc6,0x240ca1cc,0x2de92c6f,0x4a7484aa,0x5cb0a9dc,0x76f988da,
 0x983e5152,0xa831c66d,0xb00327c8,0xbf597fc7,0xc6e00bf3,0xd5a79147,0x06ca6351,0x14292967,
 0x27b70a85,0x2e1b2138,0x4d2c6dfc,0x53380d13,0x650a7354,0x766a0abb,0x81c2c92e,0x92722c85,
 0xa2bfe8a1,0xa81a664b,0xc24b8b70,0xc76c51a3,0xd192e819,0xd6990624,0xf40e3585,0x106aa070,
 0x19a4c116,0x1e376c08,0x2748774c,0x34b0bcb5,0x391c0cb3,0x4ed8aa4a,0x5b9cca4f,0x682e6ff3,
 0x748f82ee,0x78a5636f,0x84c87814,0x8cc70208,0x90befffa,0xa4506ceb,0xbef9a3f7,0xc67178f2]
def xY5:List Int:=[0x6a09e667,0xbb67ae85,0x3c6ef372,0xa54ff53a,0x510e527f,0x9b05688c,0x1f83d9ab,0x5be0cd19]
theorem yG0:qV xBr:=by
 intro i
 by_cases h:i<64
 ·have:∀j:Fin 64,0<=xBr.getD j 0/\xBr.getD j 0<4294967296:=by decide +kernel
  exact this ⟨i,h⟩
 ·rw[Aa,Bz (by simp[xBr];omega)];exact⟨δ,δ⟩
def sumE (s:S8):Int:=Go.bits .xor .u32 (Go.bits .xor .u32 (xLn s.e 26) (xLn s.e 21)) (xLn s.e 7)
def chE (s:S8):Int:=Go.bits .xor .u32 (Go.bits .and .u32 s.e s.f) (Go.bits .and .u32 (Go.bits .xor .u32 (if Go.IntKind.u32.signed=true then -1 else Go.IntKind.u32.max) s.e) s.g)
def sumA (s:S8):Int:=Go.bits .xor .u32 (Go.bits .xor .u32 (xLn s.a 30) (xLn s.a 19)) (xLn s.a 10)
def majA (s:S8):Int:=Go.bits .xor .u32 (Go.bits .xor .u32 (Go.bits .and .u32 s.a s.b) (Go.bits .and .u32 s.a s.c)) (Go.bits .and .u32 s.b s.c)
def rnd (K W:Int) (s:S8):S8:=
 ⟨((s.h+sumE s+chE s+K+W) % 4294967296+(sumA s+majA s) % 4294967296) % 4294967296,s.a,s.b,s.c,(s.d+(s.h+sumE s+chE s+K+W) % 4294967296) % 4294967296,s.e,s.f,s.g⟩
theorem rnd_ok (K W:Int) {s:S8} (h:s.ok):(rnd K W s).ok:=by
 obtain⟨ha,hb,hc,hd,he,hf,hg,hh⟩:=h;exact⟨jV _,ha,hb,hc,jV _,he,hf,hg⟩
def rounds (ws:List Int) (s:S8):Nat->S8
 |0=>s
 |k+1=>rnd (xBr.getD k 0) (ws.getD k 0) (rounds ws s k)
theorem xPq (ws:List Int) {s:S8} (h:s.ok):∀k,(rounds ws s k).ok
 |0=>h
 |k+1=>rnd_ok _ _ (xPq ws h k)
def add8 (s r:S8):S8:=⟨(s.a+r.a) % 4294967296,(s.b+r.b) % 4294967296,(s.c+r.c) % 4294967296,(s.d+r.d) % 4294967296,(s.e+r.e) % 4294967296,(s.f+r.f) % 4294967296,(s.g+r.g) % 4294967296,(s.h+r.h) % 4294967296⟩
def xHp (s:S8) (b:ByteArray):S8:=add8 s (rounds (xAu b) s 64)
theorem yEg (s:S8) (b:ByteArray):(xHp s b).ok:=⟨jV _,jV _,jV _,jV _,jV _,jV _,jV _,jV _⟩
end Mailsack
namespace Go.Proofs.SH
open Go.RowKit Mailsack MM
structure jE (w:World):Prop where
 ini:∃t fr,w.heap[0]?=some (.cells (zJ xY5) t fr)
 rnd:∃t fr,w.heap[2]?=some (.cells (zJ xBr) t fr)
theorem jE.below {w w':World} {B:Nat} (h:jE w) (hb:Below B w w') (hB:w.heap.size<=B):jE w':=by
 obtain⟨⟨t,fr,h1⟩,t2,fr2,h2⟩:=h;exact⟨⟨t,fr,xC h1 hb (Bt (xH h1) hB)⟩,t2,fr2,xC h2 hb (Bt (xH h2) hB)⟩
theorem kR {P:Program} {t e:TypeId} {n:Nat} {k:IntKind} (ht:P.underlying t=some (.array n e)) (he:P.underlying e=some (.int k)) (hs:(P.info? e).map (·.size)=some 1) (cs:Array Value) (v:Value) (i:Nat) (hi:i<n) (hv:cs[i]?=some v) (w:World):
  (Instr.index t (.agg cs) (.int .i64 (i:Int))).run P w=.ok v w:=by
 have hz:∀w,(sizeOf e).run P w=.ok 1 w:=λw=>by
  cases hq:P.info? e with
  |none=>simp[hq] at hs
  |some j=>
   simp[hq] at hs;simp[sizeOf,typeInfo,hq,hs]
 have ha:∀w,(isAgg e).run P w=.ok false w:=λw=>by
  unfold isAgg;rw[Gu,run_underlying he]
  rfl
 simp[Instr.index,asIntOf,run_underlying ht,hi,hz,part,ha,hv]
structure xRx (w:World) (s ws:List Int) (g:Nat) (W:World):Prop where
 st:W.heap[w.heap.size]?=some (.cells (zJ s) 206 (0,0))
 res:W.heap[w.heap.size+1]?=some (.cells (zJ (List.replicate 8 0)) 206 (0,0))
 wd:W.heap[g]?=some (.cells (zJ ws) 251 (0,0))
 tab:jE W
 bel:ψ w W
theorem jE.drew {w:World} (h:jE w):jE w.drew:=⟨h.ini,h.rnd⟩
theorem xRx.drew {w:World} {s ws:List Int} {g:Nat} {W:World} (h:xRx w s ws g W):xRx w s ws g W.drew:=⟨h.st,h.res,h.wd,h.tab.drew,h.bel.drew⟩
theorem xBb {w W:World} (h:ψ w W) (i:Nat) (u:Value):ψ w (W.setCell (θ (w.heap.size+1) i) u):=h.setCell (p:=(θ (w.heap.size+1) i)) (Nat.le_succ _) u
theorem yEf (S:S8) (b:ByteArray) (w:World) (hS:S.ok) (hb:b.size=64) (hT:jE w):
  Calls prog 132 #[.agg (zJ S.list),.string b] w (pv (.agg (zJ (xHp S b).list)) w):=by
 have HT:=ι hT;have HSch:=ι (λW=>xPj b W hb);have HWl:(xAu b).length=64:=xFm b 48;have HWu:=ι (show qV (xAu b) from yAx b 48);have HI:Hid ((prog.info? 251).map (·.size)=some (zJ (xAu b)).size):=ι (by rw[zK,HWl];kernel_rfl)
 have HO:Hid ((zJ (List.replicate 64 0)).size=(zJ (xAu b)).size):=ι (by rw[zK,zK,HWl,Cv]);have H1:=ι (xB7 (xAu b));clear hT;have HF:Hid (xHp S b=add8 S (rounds (xAu b) S 64)):=ι rfl;have HS:=ι hS;generalize xHp S b=R at HF⊢
 generalize xAu b=ws at HSch HWl HWu HI HO H1 HF;obtain⟨s0,s1,s2,s3,s4,s5,s6,s7⟩:=S;obtain⟨⟨l0,m0⟩,⟨l1,m1⟩,⟨l2,m2⟩,⟨l3,m3⟩,⟨l4,m4⟩,⟨l5,m5⟩,⟨l6,m6⟩,⟨l7,m7⟩⟩:=hS;simp only at l0 m0 l1 m1 l2 m2 l3 m3 l4 m4 l5 m5 l6 m6 l7 m7
 show Calls _ _ #[.agg #[.int .u32 s0,.int .u32 s1,.int .u32 s2,.int .u32 s3,.int .u32 s4,.int .u32 s5,.int .u32 s6,.int .u32 s7],.string b] w _;go_enter func132,ntmps132;go_wp2_with fail
 refine cM (HSch.o _) λw1 hb1=>?_;have ha1:=(φ w (.cells (zJ [s0,s1,s2,s3,s4,s5,s6,s7]) 206)).alloc σ (.cells (zJ (List.replicate 8 0)) 206)
 have HB:Hid (xRx w [s0,s1,s2,s3,s4,s5,s6,s7] ws w1.heap.size (w1.alloc (.cells (zJ ws) 251))):=ι ⟨
  xN (xC (zM w (.cells (zJ [s0,s1,s2,s3,s4,s5,s6,s7]) 206) (.cells (zJ (List.replicate 8 0)) 206)) hb1 (by simp;omega)) _,
  xN (xC (zI w (.cells (zJ [s0,s1,s2,s3,s4,s5,s6,s7]) 206) (.cells (zJ (List.replicate 8 0)) 206)) hb1 σ) _,
  xJ _ _,
  HT.o.below ((bT ha1 hb1).alloc (Bg ha1.size hb1.size) _) ν,
  (bT ha1 hb1).alloc (Bg ha1.size hb1.size) _⟩
 clear hb1 ha1 HT HSch
 have hst:(storeCells (θ w1.heap.size 0) (zJ ws).toList).run prog (w1.alloc (.cells #[.int .u32 0,.int .u32 0,.int .u32 0,.int .u32 0,.int .u32 0,.int .u32 0,.int .u32 0,.int .u32 0,.int .u32 0,.int .u32 0,.int .u32 0,.int .u32 0,.int .u32 0,.int .u32 0,.int .u32 0,.int .u32 0,.int .u32 0,.int .u32 0,.int .u32 0,.int .u32 0,.int .u32 0,.int .u32 0,.int .u32 0,.int .u32 0,.int .u32 0,.int .u32 0,.int .u32 0,.int .u32 0,.int .u32 0,.int .u32 0,.int .u32 0,.int .u32 0,.int .u32 0,.int .u32 0,.int .u32 0,.int .u32 0,.int .u32 0,.int .u32 0,.int .u32 0,.int .u32 0,.int .u32 0,.int .u32 0,.int .u32 0,.int .u32 0,.int .u32 0,.int .u32 0,.int .u32 0,.int .u32 0,.int .u32 0,.int .u32 0,.int .u32 0,.int .u32 0,.int .u32 0,.int .u32 0,.int .u32 0,.int .u32 0,.int .u32 0,.int .u32 0,.int .u32 0,.int .u32 0,.int .u32 0,.int .u32 0,.int .u32 0,.int .u32 0] 251))=.ok () (w1.alloc (.cells (zJ ws) 251)):=run_storeCells_new w1 _ _ _ HI.o HO.o H1.o
 have hsz:(zJ ws).size=64:=by rw[zK,HWl]
 go_upto_region 4 with fail
 clear hst hsz;generalize w1.alloc (.cells (zJ ws) 251)=w2 at HB⊢;generalize w1.heap.size=g1 at HB⊢;refine RG.xU (λW=>Hid (xRx w [s0,s1,s2,s3,s4,s5,s6,s7] ws g1 W)) κ κ (ι HB.o.drew) ?_
 iterate 12
  apply RG.xL
  ·intro w9 hw9;have q0:w9.cell? (θ w.heap.size 0)=some (.int .u32 s0):=xA hw9.o.st 0;have q1:w9.cell? (θ w.heap.size 1)=some (.int .u32 s1):=xA hw9.o.st 1;have q2:w9.cell? (θ w.heap.size 2)=some (.int .u32 s2):=xA hw9.o.st 2
   have q3:w9.cell? (θ w.heap.size 3)=some (.int .u32 s3):=xA hw9.o.st 3;repeat go_step
   exact RG.xE hw9
  ·rfl
 refine RG.xX (λw3 hw3=>?_);clear HB;go_upto_region 5 with fail
 refine RG.xU (λW=>Hid (xRx w [s0,s1,s2,s3,s4,s5,s6,s7] ws g1 W)) κ κ (ι hw3.o.drew) ?_
 iterate 12
  apply RG.xL
  ·intro w9 hw9;have q0:w9.cell? (θ w.heap.size 4)=some (.int .u32 s4):=xA hw9.o.st 4;have q1:w9.cell? (θ w.heap.size 5)=some (.int .u32 s5):=xA hw9.o.st 5;have q2:w9.cell? (θ w.heap.size 6)=some (.int .u32 s6):=xA hw9.o.st 6
   have q3:w9.cell? (θ w.heap.size 7)=some (.int .u32 s7):=xA hw9.o.st 7;repeat go_step
   exact RG.xE hw9
  ·rfl
 refine RG.xX (λw4 hw4=>?_);clear hw3;go_wp2_with (refine Ao rfl _ _ rfl g1 rfl _ _ (0,0) _ hw4.o.wd underlying251 rfl HI.o ?_)
 go_loopw [6,7,8,9,10,11,12,13,45] (λva vb vc vd ve vf vg vh iv wr=>∃(k:Nat) (a b c d e f g h:Int),k<=64/\iv=.int .i64 k/\va=.int .u32 a/\vb=.int .u32 b/\vc=.int .u32 c/\vd=.int .u32 d/\ve=.int .u32 e/\vf=.int .u32 f/\vg=.int .u32 g/\vh=.int .u32 h/\Hid ((⟨a,b,c,d,e,f,g,h⟩:S8)=rounds ws ⟨s0,s1,s2,s3,s4,s5,s6,s7⟩ k/\xRx w [s0,s1,s2,s3,s4,s5,s6,s7] ws g1 wr)) (λ_ _ _ _ _ _ _ _ iv _=>64- (intOf iv).toNat)
 case atStart=>exact⟨0,s0,s1,s2,s3,s4,s5,s6,s7,δ,rfl,rfl,rfl,rfl,rfl,rfl,rfl,rfl,rfl,ι ⟨rfl,hw4.o⟩⟩
 case round=>
  obtain⟨k,xa,xb,xc,xd,xe,xf,xg,xh,hk,rfl,rfl,rfl,rfl,rfl,rfl,rfl,rfl,rfl,hr⟩:=hrel;clear hw4
  by_cases hlt:k<64
  ·have HBK:=ι hr.o.2;have hok:=xPq ws HS.o k;rw[<-hr.o.1] at hok;have HRR:=ι hr.o.1;obtain⟨ua,ub,uc,ud,ue,uf,ug,uh⟩:=hok;clear hr;simp only at ua ub uc ud ue uf ug uh;obtain⟨W,hW⟩:=eX (ws.getD k 0);have uW:=HWu.o k;rw[hW] at uW
   have ix:=λw=>kR (P:=prog) underlying251 underlying181 κ (zJ ws) (.int .u32 W) k hlt (by rw[wG ω,hW]) w;obtain⟨K,hK⟩:=eX (xBr.getD k 0);have uK:=yG0 k;rw[hK] at uK
   have gK:∀X,Hid (xRx w [s0,s1,s2,s3,s4,s5,s6,s7] ws g1 X)->X.cell? (θ 2 k)=some (.int .u32 K):=λX h=>by
    obtain⟨t,fr,hh⟩:=h.o.tab.rnd;rw[Ga _ _ _ _ _ _ hh,wG (by simp[xBr];omega),hK]
   have GK:=ι gK;have R1:=ι (λX=>pR xe (-6) 26 X ue δ δ);have R2:=ι (λX=>pR xe (-11) 21 X ue δ δ);have R3:=ι (λX=>pR xe (-25) 7 X ue δ δ);have R4:=ι (λX=>pR xa (-2) 30 X ua δ δ);have R5:=ι (λX=>pR xa (-13) 19 X ua δ δ);have R6:=ι (λX=>pR xa (-22) 10 X ua δ δ)
   have HU:Hid (rnd K W ⟨xa,xb,xc,xd,xe,xf,xg,xh⟩=rounds ws ⟨s0,s1,s2,s3,s4,s5,s6,s7⟩ (k+1)):=ι (by rw[HRR.o,<-hK,<-hW];rfl);obtain⟨ua0,ua1⟩:=ua;obtain⟨ub0,ub1⟩:=ub;obtain⟨uc0,uc1⟩:=uc;obtain⟨ud0,ud1⟩:=ud;obtain⟨ue0,ue1⟩:=ue;obtain⟨uf0,uf1⟩:=uf;obtain⟨ug0,ug1⟩:=ug
   obtain⟨uh0,uh1⟩:=uh;obtain⟨uW0,uW1⟩:=uW;obtain⟨uK0,uK1⟩:=uK;clear gK hW hK;go_upto_region 9 with fail
   clear ix;refine RG.zT (λX=>Hid (xRx w [s0,s1,s2,s3,s4,s5,s6,s7] ws g1 X)) HBK ?_;refine RG.dS ?_;apply RG.xL
   ·intro w9 hw9;repeat go_step
    refine(R1.o _).mono ?_;rintro e w10 ⟨rfl,rfl⟩;simp only[];repeat go_step
    exact RG.xE hw9
   ·rfl
   refine RG.dS ?_;apply RG.xL
   ·intro w9 hw9;repeat go_step
    refine(R2.o _).mono ?_;rintro e w10 ⟨rfl,rfl⟩;simp only[];repeat go_step
    exact RG.xE hw9
   ·rfl
   iterate 2 refine RG.dS ?_
   apply RG.xL
   ·intro w9 hw9;repeat go_step
    refine(R3.o _).mono ?_;rintro e w10 ⟨rfl,rfl⟩;simp only[];repeat go_step
    exact RG.xE hw9
   ·rfl
   iterate 2 refine RG.dS ?_
   refine RG.xX (λw5 hw5=>?_);clear HBK;go_upto_region 10 with fail
   refine RG.zT (λX=>Hid (xRx w [s0,s1,s2,s3,s4,s5,s6,s7] ws g1 X)) hw5 ?_;clear hw5;iterate 9 refine RG.dS ?_
   refine RG.xX (λw5 hw5=>?_);go_upto_region 11 with fail
   refine RG.zT (λX=>Hid (xRx w [s0,s1,s2,s3,s4,s5,s6,s7] ws g1 X)) hw5 ?_;clear hw5;iterate 6 refine RG.dS ?_
   iterate 2 refine RG.dF (λw9 hw9=>GK.o _ hw9) ?_
   iterate 4 refine RG.dS ?_
   refine RG.xX (λw5 hw5=>?_);go_upto_region 12 with fail
   refine RG.zT (λX=>Hid (xRx w [s0,s1,s2,s3,s4,s5,s6,s7] ws g1 X)) hw5 ?_;clear hw5;refine RG.dS ?_;apply RG.xL
   ·intro w9 hw9;repeat go_step
    refine(R4.o _).mono ?_;rintro e w10 ⟨rfl,rfl⟩;simp only[];repeat go_step
    exact RG.xE hw9
   ·rfl
   refine RG.dS ?_;apply RG.xL
   ·intro w9 hw9;repeat go_step
    refine(R5.o _).mono ?_;rintro e w10 ⟨rfl,rfl⟩;simp only[];repeat go_step
    exact RG.xE hw9
   ·rfl
   iterate 2 refine RG.dS ?_
   apply RG.xL
   ·intro w9 hw9;repeat go_step
    refine(R6.o _).mono ?_;rintro e w10 ⟨rfl,rfl⟩;simp only[];repeat go_step
    exact RG.xE hw9
   ·rfl
   iterate 2 refine RG.dS ?_
   refine RG.xX (λw5 hw5=>?_);go_upto_region 13 with fail
   refine RG.zT (λX=>Hid (xRx w [s0,s1,s2,s3,s4,s5,s6,s7] ws g1 X)) hw5 ?_;clear hw5;iterate 12 refine RG.dS ?_
   refine RG.xX (λw5 hw5=>?_);go_upto_region 14 with fail
   refine RG.zT (λX=>Hid (xRx w [s0,s1,s2,s3,s4,s5,s6,s7] ws g1 X)) hw5 ?_;clear hw5;iterate 4 refine RG.dS ?_
   refine RG.xX (λw5 hw5=>?_);go_upto_region 15 with fail
   refine RG.zT (λX=>Hid (xRx w [s0,s1,s2,s3,s4,s5,s6,s7] ws g1 X)) hw5 ?_;clear hw5;iterate 10 refine RG.dS ?_
   refine RG.xX (λw5 hw5=>?_);go_upto_region 16 with fail
   refine RG.zT (λX=>Hid (xRx w [s0,s1,s2,s3,s4,s5,s6,s7] ws g1 X)) hw5 ?_;clear hw5;iterate 10 refine RG.dS ?_
   refine RG.xX (λw5 hw5=>?_);go_wp2;exact⟨⟨k+1,_,_,_,_,_,_,_,_,ω,by go_num,rfl,rfl,rfl,rfl,rfl,rfl,rfl,rfl,ι ⟨HU.o,hw5.o⟩⟩,by simp[intOf];omega⟩
  ·obtain rfl:k=64:=ω;rw[<-hr.o.1] at HF;have q0:wr.cell? (θ w.heap.size 0)=some (.int .u32 s0):=xA hr.o.2.st 0;have q1:wr.cell? (θ w.heap.size 1)=some (.int .u32 s1):=xA hr.o.2.st 1;have q2:wr.cell? (θ w.heap.size 2)=some (.int .u32 s2):=xA hr.o.2.st 2
   have q3:wr.cell? (θ w.heap.size 3)=some (.int .u32 s3):=xA hr.o.2.st 3;have q4:wr.cell? (θ w.heap.size 4)=some (.int .u32 s4):=xA hr.o.2.st 4;have q5:wr.cell? (θ w.heap.size 5)=some (.int .u32 s5):=xA hr.o.2.st 5
   have q6:wr.cell? (θ w.heap.size 6)=some (.int .u32 s6):=xA hr.o.2.st 6;have q7:wr.cell? (θ w.heap.size 7)=some (.int .u32 s7):=xA hr.o.2.st 7;have f0:wr.cell? (θ (w.heap.size+1) 0)=some (.int .u32 0):=xA hr.o.2.res 0;have x0:=xG hr.o.2.res 0
   have f1:wr.cell? (θ (w.heap.size+1) 1)=some (.int .u32 0):=xA hr.o.2.res 1;have x1:=xG hr.o.2.res 1;have f2:wr.cell? (θ (w.heap.size+1) 2)=some (.int .u32 0):=xA hr.o.2.res 2;have x2:=xG hr.o.2.res 2
   have f3:wr.cell? (θ (w.heap.size+1) 3)=some (.int .u32 0):=xA hr.o.2.res 3;have x3:=xG hr.o.2.res 3;have f4:wr.cell? (θ (w.heap.size+1) 4)=some (.int .u32 0):=xA hr.o.2.res 4;have x4:=xG hr.o.2.res 4
   have f5:wr.cell? (θ (w.heap.size+1) 5)=some (.int .u32 0):=xA hr.o.2.res 5;have x5:=xG hr.o.2.res 5;have f6:wr.cell? (θ (w.heap.size+1) 6)=some (.int .u32 0):=xA hr.o.2.res 6;have x6:=xG hr.o.2.res 6
   have f7:wr.cell? (θ (w.heap.size+1) 7)=some (.int .u32 0):=xA hr.o.2.res 7;have x7:=xG hr.o.2.res 7;have HRS:=ι hr.o.2.res;have HBL:=ι hr.o.2.bel;clear hr;go_wp2
   refine Ak (v:=.agg (zJ (add8 ⟨s0,s1,s2,s3,s4,s5,s6,s7⟩ ⟨xa,xb,xc,xd,xe,xf,xg,xh⟩).list)) (by simp[results,results132,go_sem,f0,f1,f2,f3,f4,f5,f6,f7];rfl) rfl ?_;rw[HF.o];refine⟨rfl,?_⟩;have h:=HBL.o
   clear f0 q0 x0 f1 q1 x1 f2 q2 x2 f3 q3 x3 f4 q4 x4 f5 q5 x5 f6 q6 x6 f7 q7 x7;have k0:=xBb h 0 (.int .u32 ((s0+xa) % 4294967296));have k1:=xBb k0 1 (.int .u32 ((s1+xb) % 4294967296));have k2:=xBb k1 2 (.int .u32 ((s2+xc) % 4294967296))
   have k3:=xBb k2 3 (.int .u32 ((s3+xd) % 4294967296));have k4:=xBb k3 4 (.int .u32 ((s4+xe) % 4294967296));have k5:=xBb k4 5 (.int .u32 ((s5+xf) % 4294967296));have k6:=xBb k5 6 (.int .u32 ((s6+xg) % 4294967296));have k7:=xBb k6 7 (.int .u32 ((s7+xh) % 4294967296))
   with_reducible exact k7
end Go.Proofs.SH
namespace Mailsack
def xZc (r:Bs):Nat:=if 64<r.length+9 then 128 else 64
def endA (r:Bs):Bs:=(r++(xO (xZc r)).drop r.length).set r.length (oct 128)
def xTk (r:Bs) (count:Int):Nat->Bs
 |0=>endA r
 |k+1=>(xTk r count k).set (xZc r-1-k) (oct (count / 2^(8*k)))
def endP (r:Bs) (count:Int):Bs:=xTk r count 8
theorem yLv (r:Bs) (h:r.length<64):r.length<xZc r:=by unfold xZc;split<;>omega
theorem xOg (r:Bs) (count:Int) (h:r.length<64):∀k,(xTk r count k).length=xZc r
 |0=>by have:=yLv r h;simp[xTk,endA,yR];omega
 |k+1=>by simp[xTk,xOg r count h k]
end Mailsack
namespace Go.Proofs.SH
open Go.RowKit Mailsack MM BB
theorem xYe (b:ByteArray) (count:Int) (w:World) (hb:b.size<64):
  Calls prog 133 #[.string b,.int .u64 count] w (pv (.string ⟨(endP b.data.toList count).toArray⟩) w):=by
 have hbl:b.data.toList.length=b.size:=σ;have HL:=ι (λk=>xOg b.data.toList count ω k)
 by_cases hn:64<b.size+9
 ·have HN:Hid (xZc b.data.toList=128):=ι (by unfold xZc;rw[Ah ω]);have hmk:∀W:World,(Instr.makeSlice 96 (.int .i64 128) (.int .i64 128)).run prog W=.ok (.slice (some (θ W.heap.size 0)) 128 128) (W.alloc (.cells (yO (xO 128)) 5)):=λW=>made W 128 128 δ δ
  have HB0:Hid (kG (w.alloc (.cells (yO (xO 128)) 5)) w.heap.size (xO 128)):=ι (xJ _ _);have HW0:=ι (φ w (.cells (yO (xO 128)) 5));go_enter func133,ntmps133;go_upto_region 5 with fail
  refine Bi ?_;iterate 6 go_step
  refine Gi _ rfl _ _ _ _ rfl _ _ rfl rfl (copied HB0.o _ _ _ _ ω (by rw[yR];omega)) ?_;have HB1:=ι (HB0.o.row (b.data.toList++(xO 128).drop b.size));have HW1:=ι (Bn HW0.o ν (yO (b.data.toList++(xO 128).drop b.size)));clear hmk HB0 HW0
  generalize (w.alloc (.cells (yO (xO 128)) 5)).setRow w.heap.size (yO (b.data.toList++(xO 128).drop b.size))=w1 at HB1 HW1⊢;have q0:=HB1.o.cell (i:=b.size) (by simp[yR];omega);have q1:=HB1.o.free b.size
  have HB2:Hid (kG (w1.setCell (θ w.heap.size b.size) (.int .u8 128)) w.heap.size (xTk b.data.toList count 0)):=ι (by
   have h:=HB1.o.put b.size 128;unfold xTk endA;rw[HN.o,hbl];exact h)
  have HW2:=ι (HW1.o.setCell (p:=θ w.heap.size b.size) ν (.int .u8 128));clear HB1 HW1;go_wp2_with fail
  clear q0 q1
  go_loopw [21] (λiv wr=>∃k:Nat,k<=8/\iv=.int .i64 k/\Hid (kG wr w.heap.size (xTk b.data.toList count k)/\ψ w wr)) (λiv _=>8- (intOf iv).toNat)
  case atStart=>exact⟨0,δ,rfl,ι ⟨HB2.o,HW2.o⟩⟩
  case round=>
   obtain⟨k,hk,rfl,hr⟩:=hrel;clear HB2 HW2
   by_cases hlt:k<8
   ·have q0:=hr.o.1.cell (i:=127-k) (by rw[HL.o k,HN.o];omega);have q1:=hr.o.1.free (127-k)
    have HK:Hid (kG (wr.setCell ⟨w.heap.size,127-k,none⟩ (.int .u8 (count / 2^(8*k) % 256))) w.heap.size (xTk b.data.toList count (k+1))):=ι (by
     have h:=hr.o.1.put (127-k) (count / 2^(8*k));unfold xTk;rw[HN.o];exact h)
    have HKW:=ι (hr.o.2.setCell (p:=⟨w.heap.size,127-k,none⟩) ν (.int .u8 (count / 2^(8*k) % 256)));clear hr;go_wp2;exact⟨⟨k+1,ω,by go_num,ι ⟨HK.o,HKW.o⟩⟩,by simp[intOf];omega⟩
   ·obtain rfl:k=8:=ω;have ht:=xIt hr.o.1 128 128 (by rw[HL.o 8,HN.o];exact Bd _);rw[Ce (by rw[HL.o 8,HN.o];exact Bd _)] at ht;have HBW:=ι hr.o.2;clear hr;go_wp2;go_ret;exact⟨rfl,HBW.o⟩
 ·have HN:Hid (xZc b.data.toList=64):=ι (by unfold xZc;rw[Ag ω]);have hmk:∀W:World,(Instr.makeSlice 96 (.int .i64 64) (.int .i64 64)).run prog W=.ok (.slice (some (θ W.heap.size 0)) 64 64) (W.alloc (.cells (yO (xO 64)) 5)):=λW=>made W 64 64 δ δ
  have HB0:Hid (kG (w.alloc (.cells (yO (xO 64)) 5)) w.heap.size (xO 64)):=ι (xJ _ _);have HW0:=ι (φ w (.cells (yO (xO 64)) 5));go_enter func133,ntmps133;go_upto_region 5 with fail
  refine Bi ?_;iterate 6 go_step
  refine Gi _ rfl _ _ _ _ rfl _ _ rfl rfl (copied HB0.o _ _ _ _ ω (by rw[yR];omega)) ?_;have HB1:=ι (HB0.o.row (b.data.toList++(xO 64).drop b.size));have HW1:=ι (Bn HW0.o ν (yO (b.data.toList++(xO 64).drop b.size)));clear hmk HB0 HW0
  generalize (w.alloc (.cells (yO (xO 64)) 5)).setRow w.heap.size (yO (b.data.toList++(xO 64).drop b.size))=w1 at HB1 HW1⊢;have q0:=HB1.o.cell (i:=b.size) (by simp[yR];omega);have q1:=HB1.o.free b.size
  have HB2:Hid (kG (w1.setCell (θ w.heap.size b.size) (.int .u8 128)) w.heap.size (xTk b.data.toList count 0)):=ι (by
   have h:=HB1.o.put b.size 128;unfold xTk endA;rw[HN.o,hbl];exact h)
  have HW2:=ι (HW1.o.setCell (p:=θ w.heap.size b.size) ν (.int .u8 128));clear HB1 HW1;go_wp2_with fail
  clear q0 q1
  go_loopw [21] (λiv wr=>∃k:Nat,k<=8/\iv=.int .i64 k/\Hid (kG wr w.heap.size (xTk b.data.toList count k)/\ψ w wr)) (λiv _=>8- (intOf iv).toNat)
  case atStart=>exact⟨0,δ,rfl,ι ⟨HB2.o,HW2.o⟩⟩
  case round=>
   obtain⟨k,hk,rfl,hr⟩:=hrel;clear HB2 HW2
   by_cases hlt:k<8
   ·have q0:=hr.o.1.cell (i:=63-k) (by rw[HL.o k,HN.o];omega);have q1:=hr.o.1.free (63-k)
    have HK:Hid (kG (wr.setCell ⟨w.heap.size,63-k,none⟩ (.int .u8 (count / 2^(8*k) % 256))) w.heap.size (xTk b.data.toList count (k+1))):=ι (by
     have h:=hr.o.1.put (63-k) (count / 2^(8*k));unfold xTk;rw[HN.o];exact h)
    have HKW:=ι (hr.o.2.setCell (p:=⟨w.heap.size,63-k,none⟩) ν (.int .u8 (count / 2^(8*k) % 256)));clear hr;go_wp2;exact⟨⟨k+1,ω,by go_num,ι ⟨HK.o,HKW.o⟩⟩,by simp[intOf];omega⟩
   ·obtain rfl:k=8:=ω;have ht:=xIt hr.o.1 64 64 (by rw[HL.o 8,HN.o];exact Bd _);rw[Ce (by rw[HL.o 8,HN.o];exact Bd _)] at ht;have HBW:=ι hr.o.2;clear hr;go_wp2;go_ret;exact⟨rfl,HBW.o⟩
end Go.Proofs.SH
namespace Mailsack
def xO4:S8:=⟨0x6a09e667,0xbb67ae85,0x3c6ef372,0xa54ff53a,0x510e527f,0x9b05688c,0x1f83d9ab,0x5be0cd19⟩
theorem xVi:xO4.ok:=⟨⟨δ,δ⟩,⟨δ,δ⟩,⟨δ,δ⟩,⟨δ,δ⟩,⟨δ,δ⟩,⟨δ,δ⟩,⟨δ,δ⟩,⟨δ,δ⟩⟩
def xRr (s:S8) (b:ByteArray):Nat->S8
 |0=>s
 |k+1=>xHp (xRr s b k) (b.extract (64*k) (64*k+64))
theorem xNb {s:S8} (h:s.ok) (b:ByteArray):∀k,(xRr s b k).ok
 |0=>h
 |_+1=>yEg _ _
theorem xPm (s:S8) (b:ByteArray) (k:Nat):xRr s b (k+1)=xHp (xRr s b k) (b.extract (64*k) (64*k+64)):=rfl
def xZu (x:Int):Bs:=[oct (x / 16777216),oct (x / 65536),oct (x / 256),oct x]
def xEj (l:List Int):Nat->Bs
 |0=>[]
 |k+1=>xEj l k++xZu (l.getD k 0)
theorem xGi (l:List Int):∀k,(xEj l k).length=4*k
 |0=>rfl
 |k+1=>by simp[xEj,xGi l k,xZu];omega
theorem xS2 (l:List Int) (k:Nat):xEj l (k+1)=xEj l k++xZu (l.getD k 0):=rfl
def xNc (b:ByteArray):ByteArray:=b.extract (64*(b.size / 64)) b.size
theorem xLr (b:ByteArray):(xNc b).size<64:=by unfold xNc;rw[Az];omega
def xKy (b:ByteArray):ByteArray:=⟨(endP (xNc b).data.toList ((b.size:Int)*8)).toArray⟩
def shaS (b:ByteArray):S8:=xRr (xRr xO4 b (b.size / 64)) (xKy b) ((xKy b).size / 64)
def xKz (b:ByteArray):Bs:=xEj (shaS b).list 8
theorem xC6 (b:ByteArray):(xKz b).length=32:=xGi _ 8
theorem yAh (b:ByteArray):(xKy b).size=xZc (xNc b).data.toList:=by
 have hz:(xNc b).data.toList.length<64:=by
  have:=xLr b;simpa using this
 have h:(endP (xNc b).data.toList ((b.size:Int)*8)).length=xZc (xNc b).data.toList:=by
  unfold endP;exact xOg _ _ hz 8
 unfold xKy;generalize endP (xNc b).data.toList ((b.size:Int)*8)=l at h;rw[<-h];simp[ByteArray.size]
theorem xX3 (b:ByteArray):(xKy b).size=64∨(xKy b).size=128:=by
 rw[yAh];unfold xZc;split
 ·exact .inr rfl
 ·exact .inl rfl
end Mailsack
namespace Go.Proofs.SH
open Go.RowKit Mailsack MM BB
structure xOv (w:World) (s:S8) (W:World):Prop where
 st:W.heap[w.heap.size]?=some (.cells (zJ s.list) 206 (0,0))
 bel:ψ w W
theorem xOv.drew {w:World} {s:S8} {W:World} (h:xOv w s W):xOv w s W.drew:=⟨h.st,h.bel.drew⟩
theorem xOv.below {w:World} {s:S8} {W W':World} (h:xOv w s W) (hb:ψ W W'):xOv w s W':=
 ⟨xC h.st hb (xH h.st),bT h.bel hb⟩
theorem xOv.put {w:World} {s:S8} {W:World} (h:xOv w s W) (s':S8):xOv w s' (W.setRow w.heap.size (zJ s'.list)):=
 ⟨Bp _ _ _ _ _ _ h.st,Bn h.bel ν _⟩
theorem xOv.tab {w:World} {s:S8} {W:World} (h:xOv w s W) (ht:jE w):jE W:=ht.below h.bel ν
theorem yDn (b:ByteArray):b.extract 0 b.size=b:=σ
theorem list_u {s:S8} (h:s.ok):qV s.list:=by
 obtain⟨h0,h1,h2,h3,h4,h5,h6,h7⟩:=h;intro i
 match i with
 |0=>exact h0
 |1=>exact h1
 |2=>exact h2
 |3=>exact h3
 |4=>exact h4
 |5=>exact h5
 |6=>exact h6
 |7=>exact h7
 |n+8=>
  rw[Aa,Bz (by simp[S8.list])];exact⟨δ,δ⟩
def SI (w:World) (s s':S8) (l0 l3 l4:Bool) (W:World):Prop:=(l3=true->l0=true)/\(l4=true->l3=true)/\xOv w (if l4 then s' else s) W
theorem SI.no4 {w:World} {s s':S8} {l0 l3 l4:Bool} {W:World} (h:SI w s s' l0 l3 l4 W) (h4:l4=false):xOv w s W:=by
 have:=h.2.2;rw[h4,Ag σ] at this;exact this
theorem SI.no3 {w:World} {s s':S8} {l0 l3 l4:Bool} {W:World} (h:SI w s s' l0 l3 l4 W) (h3:l3=false):xOv w s W:=
 h.no4 (by cases l4 with
  |false=>rfl
  |true=>rw[h3] at h;exact absurd (h.2.1 rfl) σ)
theorem SI.no0 {w:World} {s s':S8} {l0 l3 l4:Bool} {W:World} (h:SI w s s' l0 l3 l4 W) (h0:l0=false):xOv w s W:=
 h.no3 (by cases l3 with
  |false=>rfl
  |true=>rw[h0] at h;exact absurd (h.1 rfl) σ)
theorem SI.done0 {w:World} {s s':S8} {l0 l3 l4:Bool} {W:World} (h:SI w s s' l0 l3 l4 W) (_:l0=false):SI w s s' true l3 l4 W:=⟨λ_=>rfl,h.2.1,h.2.2⟩
theorem SI.done3 {w:World} {s s':S8} {l0 l3 l4:Bool} {W W':World} (h:SI w s s' l0 l3 l4 W) (h3:l3=false) (h0:l0=true) (hb:ψ W W'):SI w s s' l0 true l4 W':=by
 refine⟨λ_=>h0,λ_=>rfl,?_⟩
 have h4:l4=false:=by cases l4 with
  |false=>rfl
  |true=>rw[h3] at h;exact absurd (h.2.1 rfl) σ
 rw[h4,Ag σ];exact(h.no3 h3).below hb
theorem SI.done4 {w:World} {s s':S8} {l0 l3 l4:Bool} {W:World} (h:SI w s s' l0 l3 l4 W) (h4:l4=false) (h3:l3=true):SI w s s' l0 l3 true (W.setRow w.heap.size (zJ s'.list)):=by
 refine⟨h.1,λ_=>h3,?_⟩;rw[Ah rfl];exact(h.no4 h4).put s'
theorem xIu (b:ByteArray) (w:World) (hb:b.size<=1152921504606846976) (hT:jE w):
  Calls prog 86 #[.string b] w (pv (xR (xKz b)) w):=by
 have HT:=ι hT;have hi8:Hid (∀s:S8,(prog.info? 206).map (·.size)=some (zJ s.list).size):=ι (λs=>by rw[zK];kernel_rfl);have HBk:=ι (λ(S:S8) (c:ByteArray) (W:World) (h1:S.ok) (h2:c.size=64) (h3:jE W)=>yEf S c W h1 h2 h3);obtain⟨t1,fr1,yHf⟩:=hT.ini
 have i0:w.cell? (θ 0 0)=some (.int .u32 1779033703):=Ga _ _ _ _ _ _ yHf;have i1:w.cell? (θ 0 1)=some (.int .u32 3144134277):=Ga _ _ _ _ _ _ yHf;have i2:w.cell? (θ 0 2)=some (.int .u32 1013904242):=Ga _ _ _ _ _ _ yHf
 have i3:w.cell? (θ 0 3)=some (.int .u32 2773480762):=Ga _ _ _ _ _ _ yHf;have i4:w.cell? (θ 0 4)=some (.int .u32 1359893119):=Ga _ _ _ _ _ _ yHf;have i5:w.cell? (θ 0 5)=some (.int .u32 2600822924):=Ga _ _ _ _ _ _ yHf
 have i6:w.cell? (θ 0 6)=some (.int .u32 528734635):=Ga _ _ _ _ _ _ yHf;have i7:w.cell? (θ 0 7)=some (.int .u32 1541459225):=Ga _ _ _ _ _ _ yHf;clear yHf hT;have HS0:Hid (xOv w (xRr xO4 b 0) (w.alloc (.cells (zJ xO4.list) 206))):=ι ⟨xJ _ _,φ w _⟩
 go_enter func86,ntmps86;go_wp2_with fail
 clear i0 i1 i2 i3 i4 i5 i6 i7
 go_loopw [4] (λrv wr=>∃k:Nat,64*k<=(b).size/\rv=.string ((b).extract (64*k) (b).size)/\Hid (xOv w (xRr (xO4) (b) k) wr)) (λrv _=>lenOf rv)
 case atStart=>exact⟨0,ω,by rw[Nat.mul_zero,yDn],HS0⟩
 case round=>
  clear HS0;obtain⟨k,hk,rfl,hr⟩:=hrel
  by_cases hlt:64*k+64<=(b).size
  ·obtain⟨c,hc⟩:=eX ((b).extract (64*k) (b).size);have hcs:c.size=(b).size-64*k:=by rw[<-hc,Az];omega
   have HC0:Hid ((b).extract (64*k) (64*k+64)=c.extract 0 64):=ι (by rw[<-hc,Eg];congr 1;omega);have HC1:Hid ((b).extract (64*(k+1)) (b).size=c.extract 64 ((b).size-64*k)):=ι (by rw[<-hc,Eg];congr 1<;>omega);rw[hc];clear hc
   have hok:=xNb xVi (b) k;have HRS:=ι (xPm (xO4) (b) k);generalize xRr (xO4) (b) k=s at hr hok HRS;have HOK:=ι hok;clear hok;have hc64:64<=c.size:=ω;go_upto_region 4 with fail
   refine RG.vL [0,3,4] (λL W=>Hid (SI w s (xHp s (c.extract 0 64)) (L 0) (L 3) (L 4) W)) (λL L' W h hI=>by rw[<-h 0 δ,<-h 3 δ,<-h 4 δ];exact hI) κ κ δ (ι ⟨(by intro h;cases h),(by intro h;cases h),hr.o.drew⟩) ?_;apply RG.uV
   ·rfl
   ·intro L w9 h0 _ hw9;have hs:=hw9.o.no0 h0;refine Ao rfl _ _ rfl w.heap.size rfl _ _ (0,0) _ hs.st underlying206 rfl (hi8.o s) ?_;repeat go_step
    refine RG.xE ?_;exact ι (hw9.o.done0 h0)
   ·rfl
   iterate 2 refine RG.lS ?_
   apply RG.uV
   ·rfl
   ·intro L w9 h0 hd hw9;have hs:=hw9.o.no3 h0;repeat go_step
    refine(HBk.o s _ w9 HOK.o (by rw[Az];omega) (hs.tab HT.o)).mono ?_;rintro e w10 ⟨rfl,zO⟩;simp only[];repeat go_step
    refine RG.xE ?_;exact ι (hw9.o.done3 h0 (hd 0 δ) zO)
   ·rfl
   apply RG.uV
   ·rfl
   ·intro L w9 h0 hd hw9;have hs:=hw9.o.no4 h0;refine Av rfl _ _ _ rfl w.heap.size _ rfl rfl _ _ hs.st (hi8.o _) (by rw[zK,zK];rfl) (xB7 _) ?_;repeat go_step
    refine RG.xE ?_;exact ι (hw9.o.done4 h0 (hd 3 δ))
   ·rfl
   refine RG.yY (λw5 hw5=>?_);have hw6:=ι hw5.o.2.2;rw[Ah rfl,<-HC0.o,<-HRS.o] at hw6;clear hw5 hr;go_wp2;exact⟨⟨k+1,ω,by rw[HC1.o],hw6⟩,by simp[lenOf,Az];omega⟩
  ·have hke:b.size / 64=k:=ω;have hs64:(b.size:Int)*8<18446744073709551616:=ω
   have HE:Hid (∀W,Calls prog 133 #[.string (b.extract (64*(b.size / 64)) b.size),.int .u64 ((b.size:Int)*8)] W (pv (.string (xKy b)) W)):=ι (λW=>xYe (xNc b) ((b.size:Int)*8) W (xLr b));have HT2:=ι (xX3 b)
   have HP:Hid (xKz b=xEj (xRr (xRr xO4 b (b.size / 64)) (xKy b) ((xKy b).size / 64)).list 8):=ι rfl;have yMi:=ι (xNb xVi b (b.size / 64));rw[hke] at HE HP yMi;clear hke;generalize xKy b=tl at HE HT2 HP;generalize xRr xO4 b k=S1 at hr HP yMi
   have hrs:(b.extract (64*k) b.size).size<64:=by rw[Az];omega
   generalize b.extract (64*k) b.size=rs at HE hrs⊢;have HS64:=ι hs64;have hneg:¬(64<=(rs.size:Int)):=ω;clear hlt hk hs64 hrs;go_upto_region 6 with fail
   have hs64:=HS64.o;clear hneg;go_wp2_with fail
   refine cM (HE.o _) λw4 hb4=>?_;have HS1:Hid (xOv w (xRr S1 tl 0) w4):=ι (hr.o.below hb4);clear hr hb4 HE hs64 HS64;go_wp2_with fail
   go_loopw [5] (λrv wr=>∃k:Nat,64*k<=(tl).size/\rv=.string ((tl).extract (64*k) (tl).size)/\Hid (xOv w (xRr (S1) (tl) k) wr)) (λrv _=>lenOf rv)
   case atStart=>exact⟨0,ω,by rw[Nat.mul_zero,yDn],HS1⟩
   case round=>
    clear HS1;obtain⟨k,hk,rfl,hr⟩:=hrel
    by_cases hlt:64*k+64<=(tl).size
    ·obtain⟨c,hc⟩:=eX ((tl).extract (64*k) (tl).size);have hcs:c.size=(tl).size-64*k:=by rw[<-hc,Az];omega
     have HC0:Hid ((tl).extract (64*k) (64*k+64)=c.extract 0 64):=ι (by rw[<-hc,Eg];congr 1;omega);have HC1:Hid ((tl).extract (64*(k+1)) (tl).size=c.extract 64 ((tl).size-64*k)):=ι (by rw[<-hc,Eg];congr 1<;>omega);rw[hc];clear hc
     have hok:=xNb yMi.o (tl) k;have HRS:=ι (xPm (S1) (tl) k);generalize xRr (S1) (tl) k=s at hr hok HRS;have HOK:=ι hok;clear hok;have hc64:64<=c.size:=ω;go_upto_region 8 with fail
     refine RG.vL [0,3,4] (λL W=>Hid (SI w s (xHp s (c.extract 0 64)) (L 0) (L 3) (L 4) W)) (λL L' W h hI=>by rw[<-h 0 δ,<-h 3 δ,<-h 4 δ];exact hI) κ κ δ (ι ⟨(by intro h;cases h),(by intro h;cases h),hr.o.drew⟩) ?_;apply RG.uV
     ·rfl
     ·intro L w9 h0 _ hw9;have hs:=hw9.o.no0 h0;refine Ao rfl _ _ rfl w.heap.size rfl _ _ (0,0) _ hs.st underlying206 rfl (hi8.o s) ?_;repeat go_step
      refine RG.xE ?_;exact ι (hw9.o.done0 h0)
     ·rfl
     iterate 2 refine RG.lS ?_
     apply RG.uV
     ·rfl
     ·intro L w9 h0 hd hw9;have hs:=hw9.o.no3 h0;repeat go_step
      refine(HBk.o s _ w9 HOK.o (by rw[Az];omega) (hs.tab HT.o)).mono ?_;rintro e w10 ⟨rfl,zO⟩;simp only[];repeat go_step
      refine RG.xE ?_;exact ι (hw9.o.done3 h0 (hd 0 δ) zO)
     ·rfl
     apply RG.uV
     ·rfl
     ·intro L w9 h0 hd hw9;have hs:=hw9.o.no4 h0;refine Av rfl _ _ _ rfl w.heap.size _ rfl rfl _ _ hs.st (hi8.o _) (by rw[zK,zK];rfl) (xB7 _) ?_;repeat go_step
      refine RG.xE ?_;exact ι (hw9.o.done4 h0 (hd 3 δ))
     ·rfl
     refine RG.yY (λw5 hw5=>?_);have hw6:=ι hw5.o.2.2;rw[Ah rfl,<-HC0.o,<-HRS.o] at hw6;clear hw5 hr;go_wp2;exact⟨⟨k+1,ω,by rw[HC1.o],hw6⟩,by simp[lenOf,Az];omega⟩
    ·have hke:tl.size / 64=k:=ω;rw[hke] at HP;clear hke;have hok2:=xNb yMi.o tl k;generalize xRr S1 tl k=S2 at hr HP hok2;have hneg:¬(64<=((tl.extract (64*k) tl.size).size:Int)):=by rw[Az];omega
     generalize tl.extract (64*k) tl.size=rs2 at hneg⊢;have HU:=ι (list_u hok2);obtain⟨s0,s1,s2,s3,s4,s5,s6,s7⟩:=S2;clear hlt hk hok2 HT2 yMi;have HLst:Hid (xKz b=xEj [s0,s1,s2,s3,s4,s5,s6,s7] 8):=HP;have HUl:Hid (qV [s0,s1,s2,s3,s4,s5,s6,s7]):=HU;clear HP HU
     have hmk:∀W:World,(Instr.makeSlice 96 (.int .i64 0) (.int .i64 32)).run prog W=.ok (.slice (some (θ W.heap.size 0)) 0 32) (W.alloc (.cells (yO (xO 32)) 5)):=λW=>made W 0 32 δ δ;have HBW:=ι (hr.o.bel.alloc hr.o.bel.size (.cells (yO (xO 32)) 5))
     have HOW:=ι (vX.room wr 32 w.heap.size hr.o.bel.size δ);have hst:=xN hr.o.st (.cells (yO (xO 32)) 5);have q0:(wr.alloc (.cells (yO (xO 32)) 5)).cell? (θ w.heap.size 0)=some (.int .u32 s0):=xA hst 0
     have q1:(wr.alloc (.cells (yO (xO 32)) 5)).cell? (θ w.heap.size 1)=some (.int .u32 s1):=xA hst 1;have q2:(wr.alloc (.cells (yO (xO 32)) 5)).cell? (θ w.heap.size 2)=some (.int .u32 s2):=xA hst 2
     have q3:(wr.alloc (.cells (yO (xO 32)) 5)).cell? (θ w.heap.size 3)=some (.int .u32 s3):=xA hst 3;have q4:(wr.alloc (.cells (yO (xO 32)) 5)).cell? (θ w.heap.size 4)=some (.int .u32 s4):=xA hst 4
     have q5:(wr.alloc (.cells (yO (xO 32)) 5)).cell? (θ w.heap.size 5)=some (.int .u32 s5):=xA hst 5;have q6:(wr.alloc (.cells (yO (xO 32)) 5)).cell? (θ w.heap.size 6)=some (.int .u32 s6):=xA hst 6
     have q7:(wr.alloc (.cells (yO (xO 32)) 5)).cell? (θ w.heap.size 7)=some (.int .u32 s7):=xA hst 7;clear hst hr;go_wp2_with fail
     clear q0 q1 q2 q3 q4 q5 q6 q7 hneg hmk;obtain⟨i0,hi,hz0,hz1,hz2⟩:=jL xY6
     go_loopw [6,37] (λov iv wr=>∃k:Nat,k<=8/\iv=.int .i64 k/\Hid (vX wr w.heap.size ov (xEj [s0,s1,s2,s3,s4,s5,s6,s7] k))/\Hid (ψ w wr)) (λ_ iv _=>8- (intOf iv).toNat)
     case atStart=>exact⟨0,δ,rfl,HOW,HBW⟩
     case round=>
      obtain⟨k,hk,rfl,ho,hb⟩:=hrel;clear HOW HBW
      by_cases hlt:k<8
      ·have HWS:=ι (xS2 [s0,s1,s2,s3,s4,s5,s6,s7] k);have HWL:=ι (xGi [s0,s1,s2,s3,s4,s5,s6,s7] k);obtain⟨x,hx⟩:∃x,[s0,s1,s2,s3,s4,s5,s6,s7].getD k 0=x:=⟨_,rfl⟩;have ux:=HUl.o k;rw[hx] at ux HWS
       have ix:∀W:World,(Instr.index 206 (.agg #[.int .u32 s0,.int .u32 s1,.int .u32 s2,.int .u32 s3,.int .u32 s4,.int .u32 s5,.int .u32 s6,.int .u32 s7]) (.int .i64 k)).run prog W=.ok (.int .u32 x) W:=λW=>kR (P:=prog) underlying206 underlying181 κ (zJ [s0,s1,s2,s3,s4,s5,s6,s7]) (.int .u32 x) k hlt (by rw[wG (by simpa using hlt),hx]) W
       obtain⟨u0,u1⟩:=ux;clear hx;generalize xEj [s0,s1,s2,s3,s4,s5,s6,s7] k=acc at ho HWS HWL;obtain⟨A,c,rfl,hc⟩:=ho.o.form;go_upto_region 14 with fail
       clear ix
       have hv:[Value.int .u8 (x / 16777216),.int .u8 (x / 65536 % 256),.int .u8 (x / 256 % 256),.int .u8 (x % 256)]=(xZu x).map λc=>Value.int .u8 (c.toNat:Int):=by
        have e0:x / 16777216 % 256=x / 16777216:=ω;simp[xZu,wW,e0]
       have HV:=ι hv;have HBH:=ι (show w.heap.size<=wr.heap.size from hb.o.size);have HK:=ι hlt;clear hv
       go_wp2_with (at_builtin;refine Fw _ rfl _ _ 96 rfl w.heap.size 5 i0 (.int .u8 0) 1 1 underlying96 hi hz0 hz1 hz2 rfl δ _ _ _ rfl (ho.o.alloc _) (θ wr.heap.size 0) 4 4 [.int .u8 (x / 16777216),.int .u8 (x / 65536 % 256),.int .u8 (x / 256 % 256),.int .u8 (x % 256)] rfl rfl (yE7 _ _ _) (by intro u hu;simp at hu;rcases hu with rfl|rfl|rfl|rfl<;>rfl) δ (by have:=HWL.o;have:=HK.o;unfold maxLen;omega) (by have:=HWL.o;have:=HK.o;omega) (by have:=HBH.o;simp;omega) _ rfl ?_;intro g cap w3 hown1 hgrow1 hloc1 _;have h9:=ι (xXf ho.o.row hgrow1 hb.o HBH.o);have h8:=ι hown1;clear hown1 hgrow1 hloc1)
       exact⟨⟨k+1,ω,by go_num,ι (by rw[HWS.o];refine vX.of ?_;rw[<-HV.o];exact h8.o),ι h9.o⟩,by simp[intOf];omega⟩
      ·obtain rfl:k=8:=ω;have ht:=ho.o.text;rw[<-HLst.o] at ht;obtain⟨A,c,rfl,hc⟩:=ho.o.form;clear hc;go_wp2;go_ret;exact⟨rfl,hb.o⟩
end Go.Proofs.SH
namespace Mailsack
theorem xDr (op:Go.BinOp) (x y:Int):0<=Go.bits op .u8 x y/\Go.bits op .u8 x y<256:=by
 have h:=Go.wf_bits op .u8 x y;simp[Go.Lit.wf] at h;have e1:Go.IntKind.u8.min=0:=δ;have e2:Go.IntKind.u8.max=255:=δ;omega
def xP8 (l:Bs) (b:Int):Nat->Bs
 |0=>l
 |k+1=>(xP8 l b k).set k (oct (Go.bits .xor .u8 (((xP8 l b k).getD k 0).toNat:Int) b))
theorem xMz (l:Bs) (b:Int):∀k,(xP8 l b k).length=l.length
 |0=>rfl
 |k+1=>by simp[xP8,xMz l b k]
def xNt (key s:Bs):Bs:=key++(xO (64+s.length)).drop key.length
def xEg (key:Bs) (b:Int) (s:Bs):Bs:=(xP8 (xNt key s) b 64).take 64++s
theorem xQ3 (key:Bs) (b:Int) (s:Bs) (h:key.length<=64):(xEg key b s).length=64+s.length:=by
 unfold xEg xNt;rw[Aj,Ck,xMz,Aj,Eb,yR];omega
end Mailsack
namespace Go.Proofs.SH
open Go.RowKit Mailsack MM BB
theorem kG.putV {W:World} {g:Nat} {l:Bs} (h:kG W g l) (i:Nat) {z:Int} (h0:0<=z) (h1:z<256):kG (W.setCell (θ g i) (.int .u8 z)) g (l.set i (oct z)):=by
 have:=h.put i z
 rwa [show z % 256=z by omega] at this
theorem xV6 (key s:ByteArray) (b:Int) (w:World) (hk:key.size<=64) (hs:s.size<=1099511627776):
  Calls prog 176 #[.string key,.int .u8 b,.string s] w (pv (.string ⟨(xEg key.data.toList b s.data.toList).toArray⟩) w):=by
 have hkl:key.data.toList.length=key.size:=σ;have hsl:s.data.toList.length=s.size:=σ
 have hmk:∀W:World,(Instr.makeSlice 96 (.int .i64 64) (.int .i64 (64+(s.size:Int)))).run prog W=.ok (.slice (some (θ W.heap.size 0)) 64 (64+s.size)) (W.alloc (.cells (yO (xO (64+s.size))) 5)):=λW=>made W 64 (64+s.size) ω ω
 have HB0:Hid (kG (w.alloc (.cells (yO (xO (64+s.size))) 5)) w.heap.size (xO (64+s.size))):=ι (xJ _ _);have HW0:=ι (φ w (.cells (yO (xO (64+s.size))) 5));go_enter func176,ntmps176;go_upto_region 2 with fail
 refine Bi ?_;iterate 6 go_step
 refine Gi _ rfl _ _ _ _ rfl _ _ rfl rfl (copied HB0.o _ _ _ _ ω (by rw[yR];omega)) ?_
 have HB1:Hid (kG ((w.alloc (.cells (yO (xO (64+s.size))) 5)).setRow w.heap.size (yO (key.data.toList++(xO (64+s.size)).drop key.size))) w.heap.size (xP8 (xNt key.data.toList s.data.toList) b 0)):=ι (by
  have h:=HB0.o.row (key.data.toList++(xO (64+s.size)).drop key.size);unfold xP8 xNt;rw[hkl,hsl];exact h)
 have HW1:=ι (Bn HW0.o ν (yO (key.data.toList++(xO (64+s.size)).drop key.size)));clear hmk HB0 HW0;generalize (w.alloc (.cells (yO (xO (64+s.size))) 5)).setRow w.heap.size (yO (key.data.toList++(xO (64+s.size)).drop key.size))=w1 at HB1 HW1⊢
 have HL:Hid ((xNt key.data.toList s.data.toList).length=64+s.size):=ι (by unfold xNt;rw[Aj,Eb,yR];omega);have HXL:=ι (λk=>xMz (xNt key.data.toList s.data.toList) b k)
 have HP:Hid (∀n,n=64->xEg key.data.toList b s.data.toList=(xP8 (xNt key.data.toList s.data.toList) b n).take n++s.data.toList):=ι (λn hn=>by subst hn;rfl);generalize xNt key.data.toList s.data.toList=l at HB1 HL HXL HP;clear hkl;go_wp2_with fail
 go_loopw [18] (λiv wr=>∃k:Nat,k<=64/\iv=.int .i64 k/\Hid (kG wr w.heap.size (xP8 l b k)/\ψ w wr)) (λiv _=>64- (intOf iv).toNat)
 case atStart=>exact⟨0,δ,rfl,ι ⟨HB1.o,HW1.o⟩⟩
 case round=>
  obtain⟨k,hk,rfl,hr⟩:=hrel;clear HB1 HW1
  by_cases hlt:k<64
  ·have q0:=hr.o.1.cell (i:=k) (by rw[HXL.o k,HL.o];omega);have q1:=hr.o.1.free k;have hu:=xDr .xor (((xP8 l b k).getD k 0).toNat:Int) b
   have HK:Hid (kG (wr.setCell (θ w.heap.size k) (.int .u8 (bits .xor .u8 (((xP8 l b k).getD k 0).toNat:Int) b))) w.heap.size (xP8 l b (k+1))):=ι (kG.putV hr.o.1 k hu.1 hu.2)
   have HKW:=ι (hr.o.2.setCell (p:=θ w.heap.size k) ν (.int .u8 (bits .xor .u8 (((xP8 l b k).getD k 0).toNat:Int) b)));clear hr hu;generalize (((xP8 l b k).getD k 0).toNat:Int)=x at q0 HK HKW;go_wp2;exact⟨⟨k+1,ω,by go_num,ι ⟨HK.o,HKW.o⟩⟩,by simp[intOf];omega⟩
  ·have hke:k=64:=ω;have HPk:=ι (HP.o k hke);clear HP;obtain⟨i0,hi,hz0,hz1,hz2⟩:=jL xY6
   have HO:Hid (vX wr w.heap.size (.slice (some (θ w.heap.size 0)) k (64+s.size)) ((xP8 l b k).take k)):=ι (by
    have h:=vX.head hr.o.1 k w.heap.size ν (by rw[HXL.o,HL.o];omega) (by rw[HXL.o,HL.o];omega);rw[HXL.o,HL.o] at h;exact h)
   have HTL:Hid (((xP8 l b k).take k).length=k):=ι (by rw[Ck,HXL.o,HL.o];omega);have HBW:=ι hr.o.2;clear hr;generalize (xP8 l b k).take k=hd at HO HTL HPk;subst hke;clear hk hlt
   have HO2:Hid (wr.ownsRow w.heap.size 5 1 (.slice (some (θ w.heap.size 0)) 64 (64+s.size)) 64 (hd.map λc=>Value.int .u8 (c.toNat:Int))):=ι (by have h:=HO.o.row;rw[HTL.o] at h;exact h);have HS:=ι hs
   go_wp2_with (at_builtin;refine xIm rfl _ _ 96 9 rfl w.heap.size 5 i0 underlying96 underlying9 hi hz0 hz1 hz2 w.heap.size 64 (64+s.size) _ rfl HO2.o s rfl (by have:=HS.o;unfold maxLen;omega) (by have:=HS.o;omega) HBW.o.size ?_;intro v3 w3 hown hgrow hloc;have h7:=vX.text (l:=hd++s.data.toList) (vX.of (by rw[HTL.o,hsl];exact hown));have h8:=ι (HBW.o.grown hgrow HBW.o.size (λk hk=>by injection hk with hk;omega));clear hown hgrow hloc)
   rw[<-HPk.o];go_ret;exact⟨rfl,h8.o⟩
end Go.Proofs.SH
namespace Mailsack
def bsA (l:Bs):ByteArray:=⟨l.toArray⟩
def tC (key:ByteArray):ByteArray:=if 64<key.size then bsA (xKz key) else key
def xZb (key s:ByteArray):Bs:=xKz (bsA (xEg (tC key).data.toList 92 (xKz (bsA (xEg (tC key).data.toList 54 s.data.toList)))))
theorem yS (l:Bs):(bsA l).size=l.length:=by simp[bsA,ByteArray.size]
theorem xFy (key:ByteArray):(tC key).size<=64:=by
 unfold tC;split
 ·rw[yS,xC6];decide
 ·omega
theorem xIc (key s:ByteArray):(xZb key s).length=32:=xC6 _
end Mailsack
namespace Go.Proofs.SH
open Go.RowKit Mailsack MM BB
theorem xI8 (key s:ByteArray) (w:World) (hk:key.size<=1099511627776) (hs:s.size<=1099511627776) (hT:jE w):
  Calls prog 134 #[.string key,.string s] w (pv (xR (xZb key s)) w):=by
 have HT:=ι hT;have HM:Hid (∀W,Calls prog 176 #[.string (tC key),.int .u8 54,.string s] W (pv (.string (bsA (xEg (tC key).data.toList 54 s.data.toList))) W)):=ι (λW=>xV6 (tC key) s 54 W (xFy key) hs)
 have HS:Hid (∀W,jE W->Calls prog 86 #[.string (bsA (xEg (tC key).data.toList 54 s.data.toList))] W (pv (.string (bsA (xKz (bsA (xEg (tC key).data.toList 54 s.data.toList))))) W)):=ι (λW hW=>xIu _ W (by
  rw[yS,xQ3 _ _ _ (by have:=xFy key;simpa using this)];have:s.data.toList.length=s.size:=σ;omega) hW)
 have HM2:Hid (∀W,Calls prog 176 #[.string (tC key),.int .u8 92,.string (bsA (xKz (bsA (xEg (tC key).data.toList 54 s.data.toList))))] W (pv (.string (bsA (xEg (tC key).data.toList 92 (xKz (bsA (xEg (tC key).data.toList 54 s.data.toList)))))) W)):=ι (λW=>xV6 (tC key) _ 92 W (xFy key) (by rw[yS,xC6];decide))
 have HS2:Hid (∀W,jE W->Calls prog 86 #[.string (bsA (xEg (tC key).data.toList 92 (xKz (bsA (xEg (tC key).data.toList 54 s.data.toList)))))] W (pv (xR (xZb key s)) W)):=ι (λW hW=>xIu _ W (by
  rw[yS,xQ3 _ _ _ (by have:=xFy key;simpa using this),xC6]
  decide) hW)
 have HK:Hid (∀W,jE W->Calls prog 86 #[.string key] W (pv (.string (bsA (xKz key))) W)):=ι (λW hW=>xIu key W ω hW);generalize bsA (xEg (tC key).data.toList 54 s.data.toList)=x1 at HM HS HM2 HS2;generalize bsA (xKz x1)=x2 at HS HM2 HS2
 generalize bsA (xEg (tC key).data.toList 92 (xKz x1))=x3 at HM2 HS2;clear hT hs
 by_cases h:64<key.size
 ·have hkey:Hid (tC key=bsA (xKz key)):=ι (by unfold tC;rw[Ah h]);rw[<-hkey.o] at HK;generalize tC key=k1 at HM HM2 HK;go_enter func134,ntmps134;go_wp2_with fail
  refine cM (HK.o _ HT.o) λw1 hb1=>?_;have B1:=ι hb1;clear hb1 h hk;go_wp2_with fail
  refine cM (HM.o _) λw2 hb2=>?_;have B2:=ι (bT B1.o hb2);clear hb2 B1;go_wp2_with fail
  refine cM (HS.o _ (HT.o.below B2.o ν)) λw3 hb3=>?_;have B3:=ι (bT B2.o hb3);clear hb3 B2;go_wp2_with fail
  refine cM (HM2.o _) λw4 hb4=>?_;have B4:=ι (bT B3.o hb4);clear hb4 B3;go_wp2_with fail
  refine cM (HS2.o _ (HT.o.below B4.o ν)) λw5 hb5=>?_;go_wp2;go_ret;exact⟨rfl,bT B4.o hb5⟩
 ·have hkey:tC key=key:=by unfold tC;rw[Ag h]
  rw[hkey] at HM HM2;have B1:=ι (Aq w.heap.size w);clear hkey HK;go_enter func134,ntmps134;go_wp2_with fail
  refine cM (HM.o _) λw2 hb2=>?_;have B2:=ι (bT B1.o hb2);clear hb2 B1 h hk;go_wp2_with fail
  refine cM (HS.o _ (HT.o.below B2.o ν)) λw3 hb3=>?_;have B3:=ι (bT B2.o hb3);clear hb3 B2;go_wp2_with fail
  refine cM (HM2.o _) λw4 hb4=>?_;have B4:=ι (bT B3.o hb4);clear hb4 B3;go_wp2_with fail
  refine cM (HS2.o _ (HT.o.below B4.o ν)) λw5 hb5=>?_;go_wp2;go_ret;exact⟨rfl,bT B4.o hb5⟩
def xH1 (a b:ByteArray):Nat->Int
 |0=>0
 |k+1=>bits .or .u8 (xH1 a b k) (bits .xor .u8 (yU a k) (yU b k))
def xBe (a b:ByteArray):Bool:=decide (a.size=b.size)&&(xH1 a b a.size==0)
theorem xTp (a b:ByteArray):∀k,0<=xH1 a b k/\xH1 a b k<256
 |0=>by unfold xH1;exact⟨δ,δ⟩
 |_+1=>xDr _ _ _
theorem xNa (a b:ByteArray) (w:World) (ha:a.size<=1099511627776):
  Calls prog 93 #[.string a,.string b] w (pv (.bool (xBe a b)) w):=by
 by_cases h:a.size=b.size
 ·have HP:Hid (∀n,n=a.size->xBe a b=(xH1 a b n==0)):=ι (λn hn=>by unfold xBe;rw[hn];simp[h]);have h2:((a.size:Int)!=(b.size:Int))=false:=by simp[h]
  have hbs:b.size=a.size:=h.symm;have HBS:=ι hbs;clear h hbs;go_enter func93,ntmps93;go_wp2_with fail
  clear h2
  go_loopw [5,14] (λdv iv wr=>∃k:Nat,k<=a.size/\iv=.int .i64 k/\dv=.int .u8 (xH1 a b k)/\Hid (ψ w wr)) (λ_ iv _=>a.size- (intOf iv).toNat)
  case atStart=>exact⟨0,Bc _,rfl,rfl,ι (Aq _ _)⟩
  case round=>
   obtain⟨k,hk,rfl,rfl,hb⟩:=hrel
   by_cases hlt:k<a.size
   ·have i0:=λw=>zN (P:=prog) underlying9 a (k:Int) k rfl hlt w;have i1:=λw=>zN (P:=prog) underlying9 b (k:Int) k rfl (by rw[HBS.o];exact hlt) w;have r0:=zD a k;have r1:=zD b k;have rd:=xTp a b k
    have HK:Hid (bits .or .u8 (xH1 a b k) (bits .xor .u8 (yU a k) (yU b k))=xH1 a b (k+1)):=ι rfl;generalize yU a k=x at i0 r0 HK;generalize yU b k=y at i1 r1 HK;generalize xH1 a b k=d at rd HK⊢;obtain⟨r00,r01⟩:=r0;obtain⟨r10,r11⟩:=r1;obtain⟨rd0,rd1⟩:=rd
    go_upto_region 7 with fail
    go_quiet (fail)
    clear i0 i1;rw[HK.o];have HB:=ι (below_drewN hb.o nq);go_wp2;exact⟨⟨k+1,ω,by go_num,rfl,HB⟩,by simp[intOf];omega⟩
   ·have hke:k=a.size:=ω;have HPk:=ι (HP.o k hke);clear HP;generalize xH1 a b k=d at HPk⊢;subst hke;clear hk hlt;go_wp2;go_ret;exact⟨by rw[HPk.o];rfl,hb.o⟩
 ·have HP:Hid (xBe a b=false):=ι (by unfold xBe;simp[h]);have h2:((a.size:Int)!=(b.size:Int))=true:=by simp;omega
  have h3:((a.size:Int)≠(b.size:Int)):=ω;clear h;go_enter func93,ntmps93;go_wp2;go_ret;exact⟨by rw[HP.o];rfl,Aq _ _⟩
end Go.Proofs.SH
namespace Mailsack
def xDm (ex info:ByteArray):Nat->ByteArray
 |0=>⟨#[]⟩
 |k+1=>bsA (xZb ex (xDm ex info k++info++bsA [oct (k+1)]))
def xK8 (ex info:ByteArray):Nat->Bs
 |0=>[]
 |k+1=>xK8 ex info k++(xDm ex info (k+1)).data.toList
def xOk (secret xP info:ByteArray) (n:Nat):Bs:=(xK8 (bsA (xZb xP secret)) info ((n+31) / 32)).take n
theorem xGy (ex info:ByteArray) (k:Nat):(xDm ex info (k+1)).size=32:=by
 unfold xDm;rw[yS,xIc]
theorem yHr (ex info:ByteArray):∀k,(xDm ex info k).size<=32
 |0=>by unfold xDm;decide
 |k+1=>by rw[xGy];exact Bd _
theorem xG9 (ex info:ByteArray):∀k,(xK8 ex info k).length=32*k
 |0=>rfl
 |k+1=>by
  have h:(xDm ex info (k+1)).data.toList.length=32:=by
   have:=xGy ex info k;simpa using this
  unfold xK8;rw[Aj,xG9 ex info k,h];omega
theorem xK7 (secret xP info:ByteArray) (n:Nat):(xOk secret xP info n).length=n:=by
 unfold xOk;rw[Ck,xG9];omega
end Mailsack
namespace Go.Proofs.SH
open Go.RowKit Mailsack MM BB
theorem vX.at {w:World} {base:Nat} {v:Value} {l:Bs} (h:vX w base v l) (h0:0<l.length):∃g cap,v=.slice (some (θ g 0)) l.length cap/\l.length<=cap:=by
 rcases h.2 with ⟨_,h2⟩|⟨g,cap,cur,h1,_,_,h2,_⟩
 ·omega
 ·exact⟨g,cap,h1,h2⟩
theorem vX.part {w:World} {base g n cap:Nat} {l:Bs} (h:vX w base (.slice (some (θ g 0)) l.length cap) l) (hn:n<=l.length):(convert 96 9 (.slice (some (θ g 0)) n cap)).run prog w=.ok (xR (l.take n)) w:=by
 have h1:=Dl (P:=prog) w 96 9 5 (θ g 0) cap (l.take n) underlying96 underlying5 underlying9 (λj hj=>by
  have hj':j<l.length:=by rw[Ck] at hj;omega
  have:=Eh h (g:=g) rfl j _ (by simp[hj'];rfl);rw[this,List.getElem_take])
 rw[Ck,Nat.min_eq_left hn] at h1;exact h1
theorem yDz (c:Int) (hc:0<=c) (hc2:c<256) (W:World):(convert 96 9 (.slice (some (θ W.heap.size 0)) 1 1)).run prog (W.alloc (.cells #[.int .u8 c] 5))=.ok (.string (bsA [oct c])) (W.alloc (.cells #[.int .u8 c] 5)):=by
 refine Dl (P:=prog) (W.alloc (.cells #[.int .u8 c] 5)) _ _ 5 (θ W.heap.size 0) 1 [oct c] underlying96 underlying5 underlying9 (λj hj=>?_);have hj0:j=0:=by simpa using hj
 subst hj0;have:=cell_one_new W (.int .u8 c) 5 0 _ rfl;rw[this];simp[wW];omega
theorem xOj (secret xP info:ByteArray) (n:Nat) (w:World) (h1:secret.size<=1099511627776) (h2:xP.size<=1099511627776) (h3:info.size<=1000000) (hn:n<=8160) (hT:jE w):
  Calls prog 112 #[.string secret,.string xP,.string info,.int .i64 n] w (pv (.tuple #[xR (xOk secret xP info n),.int .i64 0]) w):=by
 have HT:=ι hT;have HE:Hid (∀W,jE W->Calls prog 134 #[.string xP,.string secret] W (pv (.string (bsA (xZb xP secret))) W)):=ι (λW hW=>xI8 xP secret W h2 h1 hW);have HP:Hid (xOk secret xP info n=(xK8 (bsA (xZb xP secret)) info ((n+31) / 32)).take n):=ι rfl
 have hex:(bsA (xZb xP secret)).size=32:=by rw[yS,xIc]
 have HX:=ι hex;generalize bsA (xZb xP secret)=ex at HE HP hex HX;have HMK:=ι (λW:World=>made W 0 (n+32) ω ω);obtain⟨i0,hi,hz0,hz1,hz2⟩:=jL xY6;have HN:=ι hn;clear hex h1 h2;go_enter func112,ntmps112;go_wp2_with fail
 refine cM (HE.o _ HT.o) λw1 hb1=>?_;have B1:=ι hb1;clear hb1 HE;have hmk:∀W:World,(Instr.makeSlice 96 (.int .i64 0) (.int .i64 ((n:Int)+32))).run prog W=.ok (.slice (some (θ W.heap.size 0)) 0 (n+32)) (W.alloc (.cells (yO (xO (n+32))) 5)):=HMK.o
 have HO0:=ι (vX.room w1 (n+32) w.heap.size B1.o.size ω);have B2:=ι (B1.o.alloc B1.o.size (.cells (yO (xO (n+32))) 5));go_wp2_with fail
 clear hmk HMK
 go_loopw [11,12,13] (λov lv cv wr=>∃(k g cap:Nat),32*k<n+32/\ov=.slice (some (θ g 0)) (32*k) cap/\32*k<=cap/\lv=.string (xDm ex info k)/\cv=.int .u8 (((k:Int)+1) % 256)/\Hid (vX wr w.heap.size (.slice (some (θ g 0)) (32*k) cap) (xK8 ex info k))/\Hid (ψ w wr)) (λov _ _ _=>match ov with|.slice _ m _=>n+32-m|_=>0)
 case atStart=>exact⟨0,w1.heap.size,n+32,ω,rfl,ω,rfl,rfl,HO0,B2⟩
 case round=>
  obtain⟨k,g,cap,hk,rfl,hcap,rfl,rfl,ho,hb⟩:=hrel;clear HO0 B2
  by_cases hlt:32*k<n
  ·have HKS:Hid (xDm ex info (k+1)=bsA (xZb ex (xDm ex info k++info++bsA [oct ((k:Int)+1)]))):=ι rfl;have HOS:Hid (xK8 ex info (k+1)=xK8 ex info k++(xDm ex info (k+1)).data.toList):=ι rfl;have HKZ:=ι (xGy ex info k);have hKl:=yHr ex info k;have HOL:=ι (xG9 ex info k)
   have hc:((k:Int)+1) % 256=(k:Int)+1:=ω;rw[hc];have hcv:=yDz ((k:Int)+1) ω ω;have hcb:(bsA [oct ((k:Int)+1)]).size=1:=by rw[yS];rfl
   generalize bsA [oct ((k:Int)+1)]=cb at hcv HKS hcb;have nb1:¬(9223372036854775807<(xDm ex info k).size+info.size):=ω;have nb2:¬(9223372036854775807<(xDm ex info k++info).size+cb.size):=by rw[Aw];omega
   have HS:Hid (∀W,jE W->Calls prog 134 #[.string ex,.string (xDm ex info k++info++cb)] W (pv (.string (xDm ex info (k+1))) W)):=ι (λW hW=>by
    rw[HKS.o];exact xI8 ex _ W (by rw[HX.o];decide) (by rw[Aw,Aw];omega) hW)
   have HKW:=ι hlt;generalize xDm ex info k=l0 at nb1 nb2 HS HKS⊢;obtain⟨l1,hl1⟩:=eX (xDm ex info (k+1));rw[hl1] at HS HKS HKZ HOS;have HL1:=ι hl1;clear hl1;generalize xK8 ex info k=acc at ho HOS HOL;clear hKl hcb h3 hn;go_wp2_with fail
   refine cM (HS.o _ ((HT.o.below (hb.o.alloc hb.o.size (.cells #[.int .u8 ((k:Int)+1)] 5)) ν))) λw3 hb3=>?_;have HO3:=ι ((ho.o.alloc (.cells #[.int .u8 ((k:Int)+1)] 5)).below hb3)
   have HB3:=ι ((hb.o.alloc hb.o.size (.cells #[.int .u8 ((k:Int)+1)] 5)).trans (hb3.mono (hb.o.alloc hb.o.size (.cells #[.int .u8 ((k:Int)+1)] 5)).size));clear hb3 nb1 nb2 hcv HS hb ho
   have HO2:Hid (w3.ownsRow w.heap.size 5 1 (.slice (some (θ g 0)) (32*k) cap) (32*k) (acc.map λc=>Value.int .u8 (c.toNat:Int))):=ι (by have h:=HO3.o.row;rw[HOL.o] at h;exact h)
   go_wp2_with (at_builtin;refine xIm rfl _ _ 96 9 rfl w.heap.size 5 i0 underlying96 underlying9 hi hz0 hz1 hz2 g (32*k) cap _ rfl HO2.o l1 rfl (by have:=HKZ.o;have:=HN.o;have:=HKW.o;unfold maxLen;omega) (by have:=HKZ.o;have:=HN.o;have:=HKW.o;omega) HB3.o.size ?_;intro v4 w4 hown hgrow hloc;have h7:=ι (vX.of (l:=acc) (m:=l1.data.toList) (by rw[HOL.o,show l1.data.toList.length=l1.size by simp];exact hown));have h8:=ι (HB3.o.grown hgrow HB3.o.size (λq hq=>Di HO2.o q hq |>.1));clear hown hgrow hloc)
   have hlen:(acc++l1.data.toList).length=32*(k+1):=by
    rw[Aj,HOL.o,show l1.data.toList.length=l1.size by simp,HKZ.o];omega
   obtain⟨g4,cap4,hv4,hcap4⟩:=vX.at h7.o (by rw[hlen];omega);rw[hlen] at hv4 hcap4;subst hv4;exact⟨⟨k+1,g4,cap4,ω,rfl,hcap4,by rw[HL1.o],by rw[show((k:Int)+1+1)=(((k+1:Nat):Int)+1) by omega],ι (by rw[HOS.o];exact h7.o),h8⟩,by show n+32-32*(k+1)<n+32-32*k;omega⟩
  ·have HOL:=ι (xG9 ex info k)
   have HPk:Hid (xOk secret xP info n=(xK8 ex info k).take n):=ι (by
    have hke:(n+31) / 32=k:=ω;rw[HP.o,hke])
   clear HP;generalize xK8 ex info k=acc at ho HOL HPk
   have ht:(convert 96 9 (.slice (some (θ g 0)) n cap)).run prog wr=.ok (xR (xOk secret xP info n)) wr:=by
    rw[HPk.o];have h:=ho.o;rw[<-HOL.o] at h;exact vX.part h (by rw[HOL.o];omega)
   go_wp2;go_ret2;exact⟨rfl,hb.o⟩
end Go.Proofs.SH
namespace Mailsack
structure Op where
 flush:Bool
 w:Wr
def qO (d:Dk):Bool:=decide (61<d.secs.length)&&yP d
def xZ9 (d:Dk) (x:Wr):Dk:=⟨d.secs,d.cache++[x]⟩
def pO (d:Dk) (o:Op):Dk:=if o.flush=true then xY d else if (yP d&&wF o.w d.secs.length)=true then xZ9 d o.w else d
def vJ (d:Dk) (l:List Op):Dk:=l.foldl pO d
def wN (a:Int):Bs:=[oct a,oct (a / 256),oct (a / 65536),oct (a / 16777216)]++xO 60
theorem xKc (a:Int):(wN a).length=64:=by simp[wN,xO]
def xVw (x:Wr):Bs:=wN x.at_++x.data
def wE (n:Nat) (all:Bs):Bs:=74::oct n::(xKz (bsA all)++xO 30)
theorem xJy (n:Nat) (all:Bs):(wE n all).length=64:=by simp[wE,xO,xC6]
def wOp (a:Int) (b:Bs):Op:=⟨false,⟨a,b⟩⟩
def fOp:Op:=⟨true,⟨0,[]⟩⟩
def xA2:Nat->List Wr->List Op
 |_,[]=>[]
 |i,x::l=>wOp (1+2*(i:Int)) (wN x.at_)::wOp (2+2*(i:Int)) x.data::xA2 (i+1) l
theorem xId:∀(l:List Wr) (i:Nat),(xA2 i l).length=2*l.length
 |[],_=>rfl
 |x::l,i=>by simp[xA2,xId l];omega
theorem xQf:∀(l:List Wr) (i:Nat) (x:Wr),xA2 i (l++[x])=xA2 i l++[wOp (1+2*((i+l.length:Nat):Int)) (wN x.at_),wOp (2+2*((i+l.length:Nat):Int)) x.data]
 |[],_,_=>by simp[xA2]
 |y::l,i,x=>by
  simp only[List.cons_append,xA2,xQf l (i+1) x,Bl];rw[show i+1+l.length=i+(l.length+1) by omega]
def jD (l:List Wr):Bs:=(l.map xVw).flatten
def zU (l:List Wr):List Op:=xA2 0 l++[fOp,wOp 0 (wE l.length (jD l)),fOp]++l.map (λx=>⟨false,x⟩)++[fOp,wOp 0 (xO 64),fOp]
def xF3 (n:Nat) (x:Wr):Bool:=decide (61<=x.at_)&&decide (x.at_<n)&&decide (x.data.length=64)
def vZ (d:Dk) (l:List Wr):Int:=
 if qO d=false∨l.length=0 then 1 else if l.all (xF3 d.secs.length)=false then 1 else if 30<l.length then 4 else 0
def xCi (d:Dk) (l:List Wr):Dk:=if vZ d l=0 then vJ d (zU l) else⟨[],[]⟩
structure Slot where
 used:Bool
 cls:Nat
 blk:Nat
 size:Nat
 name:Bs
deriving DecidableEq
def noSlot:Slot:=⟨false,0,0,0,[]⟩
def vQ (c:Nat):Nat:=if c=0 then 24 else 12
def rE (c:Nat):Nat:=if c=0 then 256 else 1024
def xNi (s:Bs) (n:Nat):Bs:=s++xO (n-s.length)
def xX8 (t:Slot):Bs:=[1,oct t.cls,oct t.blk,oct t.size,oct (t.size / 256:Nat),oct t.name.length]++t.name
def tX (t:Slot):Bs:=if t.used=true then xNi (xX8 t) 64 else xNi [] 64
def bN (s:Bs) (i:Nat):Nat:=(s.getD i 0).toNat
theorem xYx (s:Bs) (i:Nat):bN s i<256:=Ex _
def pQ (s:Bs):Slot:=⟨true,bN s 1,bN s 2,bN s 3+256*bN s 4,(s.drop 6).take (bN s 5)⟩
def xM0 (s:Bs):Bool:=decide (bN s 0=1)&&decide (bN s 1<=1)&&decide (bN s 2<vQ (bN s 1))&&decide (bN s 3+256*bN s 4<=rE (bN s 1))&&decide (1<=bN s 5)&&decide (bN s 5<=24)
def xMj (s:Bs):Slot:=if xM0 s=true then(if s=tX (pQ s) then pQ s else noSlot) else noSlot
def wX (d:Dk):Bool:=decide (d.secs.length=381)&&yP d
def yG (S:List Bs):List Slot:=((S.drop 61).take 32).map xMj
def qH {α:Type} (p:α->Bool):List α->Int
 |[]=>-1
 |x::l=>if p x=true then 0 else if qH p l<0 then -1 else qH p l+1
def xHi (n:Bs) (t:Slot):Bool:=t.used&&t.name==n
def wU (l:List Slot) (n:Bs):Int:=qH (xHi n) l
def vN (c b:Nat):Nat:=if c=0 then 93+b*4 else 189+b*16
def countP (c:Nat):Nat:=if c=0 then 4 else 16
def xCx (l:List Slot) (i:Int):Slot:=l.getD i.toNat noSlot
def xEf (S:List Bs) (t:Slot):Bs:=(((S.drop (vN t.cls t.blk)).take (countP t.cls)).flatten).take t.size
def xAe (d:Dk) (n:Bs):Int:=if wX d=true then(if wU (yG (xY d).secs) n<0 then 6 else 0) else 1
def xOa (d:Dk) (n:Bs):Bs:=if xAe d n=0 then xEf (xY d).secs (xCx (yG (xY d).secs) (wU (yG (xY d).secs) n)) else[]
def jU (h:List Nat) (n:Nat):Nat->Nat->List Nat
 |0,_=>h
 |f+1,i=>
  if n<=2*i+1 then h
  else
   let j:=if 2*i+2<n/\h.getD (2*i+2) 0<h.getD (2*i+1) 0 then 2*i+2 else 2*i+1
   if h.getD j 0<h.getD i 0 then jU ((h.set i (h.getD j 0)).set j (h.getD i 0)) n f j else h
def xQh (h:List Nat):Nat->List Nat
 |0=>h
 |i+1=>xQh (jU h h.length h.length i) i
def xY7 (h:List Nat):List Nat:=xQh h (h.length / 2)
def xAb (h:List Nat):List Nat:=(jU ((h.set 0 (h.getD (h.length-1) 0)).set (h.length-1) (h.getD 0 0)) (h.length-1) (h.length-1) 0).dropLast
structure Ch where
 name:Bs
 data:Bs
 gone:Bool
structure StS where
 slots:List Slot
 jG:List Nat
 xCf:List Nat
 writes:List Wr
def StS.free (s:StS) (c:Nat):List Nat:=if c=0 then s.jG else s.xCf
def uJ (l:List Slot) (c:Nat):List Nat:=(l.filter λt=>t.used&&t.cls==c).map (·.blk)
def xBh (n:Nat) (tk:List Nat):List Nat:=xY7 ((List.range n).filter λi=>!tk.contains i)
def vI (c b:Nat) (data:Bs):List Wr:=(List.range (countP c)).map λi=>⟨((vN c b+i:Nat):Int),((xNi data (rE c)).drop (i*64)).take 64⟩
def setW (i:Nat) (t:Slot):Wr:=⟨((61+i:Nat):Int),tX t⟩
def putAt (s:StS) (i:Nat) (t:Slot):StS:={s with slots:=s.slots.set i t,writes:=s.writes++[setW i t]}
def wH (s:StS) (c:Nat):StS:=if c=0 then {s with jG:=xAb s.jG} else {s with xCf:=xAb s.xCf}
def qY (l:List Slot) (n:Bs):Int:=if wU l n<0 then qH (λt=>!t.used) l else wU l n
def yJ (data:Bs):Nat:=if 256<data.length then 1 else 0
def kE (s:StS) (c:Ch):Int:=
 if c.name.length<1∨24<c.name.length then 1
 else if c.gone=true then(if wU s.slots c.name<0 then 6 else 0)
 else if 1024<c.data.length then 4
 else if qY s.slots c.name<0 then 5
 else if (s.free (yJ c.data)).length=0 then 5 else 0
def zH (c:Ch) (b:Nat):Slot:=⟨true,yJ c.data,b,c.data.length,c.name⟩
def jC (s:StS) (c:Ch):StS:=
 if c.gone=true then putAt s (wU s.slots c.name).toNat noSlot
 else
  let k:=yJ c.data
  let b:=(s.free k).getD 0 0
  let s1:=wH s k
  putAt {s1 with writes:=s1.writes++vI k b c.data} (qY s.slots c.name).toNat (zH c b)
def zF:StS->List Ch->StS×Int
 |s,[]=>(s,0)
 |s,c::l=>if kE s c=0 then zF (jC s c) l else(s,kE s c)
def stS (d:Dk):StS:=⟨yG (xY d).secs,xBh 24 (uJ (yG (xY d).secs) 0),xBh 12 (uJ (yG (xY d).secs) 1),[]⟩
def uY (d:Dk) (l:List Ch):Int:=if wX d=true then(if (zF (stS d) l).2=0 then(if 30<(zF (stS d) l).1.writes.length then 4 else 0) else(zF (stS d) l).2) else 1
def yX (d:Dk) (l:List Ch):List Wr:=if uY d l=0 then(zF (stS d) l).1.writes else[]
def xAj (d:Dk) (l:List Ch):Int:=if uY d l=0 then(if (yX d l).length=0 then 0 else vZ d (yX d l)) else uY d l
def vO (d:Dk) (l:List Ch):Dk:=if uY d l=0 then(if (yX d l).length=0 then xY d else xCi d (yX d l)) else⟨[],[]⟩
end Mailsack
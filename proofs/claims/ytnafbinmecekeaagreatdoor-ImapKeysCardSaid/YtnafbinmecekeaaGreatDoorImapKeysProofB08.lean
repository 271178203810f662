/- Contracts of functions. Conditions: as stated. -/
import Derived.Test.YtnafbinmecekeaaGreatDoorImapKeysProofB07
open Go.Proofs.Tryz
set_option maxHeartbeats 8000000
set_option maxRecDepth 100000
namespace Mailsack
def tK (x:Wr) (n:Nat):Bool:=decide (0<=x.at_)&&decide (x.at_<n)&&decide (x.data.length=64)
def zD (d:Dk):Bool:=decide (1<=d.secs.length)&&decide (d.secs.length<=1024)&&d.secs.all (λs=>decide (s.length=64))&&d.cache.all (λx=>tK x d.secs.length)
theorem xKe {α:Type} {f:α->Bool} {L:List α} {k:Nat} {x:α} (h:L[k]?=some x) (hf:f x=true) (h0:∀r∈L.take k,f r=true):∀r∈L.take (k+1),f r=true:=by
 intro q hq;rw[List.take_add_one,h] at hq;rcases List.mem_append.1 hq with hq|hq
 ·exact h0 q hq
 ·simp at hq;subst hq;exact hf
theorem all_false {α:Type} {f:α->Bool} {L:List α} {k:Nat} {x:α} (h:L[k]?=some x) (hf:f x=false):L.all f=false:=by
 rw[List.all_eq_false];exact⟨x,List.mem_of_getElem? h,by rw[hf];simp⟩
theorem all_true {α:Type} {f:α->Bool} {L:List α} (h:∀r∈L.take L.length,f r=true):L.all f=true:=by
 rw[List.take_length] at h;exact List.all_eq_true.2 h
end Mailsack
namespace Go.Proofs.DS
open Go.RowKit Mailsack MM BB
def RdW (w:World) (B:Nat) (v:Value) (L:List Wr):Prop:=
 ∃A c,v=.slice A L.length c/\L.length<=c/\(0<L.length->∃b off,A=some ⟨b,off,none⟩/\b<B/\∀j x,L[j]?=some x->w.cell? ⟨b,off+j*2,none⟩=some (.int .i64 x.at_)/\w.cell? ⟨b,off+j*2+1,none⟩=some (xR x.data))
theorem RdW.keep {w w':World} {B:Nat} {v:Value} {L:List Wr} (h:RdW w B v L) (hk:∀p:Addr,p.block<B->w'.cell? p=w.cell? p):RdW w' B v L:=by
 obtain⟨A,c,h1,h2,h3⟩:=h;refine⟨A,c,h1,h2,λhn=>?_⟩;obtain⟨b,off,h4,h5,h6⟩:=h3 hn;exact⟨b,off,h4,h5,λj x hx=>⟨(hk _ h5).trans (h6 j x hx).1,(hk _ h5).trans (h6 j x hx).2⟩⟩
theorem RdW.below {w w':World} {B B':Nat} {v:Value} {L:List Wr} (h:RdW w B v L) (hb:Below B' w w') (hB:B<=B'):RdW w' B v L:=h.keep λ_ hp=>hb.cell ω
theorem RdW.more {w:World} {B B':Nat} {v:Value} {L:List Wr} (h:RdW w B v L) (hB:B<=B'):RdW w B' v L:=by
 obtain⟨A,c,h1,h2,h3⟩:=h;refine⟨A,c,h1,h2,λhn=>?_⟩;obtain⟨b,off,h4,h5,h6⟩:=h3 hn;exact⟨b,off,h4,ω,h6⟩
theorem RdW.xPn (w:World) (B:Nat):RdW w B (.slice none 0 0) []:=⟨none,0,rfl,Nat.le_refl _,λh=>by simp at h⟩
structure RdD (w:World) (B:Nat) (a b:Value) (d:Dk):Prop where
 s:RdS w B a d.secs
 c:RdW w B b d.cache
 ls:d.secs.length<=1000000
 lc:d.cache.length<=1000000
theorem RdD.below {w w':World} {B B':Nat} {a b:Value} {d:Dk} (h:RdD w B a b d) (hb:Below B' w w') (hB:B<=B'):RdD w' B a b d:=⟨h.s.below hb hB,h.c.below hb hB,h.ls,h.lc⟩
theorem RdD.more {w:World} {B B':Nat} {a b:Value} {d:Dk} (h:RdD w B a b d) (hB:B<=B'):RdD w B' a b d:=⟨h.s.more hB,h.c.more hB,h.ls,h.lc⟩
theorem xQ8 (x:Wr) (n:Nat) (w:World):
  Calls prog 148 #[.agg #[.int .i64 x.at_,xR x.data],.int .i64 n] w λe w'=>e=.returned (.bool (tK x n))/\ψ w w':=by
 obtain⟨a,s⟩:=x;obtain⟨sb,hsb⟩:∃sb:ByteArray,(⟨s.toArray⟩:ByteArray)=sb:=⟨_,rfl⟩;have HF:Hid (tK ⟨a,s⟩ n=(decide (0<=a)&&decide (a<n)&&decide (sb.size=64))):=ι (by rw[<-hsb];rfl);show Calls prog 148 #[.agg #[.int .i64 a,.string ⟨s.toArray⟩],.int .i64 n] w _;rw[hsb]
 have hB:=xM w (.cells #[.int .i64 a,.string sb] 154);have c0:=xA hB 0;have c1:=xA hB 1;have HB:=ι (φ w (.cells #[.int .i64 a,.string sb] 154));clear hB hsb
 by_cases h1:0<=a
 ·by_cases h2:a<n
  ·by_cases h3:sb.size=64
   ·have h3i:(sb.size:Int)=64:=ω;have h3b:((sb.size:Int)==64)=true:=by simpa using h3i
    have HR:Hid (tK ⟨a,s⟩ n=true):=ι (by rw[HF.o];simp[h1,h2,h3]);clear h3;go_enter func148,ntmps148;go_wp2;go_ret;exact⟨by rw[HR.o];rfl,HB.o⟩
   ·have h3i:¬((sb.size:Int)=64):=ω;have h3b:((sb.size:Int)==64)=false:=by simpa using h3i
    have HR:Hid (tK ⟨a,s⟩ n=false):=ι (by rw[HF.o];simp[h3]);clear h3;go_enter func148,ntmps148;go_wp2;go_ret;exact⟨by rw[HR.o];rfl,HB.o⟩
  ·have HR:Hid (tK ⟨a,s⟩ n=false):=ι (by rw[HF.o];simp[h2]);go_enter func148,ntmps148;go_wp2;go_ret;exact⟨by rw[HR.o];rfl,HB.o⟩
 ·have HR:Hid (tK ⟨a,s⟩ n=false):=ι (by rw[HF.o];simp[h1]);go_enter func148,ntmps148;go_wp2;go_ret;exact⟨by rw[HR.o];rfl,HB.o⟩
theorem kD (va vb:Value) (d:Dk) (w:World) (h:RdD w w.heap.size va vb d):
  Calls prog 70 #[.agg #[va,vb]] w λe w'=>e=.returned (.bool (zD d))/\ψ w w':=by
 obtain⟨S,C⟩:=d;obtain⟨⟨A1,c1,rfl,hc1,h1⟩,⟨A2,c2,rfl,hc2,h2⟩,hls,hlc⟩:=h;have H1:=ι h1;have H2:=ι h2;simp only at hc1 hc2 hls hlc H1 H2⊢;have HF:Hid (zD ⟨S,C⟩=(decide (1<=S.length)&&decide (S.length<=1024)&&S.all (λs=>decide (s.length=64))&&C.all (λx=>tK x S.length))):=ι rfl
 have hB:=xM w (xW (.slice A1 S.length c1) (.slice A2 C.length c2));have HB:=ι (φ w (xW (.slice A1 S.length c1) (.slice A2 C.length c2)));have b0:=xA hB 0;have HBK:=ι hB;clear hB h1 h2
 by_cases g1:1<=S.length
 ·by_cases g2:S.length<=1024
  ·have i1:¬((S.length:Int)<1):=ω;have i2:¬(1024<(S.length:Int)):=ω;have HF2:Hid (zD ⟨S,C⟩=(S.all (λs=>decide (s.length=64))&&C.all (λx=>tK x S.length))):=ι (by rw[HF.o];simp[g1,g2]);clear HF;go_enter func70,ntmps70;go_wp2_with fail
   obtain⟨b,off,rfl,hbw,hcs⟩:=H1.o ω;have HCS:=ι hcs;clear H1 hcs b0;generalize w.alloc (xW (.slice (some ⟨b,off,none⟩) S.length c1) (.slice A2 C.length c2))=w0 at HB HBK⊢
   go_loopw [20] (λiv wr=>∃k:Nat,k<=S.length/\iv=.int .i64 k/\wr=w0/\Hid (∀r∈S.take k,decide (r.length=64)=true)) (λiv _=>S.length- (intOf iv).toNat)
   case atStart=>exact⟨0,Nat.zero_le _,rfl,rfl,ι σ⟩
   case round=>
    obtain⟨k,hk,rfl,rfl,hok⟩:=hrel
    by_cases hlt:k<S.length
    ·obtain⟨x,hx⟩:∃x,S[k]?=some x:=⟨_,List.getElem?_eq_getElem hlt⟩;have q0:=(HB.o.cell (p:=⟨b,off+k,none⟩) hbw).trans (HCS.o k x hx);have HX:=ι hx;clear hx;obtain⟨xb,hxb⟩:∃xb:ByteArray,(⟨x.toArray⟩:ByteArray)=xb:=⟨_,rfl⟩;have hxs:xb.size=x.length:=by rw[<-hxb];rfl
     have q1:wr.cell? ⟨b,off+k,none⟩=some (.string xb):=by rw[<-hxb];exact q0
     clear q0 hxb
     by_cases h64:x.length=64
     ·have e1:((xb.size:Int)!=64)=false:=by simp;omega
      have e2:(xb.size:Int)=64:=ω;have HO:=ι (xKe HX.o (by simpa using h64) hok.o);clear h64 hxs;go_wp2;exact⟨⟨k+1,ω,by go_num,trivial,HO⟩,by simp[intOf];omega⟩
     ·have e1:((xb.size:Int)!=64)=true:=by simp;omega
      have e2:¬((xb.size:Int)=64):=ω;have HR:Hid (zD ⟨S,C⟩=false):=ι (by rw[HF2.o,all_false HX.o (by simpa using h64)];rfl);clear h64 hxs;go_wp2;go_ret;exact⟨by rw[HR.o];rfl,HB.o⟩
    ·obtain rfl:k=S.length:=ω;have HF3:Hid (zD ⟨S,C⟩=C.all (λx=>tK x S.length)):=ι (by rw[HF2.o,all_true hok.o];rfl);clear HF2 hok HCS hlt;have b1:=xA HBK.o 1;go_wp2_with fail
     clear b1
     go_loopw [31] (λiv wx=>∃k:Nat,k<=C.length/\iv=.int .i64 k/\Hid (ψ wr wx)/\Hid (∀r∈C.take k,tK r S.length=true)) (λiv _=>C.length- (intOf iv).toNat)
     case atStart=>exact⟨0,Nat.zero_le _,rfl,ι (Below.refl _ _),ι σ⟩
     case round=>
      obtain⟨k,hk,rfl,hbx,hok⟩:=hrel
      by_cases hlt:k<C.length
      ·obtain⟨b2,xVr,rfl,hb2,hc2⟩:=H2.o ω;obtain⟨x,hx⟩:∃x,C[k]?=some x:=⟨_,List.getElem?_eq_getElem hlt⟩;obtain⟨p0,p1⟩:=hc2 k x hx;have HBX:=ι (HB.o.trans (hbx.o.mono HB.o.size));have q0:=(HBX.o.cell (p:=⟨b2,xVr+k*2,none⟩) hb2).trans p0
       have q1:=(HBX.o.cell (p:=⟨b2,xVr+k*2+1,none⟩) hb2).trans p1;have HX:=ι hx;have HFT:=ι (λW=>xQ8 x S.length W);have b0:=xA (xO (xD HBK.o hbx.o (xH HBK.o)) (.cells #[.int .i64 x.at_,.string ⟨x.data.toArray⟩] 154)) 0
       have HA:=ι (φ wr (.cells #[.int .i64 x.at_,.string ⟨x.data.toArray⟩] 154));obtain⟨a,s⟩:=x;simp only at q0 q1 HFT b0 HA;clear hc2 hx p0 p1 H2;go_wp2_with fail
       refine(HFT.o _).mono ?_;rintro e w5 ⟨rfl,hb5⟩;have HB5:=ι (hbx.o.trans ((HA.o.trans (hb5.mono HA.o.size)).mono hbx.o.size));clear hb5 HA b0 q0 q1 HFT;cases hft:tK ⟨a,s⟩ S.length with
       |true=>
        have HO:=ι (xKe HX.o hft hok.o);clear hft;go_wp2;exact⟨⟨k+1,ω,by go_num,HB5,HO⟩,by simp[intOf];omega⟩
       |false=>
        have HR:Hid (zD ⟨S,C⟩=false):=ι (by rw[HF3.o,all_false HX.o hft]);clear hft;go_wp2;go_ret;exact⟨by rw[HR.o];rfl,HB.o.trans (HB5.o.mono HB.o.size)⟩
      ·obtain rfl:k=C.length:=ω;have HR:Hid (zD ⟨S,C⟩=true):=ι (by rw[HF3.o,all_true hok.o]);clear hlt;go_wp2;go_ret;exact⟨by rw[HR.o];rfl,HB.o.trans (hbx.o.mono HB.o.size)⟩
  ·have i1:¬((S.length:Int)<1):=ω;have i2:1024<(S.length:Int):=ω;have HR:Hid (zD ⟨S,C⟩=false):=ι (by rw[HF.o];simp[g2]);go_enter func70,ntmps70;go_wp2;go_ret;exact⟨by rw[HR.o];rfl,HB.o⟩
 ·have i1:(S.length:Int)<1:=ω;have HR:Hid (zD ⟨S,C⟩=false):=ι (by rw[HF.o];simp[g1]);go_enter func70,ntmps70;go_wp2;go_ret;exact⟨by rw[HR.o];rfl,HB.o⟩
end Go.Proofs.DS
namespace Mailsack
def wrD (C:List Wr) (k:Nat):Wr:=C.getD k ⟨0,[]⟩
def rG (c:Nat->Bool) (C:List Wr) (S:List Bs):Nat->List Bs
 |0=>S
 |k+1=>if c k=true then(rG c C S k).set (wrD C k).at_.toNat (wrD C k).data else rG c C S k
theorem qZ (c:Nat->Bool) (C:List Wr) (S:List Bs):∀k,(rG c C S k).length=S.length
 |0=>rfl
 |k+1=>by
  unfold rG;split
  ·rw[List.length_set,qZ c C S k]
  ·exact qZ c C S k
def yH (d:Dk):Dk:=if zD d=true then⟨rG (λ_=>true) d.cache d.secs d.cache.length,[]⟩ else d
theorem xRs {d:Dk} (h:zD d=true):1<=d.secs.length/\d.secs.length<=1024:=by
 unfold zD at h;simp only[Bool.and_eq_true,decide_eq_true_eq] at h;exact⟨h.1.1.1,h.1.1.2⟩
theorem xVb {d:Dk} (h:zD d=true) {k:Nat} {x:Wr} (hx:d.cache[k]?=some x):0<=x.at_/\x.at_<d.secs.length/\x.data.length=64:=by
 unfold zD at h;simp only[Bool.and_eq_true] at h;have:=List.all_eq_true.1 h.2 x (List.mem_of_getElem? hx);unfold tK at this;simp only[Bool.and_eq_true,decide_eq_true_eq] at this;exact⟨this.1.1,this.1.2,this.2⟩
end Mailsack
namespace Go.Proofs.DS
open Go.RowKit Mailsack MM BB
theorem xOe (l:List Bs):(wJ l).toList=l.map xR:=by simp[wJ]
theorem kV.row {W:World} {g:Nat} {l:List Bs} (h:kV W g l) (l':List Bs):kV (W.setRow g (wJ l')) g l':=setRow_heap W g _ _ _ _ h.blk
theorem yEa {W:World} {g:Nat} {l:List Bs} (h:kV W g l) (S:List Bs) (hl:l.length=S.length) (b off c cd:Nat) (ty:TypeId) (hsrc:∀j x,S[j]?=some x->W.cell? ⟨b,off+j,none⟩=some (xR x)):
  (Builtin.copy_ #[22,22] ty #[.slice (some ⟨g,0,none⟩) S.length cd,.slice (some ⟨b,off,none⟩) S.length c]).run prog W=.ok (goInt S.length) (W.setRow g (wJ S)):=by
 have h3:=run_copy_row (P:=prog) W 22 22 ty 9 g 0 S.length cd ⟨b,off,none⟩ S.length c (wJ l) _ (S.map xR) underlying22 κ h.blk σ (λj v hv=>by
  rw[List.getElem?_map] at hv;obtain⟨x,hx,rfl⟩:=Option.map_eq_some_iff.1 hv;have hadd:(⟨b,off,none⟩:Addr).add j=⟨b,off+j,none⟩:=by unfold Addr.add;split<;>simp_all
  rw[hadd];exact hsrc j x hx) (by rw[xMa];simp;omega) (λv hv=>by
  obtain⟨x,_,rfl⟩:=List.mem_map.1 hv
  rfl)
 have hrow:((wJ l).toList.take 0++S.map xR++(wJ l).toList.drop (0+(S.map xR).length)).toArray=wJ S:=by
  rw[xOe];simp[wJ,<-hl]
 rw[h3,hrow];simp
theorem xUq (w:World) (o o' o'':Obj):(((w.alloc o).alloc o').alloc o'').heap[w.heap.size+1+1]?=some o'':=by
 have:=xM ((w.alloc o).alloc o') o''
 rwa [show((w.alloc o).alloc o').heap.size=w.heap.size+1+1 by simp] at this
structure PfI (w:World) (g:Nat) (va vb:Value) (l:List Bs) (W:World):Prop where
 box:W.heap[w.heap.size]?=some (xW va vb)
 res:W.heap[w.heap.size+1]?=some (xW (.slice none 0 0) (.slice none 0 0))
 row:kV W g l
 bel:ψ w W
 lo:w.heap.size+1<g
theorem PfI.call {w:World} {g:Nat} {va vb:Value} {l:List Bs} {W W':World} (h:PfI w g va vb l W) (hb:ψ W W'):PfI w g va vb l W':=
 ⟨xD h.box hb (xH h.box),xD h.res hb (xH h.res),h.row.below hb h.row.lt,h.bel.trans (hb.mono h.bel.size),h.lo⟩
theorem PfI.put {w:World} {g:Nat} {va vb:Value} {l:List Bs} {W:World} (h:PfI w g va vb l W) (i:Nat) (x:Bs):PfI w g va vb (l.set i x) (W.setCell ⟨g,i,none⟩ (xR x)):=
 ⟨yC h.box (p:=⟨g,i,none⟩) (by have:=h.lo;simp;omega) _,yC h.res (p:=⟨g,i,none⟩) (by have:=h.lo;simp;omega) _,h.row.put i x,h.bel.setCell (p:=⟨g,i,none⟩) (by have:=h.lo;simp;omega) _,h.lo⟩
theorem xNs (va vb:Value) (d:Dk) (fid:FuncId) (fr:Array Value) (c:Nat->Bool) (w:World) (h:RdD w w.heap.size va vb d) (hr:zD d=true) (hE:∀args W,(callFunc fid args).run prog W=.ok (.enter fid args) W)
  (hc:∀i W,i<d.cache.length->ψ w W->Calls prog fid (#[.int .i64 (i:Int)]++fr) W λe w'=>e=.returned (.bool (c i))/\ψ W w'):
  Calls prog 177 #[.agg #[va,vb],.func (.func fid) #[] fr] w λe w'=>∃g,e=.returned (.agg #[.slice (some ⟨g,0,none⟩) d.secs.length d.secs.length,.slice none 0 0])/\kV w' g (rG c d.cache d.secs d.cache.length)/\w.heap.size<g/\ψ w w':=by
 obtain⟨hn1,hn2⟩:=xRs hr;have HFIT:=ι (λ(k:Nat) (x:Wr) (hx:d.cache[k]?=some x)=>xVb hr hx);have HC:=ι hc;obtain⟨S,C⟩:=d;obtain⟨⟨A1,c1,rfl,hc1,h1⟩,⟨A2,c2,rfl,hc2,h2⟩,hls,hlc⟩:=h;simp only at hn1 hn2 hc1 hc2 h1 h2 hls hlc HFIT HC⊢;obtain⟨b,off,rfl,hbw,hcs⟩:=h1 ω;have HCS:=ι hcs
 have H2:=ι h2;have t0:=zV w (xW (.slice (some ⟨b,off,none⟩) S.length c1) (.slice A2 C.length c2)) (xW (.slice none 0 0) (.slice none 0 0));have t1:=zK w (xW (.slice (some ⟨b,off,none⟩) S.length c1) (.slice A2 C.length c2)) (xW (.slice none 0 0) (.slice none 0 0))
 have HB0:=ι ((φ w (xW (.slice (some ⟨b,off,none⟩) S.length c1) (.slice A2 C.length c2))).alloc σ (xW (.slice none 0 0) (.slice none 0 0)));have HT0:=ι t0;have HT1:=ι t1;have k0:=xA t0 0;have hmk:=λW=>madeS W S.length ω;clear hr hc hcs h1 h2 t0 t1
 go_enter func177,ntmps177;go_upto_region 2 with fail
 have HP:Hid (PfI w (w.heap.size+1+1) (.slice (some ⟨b,off,none⟩) S.length c1) (.slice A2 C.length c2) (List.replicate S.length []) (((w.alloc (xW (.slice (some ⟨b,off,none⟩) S.length c1) (.slice A2 C.length c2))).alloc (xW (.slice none 0 0) (.slice none 0 0))).alloc (.cells (wJ (List.replicate S.length [])) 9))):=
  ι ⟨xO HT0.o _,xO HT1.o _,xUq _ _ _ _,HB0.o.alloc HB0.o.size _,ω⟩
 generalize ((w.alloc (xW (.slice (some ⟨b,off,none⟩) S.length c1) (.slice A2 C.length c2))).alloc (xW (.slice none 0 0) (.slice none 0 0))).alloc (.cells (wJ (List.replicate S.length [])) 9)=w3 at HP⊢;generalize w.heap.size+1+1=g at HP⊢;clear k0 hmk HT0 HT1 HB0
 have k0:=xA HP.o.box 0;have hcp:=yEa HP.o.row S σ b off c1 S.length 3 (λj x hx=>(HP.o.bel.cell (p:=⟨b,off+j,none⟩) hbw).trans (HCS.o j x hx));go_upto_region 3 with fail
 have HP2:Hid (PfI w g (.slice (some ⟨b,off,none⟩) S.length c1) (.slice A2 C.length c2) (rG c C S 0) (w3.setRow g (wJ S))):=
  ι ⟨by rw[setRow_other _ _ _ _ (by have:=HP.o.lo;omega)];exact HP.o.box,by rw[setRow_other _ _ _ _ (by have:=HP.o.lo;omega)];exact HP.o.res,kV.row HP.o.row S,below_setRow HP.o.bel (by have:=HP.o.lo;omega) _,HP.o.lo⟩
 generalize w3.setRow g (wJ S)=w4 at HP2⊢;clear HP hcp HCS k0;have k1:=xA HP2.o.box 1;go_wp2_with fail
 clear k1
 go_loopw [19] (λiv wr=>∃k:Nat,k<=C.length/\iv=.int .i64 k/\Hid (PfI w g (.slice (some ⟨b,off,none⟩) S.length c1) (.slice A2 C.length c2) (rG c C S k) wr)) (λiv _=>C.length- (intOf iv).toNat)
 case atStart=>exact⟨0,Nat.zero_le _,rfl,HP2⟩
 case round=>
  obtain⟨k,hk,rfl,hr⟩:=hrel;clear HP2
  by_cases hlt:k<C.length
  ·obtain⟨b2,xVr,rfl,hb2,hc2⟩:=H2.o ω;obtain⟨x,hx⟩:∃x,C[k]?=some x:=⟨_,List.getElem?_eq_getElem hlt⟩;obtain⟨p0,p1⟩:=hc2 k x hx;have q0:=(hr.o.bel.cell (p:=⟨b2,xVr+k*2,none⟩) hb2).trans p0;have q1:=(hr.o.bel.cell (p:=⟨b2,xVr+k*2+1,none⟩) hb2).trans p1
   obtain⟨f0,f1,f2⟩:=HFIT.o k x hx;have HD:Hid (wrD C k=x):=ι (by unfold wrD;rw[List.getD_eq_getElem?_getD,hx];rfl);obtain⟨a,s⟩:=x;simp only at q0 q1 f0 f1 f2;have HA:=ι (hr.o.call (φ wr (.cells #[.int .i64 a,xR s] 154)));have hbk:=xM wr (.cells #[.int .i64 a,xR s] 154)
   have hcc:=HC.o k (wr.alloc (.cells #[.int .i64 a,xR s] 154)) hlt HA.o.bel;have HBK:=ι hbk;have HCC:=ι hcc;clear hc2 hx p0 p1 H2 hbk hcc;go_wp2_with fail
   refine HCC.o.mono ?_;rintro e w5 ⟨rfl,hb5⟩;have hk5:=xD HBK.o hb5 (xH HBK.o);have HR5:=ι (HA.o.call hb5);have m0:=xA hk5 0;have m1:=xA hk5 1;clear HA HBK HCC hb5 hk5 q0 q1 hr;cases hck:c k with
   |true=>
    have HPL:Hid (rG c C S (k+1)=(rG c C S k).set a.toNat s):=ι (by rw[rG,if_pos hck,HD.o]);obtain⟨an,rfl⟩:∃an:Nat,a=an:=⟨a.toNat,ω⟩;have hal:an<(rG c C S k).length:=by rw[qZ];omega
    obtain⟨y,hy⟩:∃y,(rG c C S k)[an]?=some y:=⟨_,List.getElem?_eq_getElem hal⟩;have cy:=HR5.o.row.cell hy;have yy:=HR5.o.row.free an;have HE5:=ι (HR5.o.put an s);have hpl:=HPL.o;simp only[Int.toNat_natCast] at hpl;rw[<-hpl] at HE5;clear hck HPL hal hy hpl HD;go_wp2
    exact⟨⟨k+1,ω,by go_num,HE5⟩,by simp[intOf];omega⟩
   |false=>
    have HPL:Hid (rG c C S (k+1)=rG c C S k):=ι (by rw[rG,if_neg (by rw[hck];simp)]);clear hck HD;go_wp2;exact⟨⟨k+1,ω,by go_num,by rw[HPL.o];exact HR5⟩,by simp[intOf];omega⟩
  ·obtain rfl:k=C.length:=ω;have c0:=xA hr.o.res 0;have c1:=xA hr.o.res 1;have y0:=xB hr.o.res 0;have y1:=xB hr.o.res 1;have hB:=xY (xY hr.o.res 0 (.slice (some ⟨g,0,none⟩) S.length S.length)) 1 (.slice none 0 0);have f0:=xA hB 0;have f1:=xA hB 1
   simp only[List.setIfInBounds_toArray,List.set_cons_zero,List.set_cons_succ,gA,gC,gB] at f0 f1;clear hB hlt H2 HC HFIT;have HL:Hid (w.heap.size+1<g):=ι hr.o.lo;go_wp2
   refine bodyPost_ret (v:=.agg #[.slice (some ⟨g,0,none⟩) S.length S.length,.slice none 0 0]) (by simp[results,results177,go_sem,f0,f1]) rfl ?_;have hlo:=HL.o;refine⟨g,rfl,?_,ω,?_⟩
   ·exact(hr.o.row.far (p:=⟨w.heap.size+1,0,none⟩) (by simp;omega) _).far (p:=⟨w.heap.size+1,1,none⟩) (by simp;omega) _
   ·exact(hr.o.bel.setCell (p:=⟨w.heap.size+1,0,none⟩) σ _).setCell (p:=⟨w.heap.size+1,1,none⟩) σ _
def noB (n:Nat):Array Value:=(List.replicate n (Value.bool false)).toArray
theorem xZn (n:Nat):madeCells (Value.cells (.bool false)) (n*1)=noB n:=by
 apply Array.ext_getElem?;intro i
 by_cases h:i<n
 ·have:(noB n)[i]?=some (.bool false):=by simp[noB,h]
  rw[this];simp[madeCells,Value.cells,h,Nat.mod_one]
 ·rw[Array.getElem?_eq_none (by simp[madeCells];omega),Array.getElem?_eq_none (by simp[noB];omega)]
theorem madeB (W:World) (n:Nat) (hm:n<=1000000):(Instr.makeSlice 317 (.int .i64 (n:Int)) (.int .i64 (n:Int))).run prog W=.ok (.slice (some ⟨W.heap.size,0,none⟩) n n) (W.alloc (.cells (noB n) 4)):=by
 have hinfo:(prog.info? 4).map (λi=>(i.zero,i.size,i.bytes))=some (some (.bool false),1,1):=κ;cases hq:prog.info? 4 with
 |none=>rw[hq] at hinfo;cases hinfo
 |some i=>
  rw[hq] at hinfo;simp only[Option.map_some,Option.some.injEq,Prod.mk.injEq] at hinfo;obtain⟨hz,hs,hb⟩:=hinfo;have h:=run_make (P:=prog) (w:=W) 317 4 i _ underlying317 hq hz .i64 .i64 (n:Int) (n:Int) ω ω (by rw[hb];omega) ω;simp only[Int.toNat_natCast] at h
  rw[hs,xZn] at h;exact h
theorem xY1 (i:Int) (w:World):Calls prog 178 #[.int .i64 i] w λe w'=>e=.returned (.bool true)/\ψ w w':=by
 go_enter func178,ntmps178;go_wp2;go_ret;exact⟨rfl,Below.refl _ _⟩
theorem xG8 (va vb:Value) (d:Dk) (w:World) (h:RdD w w.heap.size va vb d):
  Calls prog 91 #[.agg #[va,vb]] w λe w'=>∃va' vb',e=.returned (.agg #[va',vb'])/\RdD w' w'.heap.size va' vb' (yH d)/\(zD d=true->∃g,va'=.slice (some ⟨g,0,none⟩) d.secs.length d.secs.length/\kV w' g (yH d).secs)/\ψ w w':=by
 obtain⟨A1,c1,rfl,_,_⟩:=h.s;obtain⟨A2,c2,rfl,_,_⟩:=h.c;have t0:=zV w (xW (.slice A1 d.secs.length c1) (.slice A2 d.cache.length c2)) (xW (.slice none 0 0) (.slice none 0 0))
 have t1:=zK w (xW (.slice A1 d.secs.length c1) (.slice A2 d.cache.length c2)) (xW (.slice none 0 0) (.slice none 0 0));have HB0:=ι ((φ w (xW (.slice A1 d.secs.length c1) (.slice A2 d.cache.length c2))).alloc σ (xW (.slice none 0 0) (.slice none 0 0)));have HD:=ι h
 have HRT:=ι (λW (hb:ψ w W)=>kD _ _ d W ((h.below hb ν).more hb.size));have HT0:=ι t0;have HT1:=ι t1;have k0:=xA t0 0;have k1:=xA t0 1;clear h t0 t1;go_enter func91,ntmps91;go_wp2_with fail
 refine(HRT.o _ HB0.o).mono ?_;rintro e w1 ⟨rfl,hb1⟩;have HB1:=ι (HB0.o.trans (hb1.mono HB0.o.size));have HT0':=ι (xD HT0.o hb1 (xH HT0.o));have yAz:=ι (xD HT1.o hb1 (xH HT1.o));clear HT0 HT1 HB0 hb1 k0 k1 HRT;have k0:=xA HT0'.o 0;have k1:=xA HT0'.o 1;cases hr:zD d with
 |false=>
  have j0:=xA yAz.o 0;have j1:=xA yAz.o 1;have y0:=xB yAz.o 0;have y1:=xB yAz.o 1;have hB:=xY (xY yAz.o 0 (.slice A1 d.secs.length c1)) 1 (.slice A2 d.cache.length c2);have f0:=xA hB 0;have f1:=xA hB 1
  simp only[List.setIfInBounds_toArray,List.set_cons_zero,List.set_cons_succ,gA,gC,gB] at f0 f1;have HF:Hid (yH d=d):=ι (by unfold yH;rw[if_neg (by rw[hr];simp)]);have HRF:=ι hr;clear hB hr;go_wp2
  refine bodyPost_ret (v:=.agg #[.slice A1 d.secs.length c1,.slice A2 d.cache.length c2]) (by simp[results,results91,go_sem,f0,f1]) rfl ?_
  have hb:=(HB1.o.setCell (p:=⟨w.heap.size+1,0,none⟩) σ (.slice A1 d.secs.length c1)).setCell (p:=⟨w.heap.size+1,1,none⟩) σ (.slice A2 d.cache.length c2);refine⟨_,_,rfl,?_,(λh=>by rw[HRF.o] at h;cases h),hb⟩;rw[HF.o];exact(HD.o.below hb ν).more hb.size
 |true=>
  have HPF:=ι (xNs _ _ d 178 #[] (λ_=>true) w1 ((HD.o.below HB1.o ν).more HB1.o.size) hr (λargs W=>enters_of func178 κ rfl args W) (λi W _ _=>by have:=xY1 i W;simpa using this))
  have HF:Hid (yH d=⟨rG (λ_=>true) d.cache d.secs d.cache.length,[]⟩):=ι (by unfold yH;rw[if_pos hr]);clear hr;go_wp2_with fail
  refine HPF.o.mono ?_;rintro e w2 ⟨g,rfl,hs,hg,hb2⟩;have HT2:=ι (xD yAz.o hb2 (xH yAz.o));have HS2:=ι hs;have HB2:=ι (HB1.o.trans (hb2.mono HB1.o.size));have hgw:w.heap.size+1<g:=by have:=xH yAz.o;omega
  clear HPF hs hg hb2 HT0' yAz HB1 k0 k1;have j0:=xA HT2.o 0;have j1:=xA HT2.o 1;have y0:=xB HT2.o 0;have y1:=xB HT2.o 1;have hB:=xY (xY HT2.o 0 (.slice (some ⟨g,0,none⟩) d.secs.length d.secs.length)) 1 (.slice none 0 0);have f0:=xA hB 0;have f1:=xA hB 1
  simp only[List.setIfInBounds_toArray,List.set_cons_zero,List.set_cons_succ,gA,gC,gB] at f0 f1;clear hB;go_wp2;refine bodyPost_ret (v:=.agg #[.slice (some ⟨g,0,none⟩) d.secs.length d.secs.length,.slice none 0 0]) (by simp[results,results91,go_sem,f0,f1]) rfl ?_
  have hb:=(HB2.o.setCell (p:=⟨w.heap.size+1,0,none⟩) σ (.slice (some ⟨g,0,none⟩) d.secs.length d.secs.length)).setCell (p:=⟨w.heap.size+1,1,none⟩) σ (.slice none 0 0)
  have hs2:=(HS2.o.far (p:=⟨w.heap.size+1,0,none⟩) (by simp;omega) (.slice (some ⟨g,0,none⟩) d.secs.length d.secs.length)).far (p:=⟨w.heap.size+1,1,none⟩) (by simp;omega) (.slice none 0 0);refine⟨_,_,rfl,?_,λ_=>⟨g,rfl,?_⟩,hb⟩
  ·rw[HF.o];refine⟨?_,RdW.xPn _ _,?_,σ⟩
   ·have hl:=qZ (λ_=>true) d.cache d.secs d.cache.length;have:=hs2.rd d.secs.length ω;rw[hl] at this;exact this.more (by have:=hs2.lt;omega)
   ·show(rG _ _ _ _).length<=_;rw[qZ];exact HD.o.ls
  ·rw[HF.o];exact hs2
end Go.Proofs.DS
namespace Go.Proofs.DS
open Go.RowKit Mailsack MM BB SH
theorem xL4 (va vb:Value) (d:Dk) (w:World) (h:RdD w w.heap.size va vb d):
  Calls prog 269 #[.agg #[va,vb]] w λe w'=>e=.returned (.bool (decide (61<d.secs.length)&&zD d))/\ψ w w':=by
 obtain⟨A1,c1,rfl,_,_⟩:=h.s;obtain⟨A2,c2,rfl,_,_⟩:=h.c;have hb:=xM w (xW (.slice A1 d.secs.length c1) (.slice A2 d.cache.length c2));have HB:=ι (φ w (xW (.slice A1 d.secs.length c1) (.slice A2 d.cache.length c2)))
 have HRT:=ι (λW (hb:ψ w W)=>kD _ _ d W ((h.below hb ν).more hb.size));have k0:=xA hb 0;have k1:=xA hb 1;clear h hb
 by_cases hl:61<d.secs.length
 ·have hi:61<(d.secs.length:Int):=ω;have HD:Hid (decide (61<d.secs.length)=true):=ι (by simpa using hl);go_enter func269,ntmps269;go_wp2_with fail
  refine(HRT.o _ HB.o).mono ?_;rintro e w1 ⟨rfl,hb1⟩;have HB1:=ι (HB.o.trans (hb1.mono HB.o.size));have HE:Hid ((decide (61<d.secs.length)&&zD d)=zD d):=ι (by rw[HD.o,Bool.true_and]);clear hb1;go_wp2;go_ret;exact⟨by rw[HE.o];rfl,HB1.o⟩
 ·have hi:¬(61<(d.secs.length:Int)):=ω;have HE:Hid ((decide (61<d.secs.length)&&zD d)=false):=ι (by simp[hl]);go_enter func269,ntmps269;go_wp2;go_ret;exact⟨rfl,HB.o⟩
end Go.Proofs.DS
namespace Mailsack
structure Op where
 flush:Bool
 w:Wr
def xBn (d:Dk):Bool:=decide (61<d.secs.length)&&zD d
def xZa (d:Dk) (x:Wr):Dk:=⟨d.secs,d.cache++[x]⟩
def jY (d:Dk) (o:Op):Dk:=if o.flush=true then yH d else if (zD d&&tK o.w d.secs.length)=true then xZa d o.w else d
def vU (d:Dk) (l:List Op):Dk:=l.foldl jY d
def xGj (a:Int):Bs:=[oct a,oct (a / 256),oct (a / 65536),oct (a / 16777216)]++xP 60
theorem xMc (a:Int):(xGj a).length=64:=by simp[xGj,xP]
def xXb (x:Wr):Bs:=xGj x.at_++x.data
def xSq (n:Nat) (all:Bs):Bs:=74::oct n::(xH7 (bsA all)++xP 30)
def wOp (a:Int) (b:Bs):Op:=⟨false,⟨a,b⟩⟩
def fOp:Op:=⟨true,⟨0,[]⟩⟩
def qL:Nat->List Wr->List Op
 |_,[]=>[]
 |i,x::l=>wOp (1+2*(i:Int)) (xGj x.at_)::wOp (2+2*(i:Int)) x.data::qL (i+1) l
theorem xF8:∀(l:List Wr) (i:Nat),(qL i l).length=2*l.length
 |[],_=>rfl
 |x::l,i=>by simp[qL,xF8 l];omega
theorem xM2:∀(l:List Wr) (i:Nat) (x:Wr),qL i (l++[x])=qL i l++[wOp (1+2*((i+l.length:Nat):Int)) (xGj x.at_),wOp (2+2*((i+l.length:Nat):Int)) x.data]
 |[],_,_=>by simp[qL]
 |y::l,i,x=>by
  simp only[List.cons_append,qL,xM2 l (i+1) x,List.length_cons];rw[show i+1+l.length=i+(l.length+1) by omega]
def xIu (l:List Wr):Bs:=(l.map xXb).flatten
def jR (l:List Wr):List Op:=qL 0 l++[fOp,wOp 0 (xSq l.length (xIu l)),fOp]++l.map (λx=>⟨false,x⟩)++[fOp,wOp 0 (xP 64),fOp]
def xO9 (n:Nat) (x:Wr):Bool:=decide (61<=x.at_)&&decide (x.at_<n)&&decide (x.data.length=64)
def vY (d:Dk) (l:List Wr):Int:=
 if xBn d=false∨l.length=0 then 1 else if l.all (xO9 d.secs.length)=false then 1 else if 30<l.length then 4 else 0
def xC3 (d:Dk) (l:List Wr):Dk:=if vY d l=0 then vU d (jR l) else⟨[],[]⟩
structure Slot where
 used:Bool
 cls:Nat
 blk:Nat
 size:Nat
 name:Bs
deriving DecidableEq
def noSlot:Slot:=⟨false,0,0,0,[]⟩
def jU (c:Nat):Nat:=if c=0 then 24 else 12
def xIn (c:Nat):Nat:=if c=0 then 256 else 1024
def xS2 (s:Bs) (n:Nat):Bs:=s++xP (n-s.length)
def xZ1 (t:Slot):Bs:=[1,oct t.cls,oct t.blk,oct t.size,oct (t.size / 256:Nat),oct t.name.length]++t.name
def xQd (t:Slot):Bs:=if t.used=true then xS2 (xZ1 t) 64 else xS2 [] 64
def bN (s:Bs) (i:Nat):Nat:=(s.getD i 0).toNat
theorem xT8 (s:Bs) (i:Nat):bN s i<256:=UInt8.toNat_lt _
def qB (s:Bs):Slot:=⟨true,bN s 1,bN s 2,bN s 3+256*bN s 4,(s.drop 6).take (bN s 5)⟩
def xPk (s:Bs):Bool:=decide (bN s 0=1)&&decide (bN s 1<=1)&&decide (bN s 2<jU (bN s 1))&&decide (bN s 3+256*bN s 4<=xIn (bN s 1))&&decide (1<=bN s 5)&&decide (bN s 5<=24)
def xQi (s:Bs):Slot:=if xPk s=true then(if s=xQd (qB s) then qB s else noSlot) else noSlot
def wS (d:Dk):Bool:=decide (d.secs.length=381)&&zD d
def yS (S:List Bs):List Slot:=((S.drop 61).take 32).map xQi
def xQ2 {α:Type} (p:α->Bool):List α->Int
 |[]=>-1
 |x::l=>if p x=true then 0 else if xQ2 p l<0 then -1 else xQ2 p l+1
def xEh (n:Bs) (t:Slot):Bool:=t.used&&t.name==n
def rM (l:List Slot) (n:Bs):Int:=xQ2 (xEh n) l
def kN (c b:Nat):Nat:=if c=0 then 93+b*4 else 189+b*16
def countP (c:Nat):Nat:=if c=0 then 4 else 16
def xHv (l:List Slot) (i:Int):Slot:=l.getD i.toNat noSlot
def yCv (S:List Bs) (t:Slot):Bs:=(((S.drop (kN t.cls t.blk)).take (countP t.cls)).flatten).take t.size
def xWx (d:Dk) (n:Bs):Int:=if wS d=true then(if rM (yS (yH d).secs) n<0 then 6 else 0) else 1
def yAa (d:Dk) (n:Bs):Bs:=if xWx d n=0 then yCv (yH d).secs (xHv (yS (yH d).secs) (rM (yS (yH d).secs) n)) else[]
def vZ (h:List Nat) (n:Nat):Nat->Nat->List Nat
 |0,_=>h
 |f+1,i=>
  if n<=2*i+1 then h
  else
   let j:=if 2*i+2<n/\h.getD (2*i+2) 0<h.getD (2*i+1) 0 then 2*i+2 else 2*i+1
   if h.getD j 0<h.getD i 0 then vZ ((h.set i (h.getD j 0)).set j (h.getD i 0)) n f j else h
def xM3 (h:List Nat):Nat->List Nat
 |0=>h
 |i+1=>xM3 (vZ h h.length h.length i) i
def xSn (h:List Nat):List Nat:=xM3 h (h.length / 2)
def xH0 (h:List Nat):List Nat:=(vZ ((h.set 0 (h.getD (h.length-1) 0)).set (h.length-1) (h.getD 0 0)) (h.length-1) (h.length-1) 0).dropLast
structure Ch where
 name:Bs
 data:Bs
 gone:Bool
structure StS where
 slots:List Slot
 xAr:List Nat
 xAq:List Nat
 writes:List Wr
def StS.free (s:StS) (c:Nat):List Nat:=if c=0 then s.xAr else s.xAq
def uD (l:List Slot) (c:Nat):List Nat:=(l.filter λt=>t.used&&t.cls==c).map (·.blk)
def xDv (n:Nat) (tk:List Nat):List Nat:=xSn ((List.range n).filter λi=>!tk.contains i)
def xAh (c b:Nat) (data:Bs):List Wr:=(List.range (countP c)).map λi=>⟨((kN c b+i:Nat):Int),((xS2 data (xIn c)).drop (i*64)).take 64⟩
def setW (i:Nat) (t:Slot):Wr:=⟨((61+i:Nat):Int),xQd t⟩
def putAt (s:StS) (i:Nat) (t:Slot):StS:={s with slots:=s.slots.set i t,writes:=s.writes++[setW i t]}
def xJf (s:StS) (c:Nat):StS:=if c=0 then {s with xAr:=xH0 s.xAr} else {s with xAq:=xH0 s.xAq}
def xEd (l:List Slot) (n:Bs):Int:=if rM l n<0 then xQ2 (λt=>!t.used) l else rM l n
def wB (data:Bs):Nat:=if 256<data.length then 1 else 0
def xGp (s:StS) (c:Ch):Int:=
 if c.name.length<1∨24<c.name.length then 1
 else if c.gone=true then(if rM s.slots c.name<0 then 6 else 0)
 else if 1024<c.data.length then 4
 else if xEd s.slots c.name<0 then 5
 else if (s.free (wB c.data)).length=0 then 5 else 0
def pM (c:Ch) (b:Nat):Slot:=⟨true,wB c.data,b,c.data.length,c.name⟩
def xKa (s:StS) (c:Ch):StS:=
 if c.gone=true then putAt s (rM s.slots c.name).toNat noSlot
 else
  let k:=wB c.data
  let b:=(s.free k).getD 0 0
  let s1:=xJf s k
  putAt {s1 with writes:=s1.writes++xAh k b c.data} (xEd s.slots c.name).toNat (pM c b)
def uP:StS->List Ch->StS×Int
 |s,[]=>(s,0)
 |s,c::l=>if xGp s c=0 then uP (xKa s c) l else(s,xGp s c)
def stS (d:Dk):StS:=⟨yS (yH d).secs,xDv 24 (uD (yS (yH d).secs) 0),xDv 12 (uD (yS (yH d).secs) 1),[]⟩
def jP (d:Dk) (l:List Ch):Int:=if wS d=true then(if (uP (stS d) l).2=0 then(if 30<(uP (stS d) l).1.writes.length then 4 else 0) else(uP (stS d) l).2) else 1
def wC (d:Dk) (l:List Ch):List Wr:=if jP d l=0 then(uP (stS d) l).1.writes else[]
def kH (d:Dk) (l:List Ch):Int:=if jP d l=0 then(if (wC d l).length=0 then 0 else vY d (wC d l)) else jP d l
def uY (d:Dk) (l:List Ch):Dk:=if jP d l=0 then(if (wC d l).length=0 then yH d else xC3 d (wC d l)) else⟨[],[]⟩
def xN6 (c:Int):Bool:=!((decide (c<97)||decide (122<c))&&(decide (c<48)||decide (57<c)))
def xBv (s:ByteArray):Nat->Bool
 |0=>true
 |k+1=>xBv s k&&xN6 (yQ s k)
def vO (s:ByteArray):Bool:=decide (1<=s.size)&&decide (s.size<=8)&&xBv s s.size
theorem xN7 (s:ByteArray) (k:Nat) (h:xBv s k=false):∀n,k<=n->xBv s n=false:=by
 intro n hn
 induction n with
 |zero=>rw[show k=0 by omega] at h;exact h
 |succ n ih=>
  by_cases e:k=n+1
  ·rw[<-e];exact h
  ·rw[xBv,ih ω,Bool.false_and]
def wH (xJe:ByteArray):ByteArray:=bsA (xK7 xJe ⟨#[]⟩ ⟨#[105,110,100,101,120]⟩ 32)
theorem xHa (p:ByteArray):(wH p).size=32:=by rw[wH,yN,xGd]
end Mailsack
namespace Go.Proofs.SH
open Go.RowKit Mailsack MM BB
theorem xM4 (p:ByteArray) (w:World) (hp:p.size<=1000000) (hT:vT w):
  Calls prog 94 #[.string p] w λe w'=>e=.returned (.tuple #[.string (wH p),.int .i64 0])/\ψ w w':=by
 have HD:Hid (Calls prog 163 #[.string p,.string ⟨#[]⟩,.string ⟨#[105,110,100,101,120]⟩,.int .i64 32] w λe w'=>e=.returned (.tuple #[.string (wH p),.int .i64 0])/\ψ w w'):=ι (xK6 p ⟨#[]⟩ ⟨#[105,110,100,101,120]⟩ 32 w ω δ δ δ hT);generalize wH p=r at HD⊢;clear hT
 go_enter func94,ntmps94;go_wp2_with fail
 refine HD.o.mono ?_;rintro e w1 ⟨rfl,hb1⟩;have B1:=ι hb1;go_wp2;go_ret2;exact⟨rfl,B1.o⟩
theorem xJ9 (s:ByteArray) (w:World) (hs:s.size<=1099511627776):
  Calls prog 262 #[.string s] w λe w'=>e=.returned (.bool (vO s))/\w'=w:=by
 by_cases h1:s.size<1
 ·have HR:Hid (vO s=false):=ι (by unfold vO;rw[show decide (1<=s.size)=false from decide_eq_false ω];rfl);rw[HR.o];have hi:(s.size:Int)<1:=ω;clear h1 hs;go_enter func262,ntmps262;go_wp2;go_ret;exact⟨rfl,rfl⟩
 ·by_cases h8:8<s.size
  ·have HR:Hid (vO s=false):=ι (by unfold vO;rw[show decide (s.size<=8)=false from decide_eq_false ω];simp);rw[HR.o];have hi:¬(s.size:Int)<1:=ω;have hj:8<(s.size:Int):=ω;clear h1 h8 hs;go_enter func262,ntmps262;go_wp2;go_ret;exact⟨rfl,rfl⟩
  ·have HR:Hid (vO s=xBv s s.size):=ι (by unfold vO;rw[show decide (1<=s.size)=true from decide_eq_true ω,show decide (s.size<=8)=true from decide_eq_true ω];rfl);rw[HR.o];have hi:¬(s.size:Int)<1:=ω;have hj:¬8<(s.size:Int):=ω
   have HE:Hid (∀n,n=s.size->xBv s n=xBv s s.size):=ι (λn hn=>by rw[hn]);have HLT:=ι (xN7 s);have HSS:Hid (∀k,xBv s (k+1)=(xBv s k&&xN6 (yQ s k))):=ι (λk=>rfl);have HS0:Hid (xBv s 0=true):=ι rfl;generalize hres:xBv s s.size=res at HE⊢;have HRES:=ι hres;clear h1 h8 hs HR hres
   go_enter func262,ntmps262;go_wp2_with fail
   clear hi
   go_loopw [14] (λiv W=>∃k:Nat,k<=s.size/\iv=.int .i64 k/\Hid (xBv s k=true)/\W=w) (λiv _=>s.size- (intOf iv).toNat)
   case atStart=>exact⟨0,Nat.zero_le _,rfl,HS0,rfl⟩
   case round=>
    obtain⟨k,hk,rfl,hu,rfl⟩:=hrel
    by_cases hlt:k<s.size
    ·have i1:=λw=>zL (P:=prog) underlying9 s (k:Int) k rfl hlt w;obtain⟨c0,c1⟩:=yR s k;have HSk:=ι (HSS.o k);generalize yQ s k=c at i1 c0 c1 HSk;have hcase:(97<=c/\c<=122)∨(48<=c/\c<=57)∨c<48∨(57<c/\c<97)∨122<c:=ω;rcases hcase with ⟨k1,k2⟩|⟨k1,k2⟩|k1|⟨k1,k2⟩|k1
     ·have k3:¬c<97:=ω;have k4:¬122<c:=ω;have HN:Hid (xBv s (k+1)=true):=ι (by rw[HSk.o,hu.o];unfold xN6;simp;omega);go_wp2;exact⟨⟨k+1,ω,by go_num,HN,trivial⟩,by simp[intOf];omega⟩
     ·have k3:c<97:=ω;have k4:¬c<48:=ω;have k5:¬57<c:=ω;have HN:Hid (xBv s (k+1)=true):=ι (by rw[HSk.o,hu.o];unfold xN6;simp;omega);go_wp2;exact⟨⟨k+1,ω,by go_num,HN,trivial⟩,by simp[intOf];omega⟩
     ·have k3:c<97:=ω;have HN:Hid (res=false):=ι (by rw[<-HRES.o];exact HLT.o (k+1) (by rw[HSk.o];unfold xN6;simp;omega) s.size ω);go_wp2;go_ret;rw[HN.o];exact⟨rfl,rfl⟩
     ·have k3:c<97:=ω;have k4:¬c<48:=ω;have HN:Hid (res=false):=ι (by rw[<-HRES.o];exact HLT.o (k+1) (by rw[HSk.o];unfold xN6;simp;omega) s.size ω);go_wp2;go_ret;rw[HN.o];exact⟨rfl,rfl⟩
     ·have k3:¬c<97:=ω;have k4:¬c<48:=ω;have k5:57<c:=ω;have HN:Hid (res=false):=ι (by rw[<-HRES.o];exact HLT.o (k+1) (by rw[HSk.o];unfold xN6;simp;omega) s.size ω);go_wp2;go_ret;rw[HN.o];exact⟨rfl,rfl⟩
    ·have hke:k=s.size:=ω;have HN:=ι ((HE.o k hke).symm.trans hu.o);have hneg:¬((k:Int)<(s.size:Int)):=ω;go_wp2;go_ret;rw[HN.o];exact⟨rfl,rfl⟩
end Go.Proofs.SH
namespace Mailsack
def uE (xI xE:ByteArray) (r:Int):Bool:=decide (xI.size=16)&&decide (xE.size=12)&&decide (1<=r)&&decide (r<=64)
def uZ (xI xE xL:ByteArray) (r:Int):Bool:=uE xI xE r&&decide (xL.size=32)
end Mailsack
namespace Go.Proofs.SH
open Go.RowKit Mailsack MM BB
abbrev xAb (xI xE xL:ByteArray) (r:Int):Value:=.agg #[.string xI,.string xE,.string xL,.int .i64 r]
theorem rY (xI xE xL:ByteArray) (r:Int) (w:World):
  Calls prog 87 #[xAb xI xE xL r] w λe w'=>e=.returned (.bool (uE xI xE r))/\ψ w w':=by
 have HB:Hid (ψ w (w.alloc (.cells #[.string xI,.string xE,.string xL,.int .i64 r] 34))):=ι (φ w _)
 have HR:Hid (∀b,(b=true↔xI.size=16/\xE.size=12/\1<=r/\r<=64)->uE xI xE r=b):=ι (λb hb=>by
  rw[Bool.eq_iff_iff,hb];unfold uE;simp[and_assoc])
 by_cases h1:xI.size=16
 ·have i1:(xI.size:Int)=16:=ω
  by_cases h2:xE.size=12
  ·have i2:(xE.size:Int)=12:=ω
   by_cases h3:1<=r
   ·by_cases h4:r<=64
    ·rw[HR.o true (by simp[h1,h2,h3,h4])];clear h1 h2 HR;go_enter func87,ntmps87;go_wp2;go_ret;exact⟨rfl,HB.o⟩
    ·rw[HR.o false (by simp[h4])];clear h1 h2 HR;go_enter func87,ntmps87;go_wp2;go_ret;exact⟨rfl,HB.o⟩
   ·rw[HR.o false (by simp[h3])];clear h1 h2 HR;go_enter func87,ntmps87;go_wp2;go_ret;exact⟨rfl,HB.o⟩
  ·rw[HR.o false (by simp[h2])];have i2:(xE.size:Int)≠12:=ω;have i3:((xE.size:Int)==12)=false:=by simp;omega
   clear h1 h2 HR;go_enter func87,ntmps87;go_wp2;go_ret;exact⟨rfl,HB.o⟩
 ·rw[HR.o false (by simp[h1])];have i2:(xI.size:Int)≠16:=ω;have i3:((xI.size:Int)==16)=false:=by simp;omega
  clear h1 HR;go_enter func87,ntmps87;go_wp2;go_ret;exact⟨rfl,HB.o⟩
theorem xH8 (xI xE xL:ByteArray) (r:Int) (w:World):
  Calls prog 93 #[xAb xI xE xL r] w λe w'=>e=.returned (.bool (uZ xI xE xL r))/\ψ w w':=by
 have HW:=ι (λW=>rY xI xE xL r W);have HR:Hid (uZ xI xE xL r=(uE xI xE r&&decide (xL.size=32))):=ι rfl;rw[HR.o]
 have H1:Hid (ψ w (w.alloc (.cells #[.string xI,.string xE,.string xL,.int .i64 r] 34))/\(w.alloc (.cells #[.string xI,.string xE,.string xL,.int .i64 r] 34)).heap[w.heap.size]?=some (.cells #[.string xI,.string xE,.string xL,.int .i64 r] 34 (0,0))):=ι ⟨φ w _,xM _ _⟩;clear HR
 generalize uE xI xE r=b at HW⊢
 by_cases h:xL.size=32
 ·have i1:(xL.size:Int)=32:=ω;rw[decide_eq_true h];clear h;go_enter func93,ntmps93;go_wp2_with fail
  refine(HW.o _).mono ?_;rintro e w1 ⟨rfl,hb1⟩;have c2:=xA (xD H1.o.2 hb1 (xH H1.o.2)) 2;have HB:=ι (H1.o.1.trans (hb1.mono H1.o.1.size));clear hb1 H1 HW;cases b<;>go_wp2<;>go_ret<;>exact⟨rfl,HB.o⟩
 ·have i1:(xL.size:Int)≠32:=ω;have i2:((xL.size:Int)==32)=false:=by simp;omega
  rw[decide_eq_false h];clear h;go_enter func93,ntmps93;go_wp2_with fail
  refine(HW.o _).mono ?_;rintro e w1 ⟨rfl,hb1⟩;have c2:=xA (xD H1.o.2 hb1 (xH H1.o.2)) 2;have HB:=ι (H1.o.1.trans (hb1.mono H1.o.1.size));clear hb1 H1 HW;cases b<;>go_wp2<;>go_ret<;>exact⟨rfl,HB.o⟩
end Go.Proofs.SH
namespace Mailsack
def slash:Bs:=[47]
def xNw (kind user:Bs):Bs:=kind++slash++user
def xM7 (kind user:Bs):Bs:=kind++slash++user++slash
def usedNames (l:List Slot):List Bs:=(l.filter (·.used)).map (·.name)
def tH (l:List Bs):List Bs:=l.mergeSort λx y=>decide (x<=y)
def xAa (d:Dk):List Bs:=if wS d=true then Go.Lib.compact (tH (usedNames (yS (yH d).secs))) else[]
def numOf (s:Bs):Nat:=s.foldl (λn c=>10*n+(c.toNat-48)) 0
def xG7 (c:UInt8):Bool:=decide (48<=c.toNat)&&decide (c.toNat<=57)
def kT (s:Bs):Bool:=decide (1<=s.length)&&decide (s.length<=10)&&(s.getD 0 0 !=48)&&s.all xG7&&decide (numOf s<=4294967295)
def numberOf (h n:Bs):List Int:=if n.take h.length=h then(if kT (n.drop h.length)=true then[(numOf (n.drop h.length):Int)] else[]) else[]
def xDk (l:List Int):List Int:=l.mergeSort λx y=>decide (x<=y)
def wR (d:Dk) (kind user:Bs):List Int:=xDk ((xAa d).flatMap (numberOf (xM7 kind user)))
theorem xOi {α:Type} [DecidableEq α] [Inhabited α] {l:List α} {x:α} (h:x∈Go.Lib.compact l):x∈l:=by
 unfold Go.Lib.compact Go.Lib.compactUpTo at h;obtain⟨i,hi,rfl⟩:=List.mem_map.1 h;have:=List.mem_range.1 (List.mem_filter.1 hi).1;rw[getElem!_pos l.toArray i (by simpa using this)];simp
theorem xZt {l:List Slot} {x:Bs}:x∈usedNames l↔∃t∈l,t.used=true/\t.name=x:=by
 unfold usedNames;simp only[List.mem_map,List.mem_filter];exact⟨λ⟨t,⟨h1,h2⟩,h3⟩=>⟨t,h1,h2,h3⟩,λ⟨t,h1,h2,h3⟩=>⟨t,⟨h1,h2⟩,h3⟩⟩
theorem xVu {d:Dk} {x:Bs} (h:x∈xAa d):∃t∈yS (yH d).secs,t.used=true/\t.name=x:=by
 unfold xAa at h;split at h
 ·have:=xOi h;unfold tH at this;rw[List.mem_mergeSort] at this;exact xZt.1 this
 ·simp at h
structure zU where
 user:ByteArray
 xI:ByteArray
 rounds:Int
 vQ:Int
 pub:ByteArray
 xE:ByteArray
 wrapped:ByteArray
 old:ByteArray
def zT:zU:=⟨⟨#[]⟩,⟨#[]⟩,0,0,⟨#[]⟩,⟨#[]⟩,⟨#[]⟩,⟨#[]⟩⟩
def zR (a:zU):Bool:=
 vO a.user&&uE a.xI a.xE a.rounds&&(decide (a.vQ=0)||decide (a.vQ=1))&&decide (a.pub.size=32)&&decide (a.wrapped.size=48)&&(decide (a.old.size=0)||decide (a.old.size=48))
def yBg (a:zU):ByteArray:=
 bsA [oct a.user.size]++a.user++a.xI++bsA [oct a.rounds,oct a.vQ]++a.pub++a.xE++a.wrapped++a.old
end Mailsack
namespace Go.Proofs.SH
open Go.RowKit Mailsack MM BB
abbrev vH (a:zU):Value:=.agg #[.string a.user,.string a.xI,.int .i64 a.rounds,.int .i64 a.vQ,.string a.pub,.string a.xE,.string a.wrapped,.string a.old]
abbrev yI (a:zU):Obj:=.cells #[.string a.user,.string a.xI,.int .i64 a.rounds,.int .i64 a.vQ,.string a.pub,.string a.xE,.string a.wrapped,.string a.old] 97
theorem xDp (a:zU) (w:World) (hu:a.user.size<=1099511627776):
  Calls prog 170 #[vH a] w λe w'=>e=.returned (.bool (zR a))/\ψ w w':=by
 obtain⟨u,s,r,ep,pb,n,wr,o⟩:=a;simp only at hu⊢;have HU:=ι (λW=>xJ9 u W hu);have HW:=ι (λW=>rY s n ⟨#[]⟩ r W)
 have HE:Hid (zR ⟨u,s,r,ep,pb,n,wr,o⟩=(vO u&&uE s n r&&(decide (ep=0)||decide (ep=1))&&decide (pb.size=32)&&decide (wr.size=48)&&(decide (o.size=0)||decide (o.size=48)))):=ι rfl
 have H0:Hid (ψ w (w.alloc (yI ⟨u,s,r,ep,pb,n,wr,o⟩))/\(w.alloc (yI ⟨u,s,r,ep,pb,n,wr,o⟩)).heap[w.heap.size]?=some (yI ⟨u,s,r,ep,pb,n,wr,o⟩)):=ι ⟨φ w _,xM _ _⟩;simp only[yI] at H0;clear hu;generalize vO u=b1 at HU HE;generalize uE s n r=b2 at HW HE;cases b1 with
 |false=>
  have HR:Hid (zR ⟨u,s,r,ep,pb,n,wr,o⟩=false):=ι (by rw[HE.o];rfl);clear HE;go_enter func170,ntmps170;go_wp2_with fail
  refine(HU.o _).mono ?_;rintro ex w1 ⟨rfl,rfl⟩;go_wp2;go_ret;exact⟨by rw[HR.o];rfl,H0.o.1⟩
 |true=>
  cases b2 with
  |false=>
   have HR:Hid (zR ⟨u,s,r,ep,pb,n,wr,o⟩=false):=ι (by rw[HE.o];rfl);clear HE;go_enter func170,ntmps170;go_wp2_with fail
   refine(HU.o _).mono ?_;rintro ex w1 ⟨rfl,rfl⟩;go_wp2_with fail
   refine(HW.o _).mono ?_;rintro ex w2 ⟨rfl,hb2⟩;have HB2:=ι (H0.o.1.trans (hb2.mono H0.o.1.size));have hk2:=xD H0.o.2 hb2 (xH H0.o.2);have c3:=xA hk2 3;have c4:=xA hk2 4;have c6:=xA hk2 6;have c7:=xA hk2 7;simp only[gA,gB,gC] at c3 c4 c6 c7;clear hb2 hk2 HU HW H0;go_wp2;go_ret
   exact⟨by rw[HR.o];rfl,HB2.o⟩
  |true=>
   by_cases he0:ep=0
   ·have he:ep=0∨ep=1:=.inl he0;have k0:(ep==0)=true:=by simp[he0]
    clear he0
    by_cases h4:pb.size=32
    ·have i4:((pb.size:Int)==32)=true:=by simp;omega
     have j4:(pb.size:Int)=32:=ω
     by_cases h5:wr.size=48
     ·have i5:((wr.size:Int)==48)=true:=by simp;omega
      have j5:(wr.size:Int)=48:=ω
      by_cases h6:o.size=0
      ·have i6:(o.toList==[])=true:=by rw[ByteArray.toList_eq];simp;exact Array.eq_empty_of_size_eq_zero h6
       have HR:Hid (zR ⟨u,s,r,ep,pb,n,wr,o⟩=true):=ι (by rw[HE.o];simp[h4,h5,h6,he]);clear h4 h5 h6 HE;go_enter func170,ntmps170;go_wp2_with fail
       refine(HU.o _).mono ?_;rintro ex w1 ⟨rfl,rfl⟩;go_wp2_with fail
       refine(HW.o _).mono ?_;rintro ex w2 ⟨rfl,hb2⟩;have HB2:=ι (H0.o.1.trans (hb2.mono H0.o.1.size));have hk2:=xD H0.o.2 hb2 (xH H0.o.2);have c3:=xA hk2 3;have c4:=xA hk2 4;have c6:=xA hk2 6;have c7:=xA hk2 7;simp only[gA,gB,gC] at c3 c4 c6 c7;clear hb2 hk2 HU HW H0
       go_wp2;go_ret;exact⟨by rw[HR.o];rfl,HB2.o⟩
      ·have i6:(o.toList==[])=false:=by
        rw[ByteArray.toList_eq];cases hx:(o.data.toList==[]) with
        |false=>rfl
        |true=>
         simp only[beq_iff_eq] at hx;exact absurd (show o.data.size=0 by rw[<-Array.length_toList,hx];rfl) h6
       by_cases h7:o.size=48
       ·have i7:((o.size:Int)==48)=true:=by simp;omega
        have j7:(o.size:Int)=48:=ω;have HR:Hid (zR ⟨u,s,r,ep,pb,n,wr,o⟩=true):=ι (by rw[HE.o];simp[h4,h5,h7,he]);clear h4 h5 h6 h7 HE;go_enter func170,ntmps170;go_wp2_with fail
        refine(HU.o _).mono ?_;rintro ex w1 ⟨rfl,rfl⟩;go_wp2_with fail
        refine(HW.o _).mono ?_;rintro ex w2 ⟨rfl,hb2⟩;have HB2:=ι (H0.o.1.trans (hb2.mono H0.o.1.size));have hk2:=xD H0.o.2 hb2 (xH H0.o.2);have c3:=xA hk2 3;have c4:=xA hk2 4;have c6:=xA hk2 6;have c7:=xA hk2 7;simp only[gA,gB,gC] at c3 c4 c6 c7;clear hb2 hk2 HU HW H0
        go_wp2;go_ret;exact⟨by rw[HR.o];rfl,HB2.o⟩
       ·have i7:((o.size:Int)==48)=false:=by simp;omega
        have j7:(o.size:Int)≠48:=ω;have HR:Hid (zR ⟨u,s,r,ep,pb,n,wr,o⟩=false):=ι (by rw[HE.o];simp[h6,h7]);clear h4 h5 h6 h7 HE;go_enter func170,ntmps170;go_wp2_with fail
        refine(HU.o _).mono ?_;rintro ex w1 ⟨rfl,rfl⟩;go_wp2_with fail
        refine(HW.o _).mono ?_;rintro ex w2 ⟨rfl,hb2⟩;have HB2:=ι (H0.o.1.trans (hb2.mono H0.o.1.size));have hk2:=xD H0.o.2 hb2 (xH H0.o.2);have c3:=xA hk2 3;have c4:=xA hk2 4;have c6:=xA hk2 6;have c7:=xA hk2 7;simp only[gA,gB,gC] at c3 c4 c6 c7;clear hb2 hk2 HU HW H0
        go_wp2;go_ret;exact⟨by rw[HR.o];rfl,HB2.o⟩
     ·have i5:((wr.size:Int)==48)=false:=by simp;omega
      have j5:(wr.size:Int)≠48:=ω;have HR:Hid (zR ⟨u,s,r,ep,pb,n,wr,o⟩=false):=ι (by rw[HE.o];simp[h5]);clear h4 h5 HE;go_enter func170,ntmps170;go_wp2_with fail
      refine(HU.o _).mono ?_;rintro ex w1 ⟨rfl,rfl⟩;go_wp2_with fail
      refine(HW.o _).mono ?_;rintro ex w2 ⟨rfl,hb2⟩;have HB2:=ι (H0.o.1.trans (hb2.mono H0.o.1.size));have hk2:=xD H0.o.2 hb2 (xH H0.o.2);have c3:=xA hk2 3;have c4:=xA hk2 4;have c6:=xA hk2 6;have c7:=xA hk2 7;simp only[gA,gB,gC] at c3 c4 c6 c7;clear hb2 hk2 HU HW H0;go_wp2
      go_ret;exact⟨by rw[HR.o];rfl,HB2.o⟩
    ·have i4:((pb.size:Int)==32)=false:=by simp;omega
     have j4:(pb.size:Int)≠32:=ω;have HR:Hid (zR ⟨u,s,r,ep,pb,n,wr,o⟩=false):=ι (by rw[HE.o];simp[h4]);clear h4 HE;go_enter func170,ntmps170;go_wp2_with fail
     refine(HU.o _).mono ?_;rintro ex w1 ⟨rfl,rfl⟩;go_wp2_with fail
     refine(HW.o _).mono ?_;rintro ex w2 ⟨rfl,hb2⟩;have HB2:=ι (H0.o.1.trans (hb2.mono H0.o.1.size));have hk2:=xD H0.o.2 hb2 (xH H0.o.2);have c3:=xA hk2 3;have c4:=xA hk2 4;have c6:=xA hk2 6;have c7:=xA hk2 7;simp only[gA,gB,gC] at c3 c4 c6 c7;clear hb2 hk2 HU HW H0;go_wp2
     go_ret;exact⟨by rw[HR.o];rfl,HB2.o⟩
   ·have k0:(ep==0)=false:=by simp[he0]
    by_cases he1:ep=1
    ·have he:ep=0∨ep=1:=.inr he1;have k1:(ep==1)=true:=by simp[he1]
     clear he1
     by_cases h4:pb.size=32
     ·have i4:((pb.size:Int)==32)=true:=by simp;omega
      have j4:(pb.size:Int)=32:=ω
      by_cases h5:wr.size=48
      ·have i5:((wr.size:Int)==48)=true:=by simp;omega
       have j5:(wr.size:Int)=48:=ω
       by_cases h6:o.size=0
       ·have i6:(o.toList==[])=true:=by rw[ByteArray.toList_eq];simp;exact Array.eq_empty_of_size_eq_zero h6
        have HR:Hid (zR ⟨u,s,r,ep,pb,n,wr,o⟩=true):=ι (by rw[HE.o];simp[h4,h5,h6,he]);clear h4 h5 h6 HE;go_enter func170,ntmps170;go_wp2_with fail
        refine(HU.o _).mono ?_;rintro ex w1 ⟨rfl,rfl⟩;go_wp2_with fail
        refine(HW.o _).mono ?_;rintro ex w2 ⟨rfl,hb2⟩;have HB2:=ι (H0.o.1.trans (hb2.mono H0.o.1.size));have hk2:=xD H0.o.2 hb2 (xH H0.o.2);have c3:=xA hk2 3;have c4:=xA hk2 4;have c6:=xA hk2 6;have c7:=xA hk2 7;simp only[gA,gB,gC] at c3 c4 c6 c7;clear hb2 hk2 HU HW H0
        go_wp2;go_ret;exact⟨by rw[HR.o];rfl,HB2.o⟩
       ·have i6:(o.toList==[])=false:=by
         rw[ByteArray.toList_eq];cases hx:(o.data.toList==[]) with
         |false=>rfl
         |true=>
          simp only[beq_iff_eq] at hx;exact absurd (show o.data.size=0 by rw[<-Array.length_toList,hx];rfl) h6
        by_cases h7:o.size=48
        ·have i7:((o.size:Int)==48)=true:=by simp;omega
         have j7:(o.size:Int)=48:=ω;have HR:Hid (zR ⟨u,s,r,ep,pb,n,wr,o⟩=true):=ι (by rw[HE.o];simp[h4,h5,h7,he]);clear h4 h5 h6 h7 HE;go_enter func170,ntmps170;go_wp2_with fail
         refine(HU.o _).mono ?_;rintro ex w1 ⟨rfl,rfl⟩;go_wp2_with fail
         refine(HW.o _).mono ?_;rintro ex w2 ⟨rfl,hb2⟩;have HB2:=ι (H0.o.1.trans (hb2.mono H0.o.1.size));have hk2:=xD H0.o.2 hb2 (xH H0.o.2);have c3:=xA hk2 3;have c4:=xA hk2 4;have c6:=xA hk2 6;have c7:=xA hk2 7;simp only[gA,gB,gC] at c3 c4 c6 c7;clear hb2 hk2 HU HW H0
         go_wp2;go_ret;exact⟨by rw[HR.o];rfl,HB2.o⟩
        ·have i7:((o.size:Int)==48)=false:=by simp;omega
         have j7:(o.size:Int)≠48:=ω;have HR:Hid (zR ⟨u,s,r,ep,pb,n,wr,o⟩=false):=ι (by rw[HE.o];simp[h6,h7]);clear h4 h5 h6 h7 HE;go_enter func170,ntmps170;go_wp2_with fail
         refine(HU.o _).mono ?_;rintro ex w1 ⟨rfl,rfl⟩;go_wp2_with fail
         refine(HW.o _).mono ?_;rintro ex w2 ⟨rfl,hb2⟩;have HB2:=ι (H0.o.1.trans (hb2.mono H0.o.1.size));have hk2:=xD H0.o.2 hb2 (xH H0.o.2);have c3:=xA hk2 3;have c4:=xA hk2 4;have c6:=xA hk2 6;have c7:=xA hk2 7;simp only[gA,gB,gC] at c3 c4 c6 c7;clear hb2 hk2 HU HW H0
         go_wp2;go_ret;exact⟨by rw[HR.o];rfl,HB2.o⟩
      ·have i5:((wr.size:Int)==48)=false:=by simp;omega
       have j5:(wr.size:Int)≠48:=ω;have HR:Hid (zR ⟨u,s,r,ep,pb,n,wr,o⟩=false):=ι (by rw[HE.o];simp[h5]);clear h4 h5 HE;go_enter func170,ntmps170;go_wp2_with fail
       refine(HU.o _).mono ?_;rintro ex w1 ⟨rfl,rfl⟩;go_wp2_with fail
       refine(HW.o _).mono ?_;rintro ex w2 ⟨rfl,hb2⟩;have HB2:=ι (H0.o.1.trans (hb2.mono H0.o.1.size));have hk2:=xD H0.o.2 hb2 (xH H0.o.2);have c3:=xA hk2 3;have c4:=xA hk2 4;have c6:=xA hk2 6;have c7:=xA hk2 7;simp only[gA,gB,gC] at c3 c4 c6 c7;clear hb2 hk2 HU HW H0
       go_wp2;go_ret;exact⟨by rw[HR.o];rfl,HB2.o⟩
     ·have i4:((pb.size:Int)==32)=false:=by simp;omega
      have j4:(pb.size:Int)≠32:=ω;have HR:Hid (zR ⟨u,s,r,ep,pb,n,wr,o⟩=false):=ι (by rw[HE.o];simp[h4]);clear h4 HE;go_enter func170,ntmps170;go_wp2_with fail
      refine(HU.o _).mono ?_;rintro ex w1 ⟨rfl,rfl⟩;go_wp2_with fail
      refine(HW.o _).mono ?_;rintro ex w2 ⟨rfl,hb2⟩;have HB2:=ι (H0.o.1.trans (hb2.mono H0.o.1.size));have hk2:=xD H0.o.2 hb2 (xH H0.o.2);have c3:=xA hk2 3;have c4:=xA hk2 4;have c6:=xA hk2 6;have c7:=xA hk2 7;simp only[gA,gB,gC] at c3 c4 c6 c7;clear hb2 hk2 HU HW H0;go_wp2
      go_ret;exact⟨by rw[HR.o];rfl,HB2.o⟩
    ·have k1:(ep==1)=false:=by simp[he1]
     have HR:Hid (zR ⟨u,s,r,ep,pb,n,wr,o⟩=false):=ι (by rw[HE.o];simp[he0,he1]);clear HE;go_enter func170,ntmps170;go_wp2_with fail
     refine(HU.o _).mono ?_;rintro ex w1 ⟨rfl,rfl⟩;go_wp2_with fail
     refine(HW.o _).mono ?_;rintro ex w2 ⟨rfl,hb2⟩;have HB2:=ι (H0.o.1.trans (hb2.mono H0.o.1.size));have hk2:=xD H0.o.2 hb2 (xH H0.o.2);have c3:=xA hk2 3;have c4:=xA hk2 4;have c6:=xA hk2 6;have c7:=xA hk2 7;simp only[gA,gB,gC] at c3 c4 c6 c7;clear hb2 hk2 HU HW H0;go_wp2
     go_ret;exact⟨by rw[HR.o];rfl,HB2.o⟩
end Go.Proofs.SH
namespace Mailsack
def yJ (r:ByteArray) (n:Nat):ByteArray:=r.extract n r.size
def uT (r:ByteArray) (n:Nat):ByteArray:=r.extract 0 n
theorem wY (r:ByteArray) (n:Nat):(yJ r n).size=r.size-n:=by simp[yJ,ByteArray.size_extract]
theorem jS (r:ByteArray) (n:Nat) (h:n<=r.size):(uT r n).size=n:=by simp[uT,ByteArray.size_extract];omega
def xN5 (s:ByteArray):Nat:=(yQ s 0).toNat
def yEg (s:ByteArray):ByteArray:=yJ (yJ (yJ s 1) (xN5 s)) 16
def xBf (s:ByteArray):zU:=
 ⟨uT (yJ s 1) (xN5 s),uT (yJ (yJ s 1) (xN5 s)) 16,yQ (uT (yEg s) 1) 0,yQ (uT (yJ (yEg s) 1) 1) 0,uT (yJ (yJ (yEg s) 1) 1) 32,
  uT (yJ (yJ (yJ (yEg s) 1) 1) 32) 12,uT (yJ (yJ (yJ (yJ (yEg s) 1) 1) 32) 12) 48,yJ (yJ (yJ (yJ (yJ (yEg s) 1) 1) 32) 12) 48⟩
def xAj (s:ByteArray):Bool:=!decide (s.size=0)&&!decide (s.size<xN5 s+111)&&zR (xBf s)
def vM (xJe:ByteArray):ByteArray:=bsA (xK7 xJe ⟨#[]⟩ ⟨#[111,108,100]⟩ 32)
theorem xEf (p:ByteArray):(vM p).size=32:=by rw[vM,yN,xGd]
end Mailsack
namespace Go.Proofs.SH
open Go.RowKit Mailsack MM BB
theorem yAr (c d:Int) (hc:0<=c) (hc2:c<256) (hd:0<=d) (hd2:d<256) (W:World):(convert 125 9 (.slice (some ⟨W.heap.size,0,none⟩) 2 2)).run prog (W.alloc (.cells #[.int .u8 c,.int .u8 d] 5))=.ok (.string (bsA [oct c,oct d])) (W.alloc (.cells #[.int .u8 c,.int .u8 d] 5)):=by
 refine run_convert_bytes_back (P:=prog) (W.alloc (.cells #[.int .u8 c,.int .u8 d] 5)) _ _ 5 ⟨W.heap.size,0,none⟩ 2 [oct c,oct d] underlying125 underlying5 underlying9 (λj hj=>?_);have hb:=xM W (.cells #[.int .u8 c,.int .u8 d] 5)
 have hj2:j=0∨j=1:=by simp at hj;omega
 have ha:(⟨W.heap.size,0,none⟩:Addr).add j=⟨W.heap.size,j,none⟩:=by unfold Addr.add;split<;>simp_all
 rw[ha,xA hb];rcases hj2 with rfl|rfl
 ·simp[qK];omega
 ·simp[qK];omega
theorem wL {a:zU} (h:zR a=true):1<=a.user.size/\a.user.size<=8/\a.xI.size=16/\1<=a.rounds/\a.rounds<=64/\0<=a.vQ/\a.vQ<=1/\a.pub.size=32/\a.xE.size=12/\a.wrapped.size=48/\(a.old.size=0∨a.old.size=48):=by
 unfold zR vO uE at h;simp only[Bool.and_eq_true,Bool.or_eq_true,decide_eq_true_eq] at h;obtain⟨⟨⟨⟨⟨⟨⟨h1,h2⟩,_⟩,⟨⟨h3,h4⟩,h5⟩,h6⟩,h7⟩,h8⟩,h9⟩,h10⟩:=h;exact⟨h1,h2,h3,h5,h6,ω,ω,h8,h4,h9,h10⟩
theorem yCs (a:zU) (w:World) (hr:zR a=true):
  Calls prog 89 #[vH a] w λe w'=>e=.returned (.tuple #[.string (yBg a),.int .i64 0])/\ψ w w':=by
 have hl:=wL hr;have HR:=ι (λW=>xDp a W ω);rw[hr] at HR;have H0:=ι (And.intro (φ w (yI a)) (xM w (yI a)));obtain⟨u,s,r,ep,pb,n,wr,o⟩:=a;simp only[yI,vH] at H0 HR hl⊢;obtain⟨l1,l2,l3,l4,l5,l6,l7,l8,l9,l10,l11⟩:=hl
 have HP:Hid (yBg ⟨u,s,r,ep,pb,n,wr,o⟩=bsA [oct u.size]++u++s++bsA [oct r,oct ep]++pb++n++wr++o):=ι rfl;have m1:(u.size:Int) % 256=u.size:=ω;have m2:r % 256=r:=ω;have m3:ep % 256=ep:=ω;have hcv1:=xXi (u.size:Int) ω ω;have hcv2:=yAr r ep ω ω ω ω
 have z1:(bsA [oct (u.size:Int)]).size=1:=by rw[yN];rfl
 have z2:(bsA [oct r,oct ep]).size=2:=by rw[yN];rfl
 generalize bsA [oct (u.size:Int)]=b1 at HP hcv1 z1;generalize bsA [oct r,oct ep]=b2 at HP hcv2 z2;have nb1:¬(9223372036854775807<b1.size+u.size):=ω;have nb2:¬(9223372036854775807<(b1++u).size+s.size):=by simp only[ByteArray.size_append];omega
 have nb3:¬(9223372036854775807<(b1++u++s).size+b2.size):=by simp only[ByteArray.size_append];omega
 have nb4:¬(9223372036854775807<(b1++u++s++b2).size+pb.size):=by simp only[ByteArray.size_append];omega
 have nb5:¬(9223372036854775807<(b1++u++s++b2++pb).size+n.size):=by simp only[ByteArray.size_append];omega
 have nb6:¬(9223372036854775807<(b1++u++s++b2++pb++n).size+wr.size):=by simp only[ByteArray.size_append];omega
 have nb7:¬(9223372036854775807<(b1++u++s++b2++pb++n++wr).size+o.size):=by simp only[ByteArray.size_append];omega
 clear hr l1 l2 l3 l4 l5 l6 l7 l8 l9 l10 l11 z1 z2;go_enter func89,ntmps89;go_wp2_with fail
 refine(HR.o _).mono ?_;rintro e w1 ⟨rfl,hb1⟩;have B1:=ι (H0.o.1.trans (hb1.mono H0.o.1.size));have HK1:=ι (xD H0.o.2 hb1 (xH H0.o.2));clear hb1 HR H0;obtain⟨c0,c1⟩:=zG HK1.o;have B2:=ι (B1.o.alloc B1.o.size (.cells #[.int .u8 (u.size:Int)] 5))
 have HK2:=ι (xO HK1.o (.cells #[.int .u8 (u.size:Int)] 5));obtain⟨d0,d1⟩:=zG HK2.o;go_upto_region 4 with fail
 clear c0 c1 d0 d1 B1 HK1 hcv1;generalize w1.alloc (.cells #[.int .u8 (u.size:Int)] 5)=w2 at B2 HK2⊢;have c2:=xA HK2.o 2;have c3:=xA HK2.o 3;simp only[gA,gB,gC] at c2 c3;have B3:=ι (B2.o.alloc B2.o.size (.cells #[.int .u8 r,.int .u8 ep] 5))
 have HK3:=ι (xO HK2.o (.cells #[.int .u8 r,.int .u8 ep] 5));go_upto_region 5 with fail
 clear c2 c3 B2 HK2 hcv2;generalize w2.alloc (.cells #[.int .u8 r,.int .u8 ep] 5)=w3 at B3 HK3⊢;have c4:=xA HK3.o 4;have c5:=xA HK3.o 5;have c6:=xA HK3.o 6;have c7:=xA HK3.o 7;simp only[gA,gB,gC] at c4 c5 c6 c7;go_wp2;go_ret2;exact⟨by rw[HP.o];rfl,B3.o⟩
theorem xI6 (p:ByteArray) (w:World) (hp:p.size<=1000000) (hT:vT w):
  Calls prog 172 #[.string p] w λe w'=>e=.returned (.tuple #[.string (vM p),.int .i64 0])/\ψ w w':=by
 have HD:Hid (Calls prog 163 #[.string p,.string ⟨#[]⟩,.string ⟨#[111,108,100]⟩,.int .i64 32] w λe w'=>e=.returned (.tuple #[.string (vM p),.int .i64 0])/\ψ w w'):=ι (xK6 p ⟨#[]⟩ ⟨#[111,108,100]⟩ 32 w ω δ δ δ hT);generalize vM p=r at HD⊢;clear hT
 go_enter func172,ntmps172;go_wp2_with fail
 refine HD.o.mono ?_;rintro e w1 ⟨rfl,hb1⟩;have B1:=ι hb1;go_wp2;go_ret2;exact⟨rfl,B1.o⟩
theorem xA2 (g n:Nat) (r:ByteArray) (w:World) (h:w.heap[g]?=some (.cells #[.string r] 9 (0,0))) (hn:n<=r.size):
  Calls prog 169 #[.int .i64 n,.pointer (some ⟨g,0,none⟩)] w λe w'=>e=.returned (.string (uT r n))/\w'=w.setCell ⟨g,0,none⟩ (.string (yJ r n)):=by
 have c0:=xA h 0;have f0:=xB h 0;simp only[gA,gC] at c0;have hP:Hid (uT r n=r.extract 0 n):=ι rfl;have hA:Hid (yJ r n=r.extract n r.size):=ι rfl;have hni:(n:Int)<=(r.size:Int):=ω;have hn0:¬((n:Int)<0):=ω;clear h;go_enter func169,ntmps169;go_wp2;go_ret
 exact⟨by rw[hP.o];rfl,by rw[hA.o]⟩
end Go.Proofs.SH
namespace Mailsack
theorem yCu (n:Nat):Go.Lib.repeatL [(0:UInt8)] n=xP n:=by
 unfold xP
 induction n with
 |zero=>rfl
 |succ n ih=>rw[List.replicate_succ,<-ih];rfl
end Mailsack
namespace Go.Proofs.DS
open Go.RowKit Mailsack MM BB SH SV
theorem xOu (n:Nat) (w:World) (h:n<=1000000):Calls prog 303 #[.string ⟨#[0]⟩,.int .i64 n] w λe w'=>e=.returned (xR (xP n))/\ψ w w':=by
 have:=Tryz.strings_Repeat ⟨#[0]⟩ n w ω (by show 1*n<=_;omega);rw[show(⟨#[0]⟩:ByteArray).data.toList=[0] from rfl,yCu] at this;exact this
theorem xKu (n:Nat) (w:World) (h:n<=1000000):Calls prog 274 #[.int .i64 n] w λe w'=>e=.returned (xR (xP n))/\ψ w w':=by
 have HZ:=ι (λW=>xOu n W h);have h0:¬((n:Int)<0):=ω;clear h;go_enter func274,ntmps274;go_wp2_with fail
 refine(HZ.o _).mono ?_;rintro e w1 ⟨rfl,hb1⟩;have B1:=ι hb1;go_wp2;go_ret;exact⟨rfl,B1.o⟩
theorem xNt (s:ByteArray) (n:Nat) (w:World) (h:n<=1000000) (hs:s.size<=1000000):Calls prog 321 #[.string s,.int .i64 n] w λe w'=>e=.returned (xR (xS2 s.data.toList n))/\ψ w w':=by
 obtain⟨k,hk⟩:∃k:Nat,n-s.size=k:=⟨_,rfl⟩;have HZ:=ι (λW=>xOu k W ω)
 have HE:Hid (xR (xS2 s.data.toList n)=.string (s++bsA (xP k))):=ι (by
  unfold xS2;rw[show s.data.toList.length=s.size by simp,hk];show Value.string _=_
  congr 1)
 have hz:(bsA (xP k)).size=k:=by rw[yN,yO]
 rw[show xR (xP k)=.string (bsA (xP k)) from rfl] at HZ;generalize bsA (xP k)=z at HZ HE hz;have nb:¬(9223372036854775807<s.size+z.size):=ω
 by_cases hl:s.size<=n
 ·have e1:(n:Int)- (s.size:Int)=(k:Int):=ω;have e4:max (k:Int) 0=(k:Int):=ω;have e5:k<=1000000:=ω;clear hk hl hz h hs;go_enter func321,ntmps321;go_wp2_with fail
  refine(HZ.o _).mono ?_;rintro e w1 ⟨rfl,hb1⟩;have B1:=ι hb1;clear hb1 HZ;go_wp2;go_ret;exact⟨by rw[HE.o];rfl,B1.o⟩
 ·obtain rfl:k=0:=ω;have e4:max ((n:Int)- (s.size:Int)) 0=0:=ω;clear hk hl hz h hs;go_enter func321,ntmps321;go_wp2_with fail
  refine(HZ.o _).mono ?_;rintro e w1 ⟨rfl,hb1⟩;have B1:=ι hb1;clear hb1 HZ;go_wp2;go_ret;exact⟨by rw[HE.o];rfl,B1.o⟩
theorem xC7 (a:Int) (s:ByteArray) (w:World):Calls prog 271 #[.int .i64 a,.string s] w λe w'=>e=.returned (.agg #[.bool false,.int .i64 a,.string s])/\ψ w w':=by
 have hb:=xM w (.cells #[.bool false,.int .i64 a,.string s] 328);have HB:=ι (φ w (.cells #[.bool false,.int .i64 a,.string s] 328));obtain⟨f0,f1,f2⟩:=xOn hb;clear hb;go_enter func271,ntmps271;go_wp2
 refine bodyPost_ret (v:=.agg #[.bool false,.int .i64 a,.string s]) (by simp[results,results271,go_sem,f0,f1,f2]) rfl ?_;exact⟨rfl,HB.o⟩
theorem xR5 (w:World):Calls prog 272 #[] w λe w'=>e=.returned (.agg #[.bool true,.int .i64 0,.string ⟨#[]⟩])/\ψ w w':=by
 have hb:=xM w (.cells #[.bool true,.int .i64 0,.string ⟨#[]⟩] 328);have HB:=ι (φ w (.cells #[.bool true,.int .i64 0,.string ⟨#[]⟩] 328));obtain⟨f0,f1,f2⟩:=xOn hb;clear hb;go_enter func272,ntmps272;go_wp2
 refine bodyPost_ret (v:=.agg #[.bool true,.int .i64 0,.string ⟨#[]⟩]) (by simp[results,results272,go_sem,f0,f1,f2]) rfl ?_;exact⟨rfl,HB.o⟩
theorem destL (a:Int):((((xP 64).set 0 (oct a)).set 1 (oct (a / 256))).set 2 (oct (a / 65536))).set 3 (oct (a / 16777216))=xGj a:=rfl
theorem yAp (a:Int) (w:World):Calls prog 270 #[.int .i64 a] w λe w'=>e=.returned (xR (xGj a))/\ψ w w':=by
 have hmk:(Instr.makeSlice 125 (.int .i64 64) (.int .i64 64)).run prog w=.ok (.slice (some ⟨w.heap.size,0,none⟩) 64 64) (w.alloc (.cells (yE (xP 64)) 5)):=made w 64 64 ω ω;obtain⟨z,hz⟩:∃z,xP 64=z:=⟨_,rfl⟩;have HD:=ι (destL a);have hzl:z.length=64:=by rw[<-hz];rfl
 rw[hz] at hmk HD;have HB0:Hid (wK (w.alloc (.cells (yE z) 5)) w.heap.size z/\ψ w (w.alloc (.cells (yE z) 5))):=ι ⟨xM _ _,φ w _⟩;clear hz;go_enter func270,ntmps270;go_wp2_with fail
 clear hmk
 go_loopw [6] (λiv wr=>∃(k:Nat) (l:Bs),k<=4/\iv=.int .i64 k/\l.length=64/\Hid (wK wr w.heap.size l/\ψ w wr)/\Hid ((k=0->l=z)/\(k=1->l=z.set 0 (oct a))/\(k=2->l=(z.set 0 (oct a)).set 1 (oct (a / 256)))/\(k=3->l=((z.set 0 (oct a)).set 1 (oct (a / 256))).set 2 (oct (a / 65536)))/\(k=4->l=xGj a))) (λiv _=>4- (intOf iv).toNat)
 case atStart=>exact⟨0,z,ω,rfl,hzl,HB0,ι ⟨λ_=>rfl,λh=>ω,λh=>ω,λh=>ω,λh=>ω⟩⟩
 case round=>
  obtain⟨k,l,hk,rfl,hll,HI,HL⟩:=hrel;clear HB0
  by_cases hlt:k<4
  ·have hp:=λz=>ι (And.intro (HI.o.1.put k z) (HI.o.2.setCell (p:=⟨w.heap.size,k,none⟩) ν (.int .u8 (z % 256))));have q:=HI.o.1.cell (i:=k) ω;have f:=HI.o.1.free k;generalize l.getD k 0=b0 at q;have HQ:=ι hp;clear hp HI;rcases(show k=0∨k=1∨k=2∨k=3 by omega) with rfl|rfl|rfl|rfl
   ·have HQL:=ι (HL.o.1 rfl);have hl2:(l.set 0 (oct (a))).length=64:=by simpa using hll
    have HQ2:=ι (HQ.o (a)).o;clear hk hlt HL HQ;go_wp2;exact⟨⟨1,_,ω,rfl,hl2,HQ2,ι ⟨λh=>ω,λ_=>(by rw[HQL.o]),λh=>ω,λh=>ω,λh=>ω⟩⟩,by simp[intOf]⟩
   ·have HQL:=ι (HL.o.2.1 rfl);have hl2:(l.set 1 (oct (a / 256))).length=64:=by simpa using hll
    have HQ2:=ι (HQ.o (a / 256)).o;clear hk hlt HL HQ;go_wp2;exact⟨⟨2,_,ω,rfl,hl2,HQ2,ι ⟨λh=>ω,λh=>ω,λ_=>(by rw[HQL.o]),λh=>ω,λh=>ω⟩⟩,by simp[intOf]⟩
   ·have HQL:=ι (HL.o.2.2.1 rfl);have hl2:(l.set 2 (oct (a / 65536))).length=64:=by simpa using hll
    have HQ2:=ι (HQ.o (a / 65536)).o;clear hk hlt HL HQ;go_wp2;exact⟨⟨3,_,ω,rfl,hl2,HQ2,ι ⟨λh=>ω,λh=>ω,λh=>ω,λ_=>(by rw[HQL.o]),λh=>ω⟩⟩,by simp[intOf]⟩
   ·have HQL:=ι (HL.o.2.2.2.1 rfl);have hl2:(l.set 3 (oct (a / 16777216))).length=64:=by simpa using hll
    have HQ2:=ι (HQ.o (a / 16777216)).o;clear hk hlt HL HQ;go_wp2;exact⟨⟨4,_,ω,rfl,hl2,HQ2,ι ⟨λh=>ω,λh=>ω,λh=>ω,λh=>ω,λ_=>(by rw[HQL.o];exact HD.o)⟩⟩,by simp[intOf]⟩
  ·obtain rfl:k=4:=ω;have hle:=HL.o.2.2.2.2 rfl;have ht:=xFm HI.o.1 64 64 ω;have HTK:Hid (l.take 64=l):=ι (by rw[<-hll,List.take_length]);rw[HTK.o] at ht;have HLE:=ι hle;clear hle HL hll HTK;go_wp2;go_ret;exact⟨by rw[<-HLE.o];rfl,HI.o.2⟩
theorem yAt (c d:Int) (hc:0<=c) (hc2:c<256) (hd:0<=d) (hd2:d<256) (g:Nat) (W:World) (hb:W.heap[g]?=some (.cells #[.int .u8 c,.int .u8 d] 5 (0,0))):(convert 125 9 (.slice (some ⟨g,0,none⟩) 2 2)).run prog W=.ok (.string (bsA [oct c,oct d])) W:=by
 refine run_convert_bytes_back (P:=prog) W _ _ 5 ⟨g,0,none⟩ 2 [oct c,oct d] underlying125 underlying5 underlying9 (λj hj=>?_);have hj2:j=0∨j=1:=by simp at hj;omega
 have ha:(⟨g,0,none⟩:Addr).add j=⟨g,j,none⟩:=by unfold Addr.add;split<;>simp_all
 rw[ha,xA hb];rcases hj2 with rfl|rfl
 ·simp[qK];omega
 ·simp[qK];omega
theorem xSp (n:Nat) (all:ByteArray) (w:World) (hn:n<256) (ha:all.size<=1000000) (hT:vT w):Calls prog 273 #[.int .i64 n,.string all] w λe w'=>e=.returned (xR (xSq n all.data.toList))/\ψ w w':=by
 have HS:=ι (λW h=>xFn all W ω h);have HT:=ι (λW (h:ψ w W)=>hT.below h ν)
 have HE:Hid (xR (xSq n all.data.toList)=.string (bsA [oct 74,oct n]++bsA (xH7 all)++bsA (xP 30))):=ι (by
  unfold xSq;rw[show bsA all.data.toList=all by cases all;simp[bsA]];show Value.string _=Value.string _
  congr 1)
 have hz:=xB3 all;have hb:(bsA (xH7 all)).size=32:=by rw[yN,hz]
 rw[show xR (xH7 all)=.string (bsA (xH7 all)) from rfl] at HS;generalize bsA (xH7 all)=sh at HS HE hb;have HZ:=ι (λW (x:Int) (hx:x=((30:Nat):Int))=>(show Calls prog 274 #[.int .i64 x] W (λe w'=>e=.returned (xR (xP 30))/\ψ W w') by rw[hx];exact xKu 30 W ω))
 rw[show xR (xP 30)=.string (bsA (xP 30)) from rfl] at HZ;have hb3:(bsA (xP 30)).size=30:=by rw[yN,yO]
 generalize bsA (xP 30)=zb at HZ HE hb3;have HCV:=ι (yAt 74 (n:Int) ω ω ω ω);have hb2:(bsA [oct 74,oct (n:Int)]).size=2:=by rw[yN];rfl
 generalize bsA [oct 74,oct (n:Int)]=h2 at HE HCV hb2;have nb1:¬(9223372036854775807<h2.size+sh.size):=ω;have nb2:¬(9223372036854775807<(h2++sh).size+zb.size):=by rw[ByteArray.size_append];omega
 have hnn:(n:Int) % 256=n:=ω;have HSZ:=ι (And.intro hb2 hb);clear hz hb hb3 hb2 ha;go_enter func273,ntmps273;go_upto_region 1 with fail
 refine RG.uA [] [2] (λL α W=>Hid (ψ w W/\(L 2=true->∃g,α 2=.slice (some ⟨g,0,none⟩) 2 2/\W.heap[g]?=some (.cells #[.int .u8 74,.int .u8 (n:Int)] 5 (0,0))))) (λL L' α α' W hl ha h=>ι ⟨h.o.1,λh2=>by rw[<-ha 2 σ (by rw[hl 2 σ];exact h2)];exact h.o.2 (by rw[hl 2 σ];exact h2)⟩) κ κ κ (ι ⟨(Below.refl w.heap.size w).drew,λh=>by cases h⟩) ?_
 iterate 2 refine RG.vS ?_
 apply RG.vK
 ·rfl
 ·intro α L w9 h0 hcl xK hw9;refine⟨.slice (some ⟨w9.heap.size,0,none⟩) 2 2,λbv hbv=>?_⟩;repeat go_step
  rw[<-hbv];refine RG.xC ?_;exact ι ⟨hw9.o.1.alloc hw9.o.1.size _,λ_=>⟨w9.heap.size,by rw[RG.uV];exact hbv,xM _ _⟩⟩
 ·intro b α;rfl
 apply RG.zC
 ·rfl
 ·rfl
 ·intro α L w9 h0 hcl xK hw9
  have e2:L 2=true:=by
   have:=xK.yes 8 (i:=3) (j:=2) σ κ;simpa using this
  obtain⟨g,hg,hb⟩:=hw9.o.2 e2;have hcv:=HCV.o g w9 hb;rw[show α (0+1+1)=_ from hg];clear e2 hb;repeat go_step
  rw[<-show α (0+1+1)=_ from hg];exact RG.xC hw9
 ·intro α;rfl
 refine RG.vS ?_;apply RG.zC
 ·rfl
 ·rfl
 ·intro α L w9 h0 hcl xK hw9;repeat go_step
  refine(HS.o _ (HT.o _ hw9.o.1)).mono ?_;rintro e w10 ⟨rfl,zF⟩;simp only[];repeat go_step
  refine RG.xC ?_;refine ι ⟨hw9.o.1.trans (zF.mono hw9.o.1.size),λe2=>?_⟩;obtain⟨g,hg,hb⟩:=hw9.o.2 e2;exact⟨g,hg,xD hb zF (xH hb)⟩
 ·intro α;rfl
 iterate 2 refine RG.vS ?_
 refine RG.qV (λα w3 hw3=>?_);have B3:=ι hw3.o.1;clear hw3 HS HT HCV;go_wp2_with fail
 refine(HZ.o _ _ (by have:=HSZ.o;omega)).mono ?_;rintro e w4 ⟨rfl,hb4⟩;have B4:=ι (B3.o.trans (hb4.mono B3.o.size));clear hb4 B3 HZ;go_wp2;go_ret;exact⟨by rw[HE.o];rfl,B4.o⟩
end Go.Proofs.DS
namespace Go.Proofs.RK
open Go.RowKit MM
theorem xFx {P:Program} {w:World} (base:Nat) (t ty e:TypeId) (i:TypeInfo) (size:Nat) (ht:P.underlying t=some (.slice e)) (hi:P.info? e=some i)
  (v:Value) (n:Nat) (xs:List Value) (hown:w.ownsRow base e size v n xs) (A:Option Addr) (c:Nat):
  (Builtin.append_ #[t,t] ty #[v,.slice A 0 c]).run P w=.ok v w:=by
 rcases hown.2 with ⟨rfl,rfl⟩|⟨g,cap,cur,rfl,_,_,hnc,_⟩
 ·cases A<;>simp[Builtin.append_,run_underlying ht,sizeOf,typeInfo,hi,Builtin.lenOf,Builtin.firstCells,loadCells,loadCellsFrom]
 ·cases A<;>simp[Builtin.append_,run_underlying ht,sizeOf,typeInfo,hi,Builtin.lenOf,Builtin.firstCells,hnc,storeCells,loadCells,loadCellsFrom]
structure yBw {α:Type} (P:Program) (t e:TypeId) (k bytes:Nat) (f:α->List Value):Prop where
 und:P.underlying t=some (.slice e)
 info:∃i z,P.info? e=some i/\i.zero=some z/\i.size=k/\i.bytes=bytes/\z.cells.size=k
 pos:0<k
 bpos:0<bytes
 len:∀x,(f x).length=k
 one:∀x,∀u∈f x,u.oneCell'=true
structure xKt {α:Type} (e:TypeId) (k:Nat) (f:α->List Value) (w w':World) (base:Nat) (v v':Value) (l:List α):Prop where
 own:zI e k f w' base v' l
 grown:w.grownBy w' v.ownBlock
 at_:v'.ownBlock=v.ownBlock∨v'.ownBlock=some w.heap.size
section
variable {P:Program} {w w' w0:World} {α:Type} {t e:TypeId} {k bytes:Nat} {f:α->List Value} {base:Nat} {v v' vx:Value} {l m:List α}
theorem zI.far (h:zI e k f w base v l) {p:Nat} (hp:p<base):v.ownBlock≠some p:=by
 rcases h.2 with ⟨rfl,_⟩|⟨g,cap,cur,rfl,hb,_⟩
 ·intro e;cases e
 ·intro e;have:g=p:=by simpa[Value.ownBlock] using e
  omega
theorem xKt.keep (h:xKt e k f w w' base v v' l) {p:Nat} {o:Obj} (hp:w.heap[p]?=some o) (hne:v.ownBlock≠some p):w'.heap[p]?=some o:=vR hp h.grown (λe=>hne e.symm)
theorem xKt.bel (h:xKt e k f w w' base v v' l) {l0:List α} (ho:zI e k f w base v l0) {B:Nat} (hB:B<=base) (hb:Below B w0 w) (hs:B<=w.heap.size):Below B w0 w':=
 hb.grown h.grown hs (λg hg=>by have:=World.ownsRow.lt ho.row g hg;omega)
theorem xJ7 (ht:yBw P t e k bytes f) (ty:TypeId) (hown:zI e k f w base v l) {B:Nat} (hrd:RdR k f w B vx m) (hbytes:(l.length+m.length)*bytes<=140737488355328) (hbase:base<=w.heap.size):
  ∃v' w',(Builtin.append_ #[t,t] ty #[v,vx]).run P w=.ok v' w'/\xKt e k f w w' base v v' (l++m):=by
 obtain⟨i,z,hi,hz,hs,hby,hzs⟩:=ht.info;have hrd':=hrd;obtain⟨A,c,rfl,hc,h3⟩:=hrd
 by_cases h0:m.length=0
 ·have:m=[]:=List.eq_nil_of_length_eq_zero h0;subst this;refine⟨v,w,xFx base t ty e i k ht.und hi v _ _ hown.row A c,?_,World.grownBy.refl _ _,.inl rfl⟩;rw[List.append_nil];exact hown
 ·obtain⟨ad,rfl,_,hsrc⟩:=hrd'.src ht.len ω
  have hlen:l.length+m.length<=maxLen:=by
   have:=Nat.le_mul_of_pos_right (l.length+m.length) ht.bpos;unfold maxLen;omega
  have h1:∀u∈m.flatMap f,u.oneCell'=true:=λu hu=>by
   obtain⟨x,_,hx⟩:=List.mem_flatMap.1 hu;exact ht.one x u hx
  obtain⟨g,cap,w',h2,h4,h5,h6,h7⟩:=run_append_lies (P:=P) (w:=w) t ty base e i z k bytes ht.und hi hz hs hby hzs ht.pos v l.length _ hown.row ad m.length c _ (xJz ht.len m) hsrc h1 ω hlen hbytes hbase w.heap.size rfl;refine⟨_,w',h2,zI.of h4,h5,?_⟩;rcases h6 with h6|h6
  ·exact .inl h6.symm
  ·exact .inr (by subst h6;rfl)
theorem vL {ops:Array Oper} {rest:List Oper} {o:Oper} {a:Act} {Q:Exit->Act->World->Prop} (ht:yBw P t e k bytes f) (hgd:o.guard=none) (s x:Operand)
  (ho:o.op=.call {callee:=.builtin .append,args:=#[s,x],argTypes:=#[t,t]}) (hs:a.eval s=v) (hx:a.eval x=vx)
  (hown:zI e k f w base v l) {B:Nat} (hrd:RdR k f w B vx m) (hbytes:(l.length+m.length)*bytes<=140737488355328) (hbase:base<=w.heap.size)
  (h:∀v' w',xKt e k f w w' base v v' (l++m)->wpList P ops Q rest (a.put o.dst v') w'):wpList P ops Q (o::rest) a w:=by
 obtain⟨v',w',hr,ha⟩:=xJ7 (P:=P) ht o.type hown hrd hbytes hbase;refine wpList_plain hgd λK hK=>?_;unfold Oper.wp;simp[execOp,ho,resolve,invoke,builtin,hs,hx,hr,Result.andThen];exact hK _ _ (h _ _ ha)
theorem RdR.lit (hk:∀x,(f x).length=k) (W:World) (cs:Array Value) (hcs:cs.toList=m.flatMap f):RdR k f (W.alloc (.cells cs e)) (W.heap.size+1) (.slice (some ⟨W.heap.size,0,none⟩) m.length m.length) m:=by
 refine⟨_,_,rfl,Nat.le_refl _,λ_=>⟨W.heap.size,0,rfl,ω,λj x hx i u hu=>?_⟩⟩;rw[Nat.zero_add,xA (xM W _)];have:=flat_get hk m j i x u hx hu;rw[<-hcs] at this;simpa using this
theorem madeR (ht:yBw P t e k bytes f) (W:World) (c:Nat) (hm:c*bytes<=140737488355328):∃z:Array Value,z.size=c*k/\(Instr.makeSlice t (.int .i64 0) (.int .i64 (c:Int))).run P W=.ok (.slice (some ⟨W.heap.size,0,none⟩) 0 c) (W.alloc (.cells z e)):=by
 obtain⟨i,z,hi,hz,hs,hby,hzs⟩:=ht.info;have hc:=Nat.le_mul_of_pos_right c ht.bpos;have h:=run_make (P:=P) (w:=W) t e i z ht.und hi hz .i64 .i64 0 (c:Int) ω ω (by rw[hby,show(bytes:Int)*(c:Int)=((c*bytes:Nat):Int) by rw[Nat.mul_comm];exact(Int.natCast_mul _ _).symm];omega) ω
 simp only[Int.toNat_natCast,Int.toNat_zero] at h;refine⟨_,?_,h⟩;rw[size_madeCells,hs]
end
end Go.Proofs.RK
namespace Go.Proofs.DS
open Go.RowKit Mailsack MM BB SH SV RK
abbrev wrF (x:Wr):List Value:=[.int .i64 x.at_,xR x.data]
theorem xDd (x:Wr):(wrF x).length=2:=rfl
theorem yC6 (x:Wr):∀u∈wrF x,u.oneCell'=true:=by
 intro u hu;simp only[wrF,List.mem_cons,List.not_mem_nil,or_false] at hu;rcases hu with rfl|rfl<;>rfl
theorem infoWr:(prog.info? 154).map (λi=>(i.zero,i.size,i.bytes))=some (some (.agg #[.int .i64 0,.string ⟨#[]⟩]),2,24):=κ
theorem tyWr:yBw prog 23 154 2 24 wrF:=by
 obtain⟨i,hi,hz,hs,hb⟩:=jA infoWr;exact⟨underlying23,⟨i,_,hi,hz,hs,hb,rfl⟩,ω,ω,xDd,yC6⟩
theorem yBe {w:World} {B:Nat} {v:Value} {l:List Wr} (h:RdR 2 wrF w B v l):RdW w B v l:=by
 obtain⟨A,c,h1,h2,h3⟩:=h;refine⟨A,c,h1,h2,λhn=>?_⟩;obtain⟨b,off,h4,h5,h6⟩:=h3 hn;exact⟨b,off,h4,h5,λj x hx=>⟨h6 j x hx 0 _ rfl,h6 j x hx 1 _ rfl⟩⟩
theorem rdW_to {w:World} {B:Nat} {v:Value} {l:List Wr} (h:RdW w B v l):RdR 2 wrF w B v l:=by
 obtain⟨A,c,h1,h2,h3⟩:=h;refine⟨A,c,h1,h2,λhn=>?_⟩;obtain⟨b,off,h4,h5,h6⟩:=h3 hn;refine⟨b,off,h4,h5,λj x hx i u hu=>?_⟩;have hi:=(List.getElem?_eq_some_iff.1 hu).1;simp at hi;rcases(show i=0∨i=1 by omega) with rfl|rfl
 ·injection hu with hu;subst hu;exact(h6 j x hx).1
 ·injection hu with hu;subst hu;exact(h6 j x hx).2
structure PuM (w:World) (va vb:Value) (x:Wr) (W:World):Prop where
 d:W.heap[w.heap.size]?=some (xW va vb)
 x:W.heap[w.heap.size+1]?=some (.cells #[.int .i64 x.at_,xR x.data] 154 (0,0))
 o:W.heap[w.heap.size+1+1]?=some (xW (.slice none 0 0) (.slice none 0 0))
 bel:ψ w W
theorem PuM.below {w W W':World} {va vb:Value} {x:Wr} (h:PuM w va vb x W) (hb:ψ W W'):PuM w va vb x W':=
 ⟨xD h.d hb (xH h.d),xD h.x hb (xH h.x),xD h.o hb (xH h.o),h.bel.trans (hb.mono h.bel.size)⟩
theorem xFz (va vb:Value) (d:Dk) (x:Wr) (w:World) (h:RdD w w.heap.size va vb d) (hc:d.cache.length+1<=1000000):
  Calls prog 275 #[.agg #[va,vb],.agg #[.int .i64 x.at_,xR x.data]] w λe w'=>∃va' vb',e=.returned (.tuple #[.agg #[va',vb'],.int .i64 (if (zD d&&tK x d.secs.length)=true then 0 else 1)])/\
   RdD w' w'.heap.size va' vb' (if (zD d&&tK x d.secs.length)=true then xZa d x else⟨[],[]⟩)/\ψ w w':=by
 have HRT:=ι (λW (hb:ψ w W)=>kD va vb d W ((h.below hb ν).more hb.size));have HFT:=ι (λW=>xQ8 x d.secs.length W);have HD:=ι h
 have H0:Hid (PuM w va vb x (((w.alloc (xW va vb)).alloc (.cells #[.int .i64 x.at_,xR x.data] 154)).alloc (xW (.slice none 0 0) (.slice none 0 0)))):=ι (by
  refine⟨xO (zV w _ _) _,xO (zK w _ _) _,?_,((φ w _).alloc σ _).alloc (by simp;omega) _⟩;have:=xM ((w.alloc (xW va vb)).alloc (.cells #[.int .i64 x.at_,xR x.data] 154)) (xW (.slice none 0 0) (.slice none 0 0));simpa using this)
 have hsl:∃A1 c1,va=.slice A1 d.secs.length c1:=by
  obtain⟨A1,c1,e,_⟩:=h.s;exact⟨A1,c1,e⟩
 obtain⟨A1,c1,rfl⟩:=hsl
 have hsl2:∃A2 c2,vb=.slice A2 d.cache.length c2:=by
  obtain⟨A2,c2,e,_⟩:=h.c;exact⟨A2,c2,e⟩
 obtain⟨A2,c2,rfl⟩:=hsl2;obtain⟨sn,hsn⟩:∃sn,d.secs.length=sn:=⟨_,rfl⟩;obtain⟨cn,hcn⟩:∃cn,d.cache.length=cn:=⟨_,rfl⟩;rw[hsn] at HRT HFT H0 HD⊢;rw[hcn] at HRT H0 HD hc⊢;have HLS:=ι (And.intro hsn hcn);clear h hsn hcn;cases hr:zD d with
 |false=>
  rw[hr] at HRT;rw[Bool.false_and,if_neg σ,if_neg σ];clear hr HFT HD HLS;go_enter func275,ntmps275;go_wp2_with fail
  refine(HRT.o _ H0.o.bel).mono ?_;rintro e w1 ⟨rfl,hb1⟩;have H1:=ι (H0.o.below hb1);clear H0 hb1 HRT;obtain⟨o0,y0,f0,o1,y1,f1,HB⟩:=xIm H1.o.o H1.o.bel ω (.slice none 0 0) (.slice none 0 0) _ rfl;clear H1;go_wp2
  refine bodyPost_ret (v:=.tuple #[.agg #[.slice none 0 0,.slice none 0 0],.int .i64 1]) (by simp[results,results275,go_sem,f0,f1]) rfl ?_;exact⟨_,_,rfl,⟨⟨_,_,rfl,Nat.le_refl _,λh=>by simp at h⟩,RdW.xPn _ _,σ,σ⟩,HB.o⟩
 |true=>
  rw[hr] at HRT;rw[Bool.true_and];cases hf:tK x sn with
  |false=>
   rw[hf] at HFT;rw[if_neg σ,if_neg σ];clear hr hf HD HLS;go_enter func275,ntmps275;go_wp2_with fail
   refine(HRT.o _ H0.o.bel).mono ?_;rintro e w1 ⟨rfl,hb1⟩;have H1:=ι (H0.o.below hb1);clear H0 hb1 HRT;obtain⟨d0,d1⟩:=zG H1.o.d;obtain⟨x0,x1⟩:=zG H1.o.x;go_wp2_with fail
   clear d0 d1 x0 x1;refine(HFT.o _).mono ?_;rintro e w2 ⟨rfl,hb2⟩;have H2:=ι (H1.o.below hb2);clear H1 hb2 HFT;obtain⟨o0,y0,f0,o1,y1,f1,HB⟩:=xIm H2.o.o H2.o.bel ω (.slice none 0 0) (.slice none 0 0) _ rfl;clear H2;go_wp2
   refine bodyPost_ret (v:=.tuple #[.agg #[.slice none 0 0,.slice none 0 0],.int .i64 1]) (by simp[results,results275,go_sem,f0,f1]) rfl ?_;exact⟨_,_,rfl,⟨⟨_,_,rfl,Nat.le_refl _,λh=>by simp at h⟩,RdW.xPn _ _,σ,σ⟩,HB.o⟩
  |true=>
   rw[hf] at HFT;rw[if_pos rfl,if_pos rfl];clear hr hf;go_enter func275,ntmps275;go_wp2_with fail
   refine(HRT.o _ H0.o.bel).mono ?_;rintro e w1 ⟨rfl,hb1⟩;have H1:=ι (H0.o.below hb1);clear H0 hb1 HRT;obtain⟨d0,d1⟩:=zG H1.o.d;obtain⟨x0,x1⟩:=zG H1.o.x;go_wp2_with fail
   clear d0 d1 x0 x1;refine(HFT.o _).mono ?_;rintro e w2 ⟨rfl,hb2⟩;have H2:=ι (H1.o.below hb2);clear H1 hb2 HFT;obtain⟨d0,d1⟩:=zG H2.o.d;obtain⟨z,hzz,hmk⟩:=madeR tyWr w2 (cn+1) ω;rw[show((cn+1:Nat):Int)=(cn:Int)+1 by omega] at hmk;have H2L:=ι (xH H2.o.o)
   have HO3:Hid (zI 154 2 wrF (w2.alloc (.cells z 154)) (w.heap.size+1+1+1) (.slice (some ⟨w2.heap.size,0,none⟩) 0 (cn+1)) []):=ι (zI.room z w2 (cn+1) H2L.o ω hzz);have H3:=ι (H2.o.below ((Below.refl _ w2).alloc ν (.cells z 154)));go_upto_region 4 with fail
   clear hmk hzz d0 d1;generalize w2.alloc (.cells z 154)=w3 at HO3 H3⊢;generalize Value.slice (some ⟨w2.heap.size,0,none⟩) 0 (cn+1)=v3 at HO3⊢;have H3L:=ι (xH H3.o.o);have HRD3:=ι ((rdW_to HD.o.c).below H3.o.bel ν);obtain⟨d0,d1⟩:=zG H3.o.d
   go_upto_region 5 with (at_builtin;refine vL tyWr rfl _ _ rfl rfl rfl HO3.o HRD3.o (by have:=HLS.o.2;simp;omega) (by have:=H3L.o;omega) ?_;intro v5 w5 h5;have HA5:=ι h5;clear h5)
   clear d0 d1;have H5:Hid (PuM w (.slice A1 sn c1) (.slice A2 cn c2) x w5):=ι ⟨HA5.o.keep H3.o.d (HO3.o.far ω),HA5.o.keep H3.o.x (HO3.o.far ω),HA5.o.keep H3.o.o (HO3.o.far ω),HA5.o.bel HO3.o ω H3.o.bel H3.o.bel.size⟩
   have HO5:Hid (zI 154 2 wrF w5 (w.heap.size+1+1+1) v5 d.cache):=ι HA5.o.own;clear HA5 HO3 H3 HRD3;obtain⟨x0,x1⟩:=zG H5.o.x
   go_upto_region 6 with (at_builtin;refine vL tyWr rfl _ _ rfl rfl rfl (HO5.o.alloc _) (RdR.lit (m:=[x]) xDd _ _ rfl) (by have:=HLS.o.2;simp;omega) (by have:=xH H5.o.o;simp;omega) ?_;intro v6 w6 h6;have HA6:Hid (xKt 154 2 wrF (w5.alloc (.cells #[.int .i64 x.at_,xR x.data] 154)) w6 (w.heap.size+1+1+1) v5 v6 (d.cache++[x])):=ι h6;clear h6)
   clear x0 x1;obtain⟨A6,c6,hv6,hc6⟩:=HA6.o.own.form;have hl6:(d.cache++[x]).length=cn+1:=by simp[HLS.o.2]
   rw[hl6] at hv6;have q0:=HA6.o.keep (xO H5.o.d _) (HO5.o.far ω);have q1:=HA6.o.keep (xO H5.o.o _) (HO5.o.far ω);have q2:=HA6.o.bel (w0:=w) (B:=w.heap.size) (HO5.o.alloc _) ω (H5.o.bel.alloc H5.o.bel.size _) (by have:=H5.o.bel.size;simp;omega);have HO6:=ι HA6.o.own;subst hv6
   clear HA6 hl6 hc6;obtain⟨d0,d1⟩:=zG q0;obtain⟨o0,y0,f0,o1,y1,f1,HB⟩:=xIm q1 q2 ω (.slice A1 sn c1) (.slice A6 (cn+1) c6) _ rfl;clear q0 q1 q2 H5 HO5 H2L H3L;go_wp2
   refine bodyPost_ret (v:=.tuple #[.agg #[.slice A1 sn c1,.slice A6 (cn+1) c6],.int .i64 0]) (by simp[results,results275,go_sem,f0,f1]) rfl ?_;refine⟨_,_,rfl,⟨?_,?_,?_,?_⟩,HB.o⟩
   ·exact(HD.o.s.below HB.o ν).more HB.o.size
   ·have h6:=(HO6.o.xHw (p:=⟨w.heap.size+1+1,0,none⟩) (.slice A1 sn c1) (HO6.o.far σ)).xHw (p:=⟨w.heap.size+1+1,1,none⟩) (.slice A6 (cn+1) c6) (HO6.o.far σ);exact yBe (h6.rd xDd)
   ·exact HD.o.ls
   ·show(d.cache++[x]).length<=_;simp[HLS.o.2];omega
end Go.Proofs.DS
/- Contracts of functions. Conditions: as stated. -/
import Derived.Test.YtacahegificeoaaGreatDoorImapLoginsProofB20
set_option maxHeartbeats 8000000
set_option maxRecDepth 100000
namespace Mailsack
def tF (x:Wr) (n:Nat):Bool:=decide (0<=x.at_)&&decide (x.at_<n)&&decide (x.data.length=64)
def yZ (d:Dk):Bool:=decide (1<=d.secs.length)&&decide (d.secs.length<=1024)&&d.secs.all (λs=>decide (s.length=64))&&d.cache.all (λx=>tF x d.secs.length)
theorem xK8 {α:Type} {f:α->Bool} {L:List α} {k:Nat} {x:α} (h:L[k]?=some x) (hf:f x=true) (h0:∀r∈L.take k,f r=true):∀r∈L.take (k+1),f r=true:=by
 intro q hq;rw[List.take_add_one,h] at hq;rcases List.mem_append.1 hq with hq|hq
 ·exact h0 q hq
 ·simp at hq;subst hq;exact hf
theorem all_false {α:Type} {f:α->Bool} {L:List α} {k:Nat} {x:α} (h:L[k]?=some x) (hf:f x=false):L.all f=false:=by
 rw[List.all_eq_false];exact⟨x,List.mem_of_getElem? h,by rw[hf];simp⟩
theorem all_true {α:Type} {f:α->Bool} {L:List α} (h:∀r∈L.take L.length,f r=true):L.all f=true:=by
 rw[List.take_length] at h;exact List.all_eq_true.2 h
end Mailsack
namespace Go.Proofs.DS
open Go.RowKit Mailsack MM BB
def RdW (w:World) (B:Nat) (v:Value) (L:List Wr):Prop:=
 ∃A c,v=.slice A L.length c/\L.length<=c/\(0<L.length->∃b off,A=some ⟨b,off,none⟩/\b<B/\∀j x,L[j]?=some x->w.cell? ⟨b,off+j*2,none⟩=some (.int .i64 x.at_)/\w.cell? ⟨b,off+j*2+1,none⟩=some (xO x.data))
theorem RdW.keep {w w':World} {B:Nat} {v:Value} {L:List Wr} (h:RdW w B v L) (hk:∀p:Addr,p.block<B->w'.cell? p=w.cell? p):RdW w' B v L:=by
 obtain⟨A,c,h1,h2,h3⟩:=h;refine⟨A,c,h1,h2,λhn=>?_⟩;obtain⟨b,off,h4,h5,h6⟩:=h3 hn;exact⟨b,off,h4,h5,λj x hx=>⟨(hk _ h5).trans (h6 j x hx).1,(hk _ h5).trans (h6 j x hx).2⟩⟩
theorem RdW.below {w w':World} {B B':Nat} {v:Value} {L:List Wr} (h:RdW w B v L) (hb:Below B' w w') (hB:B<=B'):RdW w' B v L:=h.keep λ_ hp=>hb.cell ω
theorem RdW.more {w:World} {B B':Nat} {v:Value} {L:List Wr} (h:RdW w B v L) (hB:B<=B'):RdW w B' v L:=by
 obtain⟨A,c,h1,h2,h3⟩:=h;refine⟨A,c,h1,h2,λhn=>?_⟩;obtain⟨b,off,h4,h5,h6⟩:=h3 hn;exact⟨b,off,h4,ω,h6⟩
theorem RdW.xPs (w:World) (B:Nat):RdW w B (.slice none 0 0) []:=⟨none,0,rfl,Nat.le_refl _,λh=>by simp at h⟩
structure RdD (w:World) (B:Nat) (a b:Value) (d:Dk):Prop where
 s:RdS w B a d.secs
 c:RdW w B b d.cache
 ls:d.secs.length<=1000000
 lc:d.cache.length<=1000000
theorem RdD.below {w w':World} {B B':Nat} {a b:Value} {d:Dk} (h:RdD w B a b d) (hb:Below B' w w') (hB:B<=B'):RdD w' B a b d:=⟨h.s.below hb hB,h.c.below hb hB,h.ls,h.lc⟩
theorem RdD.more {w:World} {B B':Nat} {a b:Value} {d:Dk} (h:RdD w B a b d) (hB:B<=B'):RdD w B' a b d:=⟨h.s.more hB,h.c.more hB,h.ls,h.lc⟩
theorem xQe (x:Wr) (n:Nat) (w:World):
  Calls Tryz.prog 104 #[.agg #[.int .i64 x.at_,xO x.data],.int .i64 n] w λe w'=>e=.returned (.bool (tF x n))/\Below w.heap.size w w':=by
 obtain⟨a,s⟩:=x;obtain⟨sb,hsb⟩:∃sb:ByteArray,(⟨s.toArray⟩:ByteArray)=sb:=⟨_,rfl⟩;have HF:Hid (tF ⟨a,s⟩ n=(decide (0<=a)&&decide (a<n)&&decide (sb.size=64))):=ι (by rw[<-hsb];rfl);show Calls Tryz.prog 104 #[.agg #[.int .i64 a,.string ⟨s.toArray⟩],.int .i64 n] w _;rw[hsb]
 have hB:=xL w (.cells #[.int .i64 a,.string sb] 118);have c0:=xA hB 0;have c1:=xA hB 1;have HB:=ι ((Below.refl w.heap.size w).alloc ν (.cells #[.int .i64 a,.string sb] 118));clear hB hsb
 by_cases h1:0<=a
 ·by_cases h2:a<n
  ·by_cases h3:sb.size=64
   ·have h3i:(sb.size:Int)=64:=by omega
    have h3b:((sb.size:Int)==64)=true:=by simpa using h3i
    have HR:Hid (tF ⟨a,s⟩ n=true):=ι (by rw[HF.o];simp[h1,h2,h3]);clear h3;go_enter Tryz.func104,Tryz.ntmps104;go_wp2;go_ret;exact⟨by rw[HR.o];rfl,HB.o⟩
   ·have h3i:¬((sb.size:Int)=64):=by omega
    have h3b:((sb.size:Int)==64)=false:=by simpa using h3i
    have HR:Hid (tF ⟨a,s⟩ n=false):=ι (by rw[HF.o];simp[h3]);clear h3;go_enter Tryz.func104,Tryz.ntmps104;go_wp2;go_ret;exact⟨by rw[HR.o];rfl,HB.o⟩
  ·have HR:Hid (tF ⟨a,s⟩ n=false):=ι (by rw[HF.o];simp[h2]);go_enter Tryz.func104,Tryz.ntmps104;go_wp2;go_ret;exact⟨by rw[HR.o];rfl,HB.o⟩
 ·have HR:Hid (tF ⟨a,s⟩ n=false):=ι (by rw[HF.o];simp[h1]);go_enter Tryz.func104,Tryz.ntmps104;go_wp2;go_ret;exact⟨by rw[HR.o];rfl,HB.o⟩
theorem wE (va vb:Value) (d:Dk) (w:World) (h:RdD w w.heap.size va vb d):
  Calls Tryz.prog 44 #[.agg #[va,vb]] w λe w'=>e=.returned (.bool (yZ d))/\Below w.heap.size w w':=by
 obtain⟨S,C⟩:=d;obtain⟨⟨A1,c1,rfl,hc1,h1⟩,⟨A2,c2,rfl,hc2,h2⟩,hls,hlc⟩:=h;have H1:=ι h1;have H2:=ι h2;simp only at hc1 hc2 hls hlc H1 H2⊢;have HF:Hid (yZ ⟨S,C⟩=(decide (1<=S.length)&&decide (S.length<=1024)&&S.all (λs=>decide (s.length=64))&&C.all (λx=>tF x S.length))):=ι rfl
 have hB:=xL w (xX (.slice A1 S.length c1) (.slice A2 C.length c2));have HB:=ι ((Below.refl w.heap.size w).alloc ν (xX (.slice A1 S.length c1) (.slice A2 C.length c2)));have b0:=xA hB 0;have HBK:=ι hB;clear hB h1 h2
 by_cases g1:1<=S.length
 ·by_cases g2:S.length<=1024
  ·have i1:¬((S.length:Int)<1):=by omega
   have i2:¬(1024<(S.length:Int)):=by omega
   have HF2:Hid (yZ ⟨S,C⟩=(S.all (λs=>decide (s.length=64))&&C.all (λx=>tF x S.length))):=ι (by rw[HF.o];simp[g1,g2]);clear HF;go_enter Tryz.func44,Tryz.ntmps44;go_wp2_with fail
   obtain⟨b,off,rfl,hbw,hcs⟩:=H1.o ω;have HCS:=ι hcs;clear H1 hcs b0;generalize w.alloc (xX (.slice (some ⟨b,off,none⟩) S.length c1) (.slice A2 C.length c2))=w0 at HB HBK⊢
   go_loopw [20] (λiv wr=>∃k:Nat,k<=S.length/\iv=.int .i64 k/\wr=w0/\Hid (∀r∈S.take k,decide (r.length=64)=true)) (λiv _=>S.length- (intOf iv).toNat)
   case atStart=>exact⟨0,Nat.zero_le _,rfl,rfl,ι σ⟩
   case round=>
    obtain⟨k,hk,rfl,rfl,hok⟩:=hrel
    by_cases hlt:k<S.length
    ·obtain⟨x,hx⟩:∃x,S[k]?=some x:=⟨_,List.getElem?_eq_getElem hlt⟩;have q0:=(HB.o.cell (p:=⟨b,off+k,none⟩) hbw).trans (HCS.o k x hx);have HX:=ι hx;clear hx;obtain⟨xb,hxb⟩:∃xb:ByteArray,(⟨x.toArray⟩:ByteArray)=xb:=⟨_,rfl⟩;have hxs:xb.size=x.length:=by rw[<-hxb];rfl
     have q1:wr.cell? ⟨b,off+k,none⟩=some (.string xb):=by rw[<-hxb];exact q0
     clear q0 hxb
     by_cases h64:x.length=64
     ·have e1:((xb.size:Int)!=64)=false:=by simp;omega
      have e2:(xb.size:Int)=64:=by omega
      have HO:=ι (xK8 HX.o (by simpa using h64) hok.o);clear h64 hxs;go_wp2;exact⟨⟨k+1,ω,by go_num,trivial,HO⟩,by simp[intOf];omega⟩
     ·have e1:((xb.size:Int)!=64)=true:=by simp;omega
      have e2:¬((xb.size:Int)=64):=by omega
      have HR:Hid (yZ ⟨S,C⟩=false):=ι (by rw[HF2.o,all_false HX.o (by simpa using h64)];rfl);clear h64 hxs;go_wp2;go_ret;exact⟨by rw[HR.o];rfl,HB.o⟩
    ·obtain rfl:k=S.length:=by omega
     have HF3:Hid (yZ ⟨S,C⟩=C.all (λx=>tF x S.length)):=ι (by rw[HF2.o,all_true hok.o];rfl);clear HF2 hok HCS hlt;have b1:=xA HBK.o 1;go_wp2_with fail
     clear b1
     go_loopw [31] (λiv wx=>∃k:Nat,k<=C.length/\iv=.int .i64 k/\Hid (Below wr.heap.size wr wx)/\Hid (∀r∈C.take k,tF r S.length=true)) (λiv _=>C.length- (intOf iv).toNat)
     case atStart=>exact⟨0,Nat.zero_le _,rfl,ι (Below.refl _ _),ι σ⟩
     case round=>
      obtain⟨k,hk,rfl,hbx,hok⟩:=hrel
      by_cases hlt:k<C.length
      ·obtain⟨b2,xW0,rfl,hb2,hc2⟩:=H2.o ω;obtain⟨x,hx⟩:∃x,C[k]?=some x:=⟨_,List.getElem?_eq_getElem hlt⟩;obtain⟨p0,p1⟩:=hc2 k x hx;have HBX:=ι (HB.o.trans (hbx.o.mono HB.o.size));have q0:=(HBX.o.cell (p:=⟨b2,xW0+k*2,none⟩) hb2).trans p0
       have q1:=(HBX.o.cell (p:=⟨b2,xW0+k*2+1,none⟩) hb2).trans p1;have HX:=ι hx;have HFT:=ι (λW=>xQe x S.length W);have b0:=xA (xK (xB HBK.o hbx.o (xG HBK.o)) (.cells #[.int .i64 x.at_,.string ⟨x.data.toArray⟩] 118)) 0
       have HA:=ι ((Below.refl wr.heap.size wr).alloc ν (.cells #[.int .i64 x.at_,.string ⟨x.data.toArray⟩] 118));obtain⟨a,s⟩:=x;simp only at q0 q1 HFT b0 HA;clear hc2 hx p0 p1 H2;go_wp2_with fail
       refine(HFT.o _).mono ?_;rintro e w5 ⟨rfl,hb5⟩;have HB5:=ι (hbx.o.trans ((HA.o.trans (hb5.mono HA.o.size)).mono hbx.o.size));clear hb5 HA b0 q0 q1 HFT;cases hft:tF ⟨a,s⟩ S.length with
       |true=>
        have HO:=ι (xK8 HX.o hft hok.o);clear hft;go_wp2;exact⟨⟨k+1,ω,by go_num,HB5,HO⟩,by simp[intOf];omega⟩
       |false=>
        have HR:Hid (yZ ⟨S,C⟩=false):=ι (by rw[HF3.o,all_false HX.o hft]);clear hft;go_wp2;go_ret;exact⟨by rw[HR.o];rfl,HB.o.trans (HB5.o.mono HB.o.size)⟩
      ·obtain rfl:k=C.length:=by omega
       have HR:Hid (yZ ⟨S,C⟩=true):=ι (by rw[HF3.o,all_true hok.o]);clear hlt;go_wp2;go_ret;exact⟨by rw[HR.o];rfl,HB.o.trans (hbx.o.mono HB.o.size)⟩
  ·have i1:¬((S.length:Int)<1):=by omega
   have i2:1024<(S.length:Int):=by omega
   have HR:Hid (yZ ⟨S,C⟩=false):=ι (by rw[HF.o];simp[g2]);go_enter Tryz.func44,Tryz.ntmps44;go_wp2;go_ret;exact⟨by rw[HR.o];rfl,HB.o⟩
 ·have i1:(S.length:Int)<1:=by omega
  have HR:Hid (yZ ⟨S,C⟩=false):=ι (by rw[HF.o];simp[g1]);go_enter Tryz.func44,Tryz.ntmps44;go_wp2;go_ret;exact⟨by rw[HR.o];rfl,HB.o⟩
end Go.Proofs.DS
namespace Mailsack
def wrD (C:List Wr) (k:Nat):Wr:=C.getD k ⟨0,[]⟩
def rC (c:Nat->Bool) (C:List Wr) (S:List Bs):Nat->List Bs
 |0=>S
 |k+1=>if c k=true then(rC c C S k).set (wrD C k).at_.toNat (wrD C k).data else rC c C S k
theorem qW (c:Nat->Bool) (C:List Wr) (S:List Bs):∀k,(rC c C S k).length=S.length
 |0=>rfl
 |k+1=>by
  unfold rC;split
  ·rw[List.length_set,qW c C S k]
  ·exact qW c C S k
def yG (d:Dk):Dk:=if yZ d=true then⟨rC (λ_=>true) d.cache d.secs d.cache.length,[]⟩ else d
theorem xRu {d:Dk} (h:yZ d=true):1<=d.secs.length/\d.secs.length<=1024:=by
 unfold yZ at h;simp only[Bool.and_eq_true,decide_eq_true_eq] at h;exact⟨h.1.1.1,h.1.1.2⟩
theorem xVn {d:Dk} (h:yZ d=true) {k:Nat} {x:Wr} (hx:d.cache[k]?=some x):0<=x.at_/\x.at_<d.secs.length/\x.data.length=64:=by
 unfold yZ at h;simp only[Bool.and_eq_true] at h;have:=List.all_eq_true.1 h.2 x (List.mem_of_getElem? hx);unfold tF at this;simp only[Bool.and_eq_true,decide_eq_true_eq] at this;exact⟨this.1.1,this.1.2,this.2⟩
end Mailsack
namespace Go.Proofs.DS
open Go.RowKit Mailsack MM BB
theorem xOk (l:List Bs):(encSv l).toList=l.map xO:=by simp[encSv]
theorem kV.row {W:World} {g:Nat} {l:List Bs} (h:kV W g l) (l':List Bs):kV (W.setRow g (encSv l')) g l':=setRow_heap W g _ _ _ _ h.blk
theorem yF4 {W:World} {g:Nat} {l:List Bs} (h:kV W g l) (S:List Bs) (hl:l.length=S.length) (b off c cd:Nat) (ty:TypeId) (hsrc:∀j x,S[j]?=some x->W.cell? ⟨b,off+j,none⟩=some (xO x)):
  (Builtin.copy_ #[22,22] ty #[.slice (some ⟨g,0,none⟩) S.length cd,.slice (some ⟨b,off,none⟩) S.length c]).run Tryz.prog W=.ok (goInt S.length) (W.setRow g (encSv S)):=by
 have h3:=run_copy_row (P:=Tryz.prog) W 22 22 ty 9 g 0 S.length cd ⟨b,off,none⟩ S.length c (encSv l) _ (S.map xO) Tryz.underlying22 κ h.blk σ (λj v hv=>by
  rw[List.getElem?_map] at hv;obtain⟨x,hx,rfl⟩:=Option.map_eq_some_iff.1 hv;have hadd:(⟨b,off,none⟩:Addr).add j=⟨b,off+j,none⟩:=by unfold Addr.add;split<;>simp_all
  rw[hadd];exact hsrc j x hx) (by rw[xM9];simp;omega) (λv hv=>by
  obtain⟨x,_,rfl⟩:=List.mem_map.1 hv
  rfl)
 have hrow:((encSv l).toList.take 0++S.map xO++(encSv l).toList.drop (0+(S.map xO).length)).toArray=encSv S:=by
  rw[xOk];simp[encSv,<-hl]
 rw[h3,hrow];simp
theorem xV0 (w:World) (o o' o'':Obj):(((w.alloc o).alloc o').alloc o'').heap[w.heap.size+1+1]?=some o'':=by
 have:=xL ((w.alloc o).alloc o') o''
 rwa [show((w.alloc o).alloc o').heap.size=w.heap.size+1+1 by simp] at this
structure PfI (w:World) (g:Nat) (va vb:Value) (l:List Bs) (W:World):Prop where
 box:W.heap[w.heap.size]?=some (xX va vb)
 res:W.heap[w.heap.size+1]?=some (xX (.slice none 0 0) (.slice none 0 0))
 row:kV W g l
 bel:Below w.heap.size w W
 lo:w.heap.size+1<g
theorem PfI.call {w:World} {g:Nat} {va vb:Value} {l:List Bs} {W W':World} (h:PfI w g va vb l W) (hb:Below W.heap.size W W'):PfI w g va vb l W':=
 ⟨xB h.box hb (xG h.box),xB h.res hb (xG h.res),h.row.below hb h.row.lt,h.bel.trans (hb.mono h.bel.size),h.lo⟩
theorem PfI.put {w:World} {g:Nat} {va vb:Value} {l:List Bs} {W:World} (h:PfI w g va vb l W) (i:Nat) (x:Bs):PfI w g va vb (l.set i x) (W.setCell ⟨g,i,none⟩ (xO x)):=
 ⟨yA h.box (p:=⟨g,i,none⟩) (by have:=h.lo;simp;omega) _,yA h.res (p:=⟨g,i,none⟩) (by have:=h.lo;simp;omega) _,h.row.put i x,h.bel.setCell (p:=⟨g,i,none⟩) (by have:=h.lo;simp;omega) _,h.lo⟩
theorem xNs (va vb:Value) (d:Dk) (fid:FuncId) (fr:Array Value) (c:Nat->Bool) (w:World) (h:RdD w w.heap.size va vb d) (hr:yZ d=true) (hE:∀args W,(callFunc fid args).run Tryz.prog W=.ok (.enter fid args) W)
  (hc:∀i W,i<d.cache.length->Below w.heap.size w W->Calls Tryz.prog fid (#[.int .i64 (i:Int)]++fr) W λe w'=>e=.returned (.bool (c i))/\Below W.heap.size W w'):
  Calls Tryz.prog 228 #[.agg #[va,vb],.func (.func fid) #[] fr] w λe w'=>∃g,e=.returned (.agg #[.slice (some ⟨g,0,none⟩) d.secs.length d.secs.length,.slice none 0 0])/\kV w' g (rC c d.cache d.secs d.cache.length)/\w.heap.size<g/\Below w.heap.size w w':=by
 obtain⟨hn1,hn2⟩:=xRu hr;have HFIT:=ι (λ(k:Nat) (x:Wr) (hx:d.cache[k]?=some x)=>xVn hr hx);have HC:=ι hc;obtain⟨S,C⟩:=d;obtain⟨⟨A1,c1,rfl,hc1,h1⟩,⟨A2,c2,rfl,hc2,h2⟩,hls,hlc⟩:=h;simp only at hn1 hn2 hc1 hc2 h1 h2 hls hlc HFIT HC⊢;obtain⟨b,off,rfl,hbw,hcs⟩:=h1 ω;have HCS:=ι hcs
 have H2:=ι h2;have t0:=zG w (xX (.slice (some ⟨b,off,none⟩) S.length c1) (.slice A2 C.length c2)) (xX (.slice none 0 0) (.slice none 0 0));have t1:=yX w (xX (.slice (some ⟨b,off,none⟩) S.length c1) (.slice A2 C.length c2)) (xX (.slice none 0 0) (.slice none 0 0))
 have HB0:=ι (((Below.refl w.heap.size w).alloc ν (xX (.slice (some ⟨b,off,none⟩) S.length c1) (.slice A2 C.length c2))).alloc σ (xX (.slice none 0 0) (.slice none 0 0)));have HT0:=ι t0;have HT1:=ι t1;have k0:=xA t0 0;have hmk:=λW=>madeS W S.length ω;clear hr hc hcs h1 h2 t0 t1
 go_enter Tryz.func228,Tryz.ntmps228;go_upto_region 2 with fail
 have HP:Hid (PfI w (w.heap.size+1+1) (.slice (some ⟨b,off,none⟩) S.length c1) (.slice A2 C.length c2) (List.replicate S.length []) (((w.alloc (xX (.slice (some ⟨b,off,none⟩) S.length c1) (.slice A2 C.length c2))).alloc (xX (.slice none 0 0) (.slice none 0 0))).alloc (.cells (encSv (List.replicate S.length [])) 9))):=
  ι ⟨xK HT0.o _,xK HT1.o _,xV0 _ _ _ _,HB0.o.alloc HB0.o.size _,ω⟩
 generalize ((w.alloc (xX (.slice (some ⟨b,off,none⟩) S.length c1) (.slice A2 C.length c2))).alloc (xX (.slice none 0 0) (.slice none 0 0))).alloc (.cells (encSv (List.replicate S.length [])) 9)=w3 at HP⊢;generalize w.heap.size+1+1=g at HP⊢;clear k0 hmk HT0 HT1 HB0
 have k0:=xA HP.o.box 0;have hcp:=yF4 HP.o.row S σ b off c1 S.length 3 (λj x hx=>(HP.o.bel.cell (p:=⟨b,off+j,none⟩) hbw).trans (HCS.o j x hx));go_upto_region 3 with fail
 have HP2:Hid (PfI w g (.slice (some ⟨b,off,none⟩) S.length c1) (.slice A2 C.length c2) (rC c C S 0) (w3.setRow g (encSv S))):=
  ι ⟨by rw[setRow_other _ _ _ _ (by have:=HP.o.lo;omega)];exact HP.o.box,by rw[setRow_other _ _ _ _ (by have:=HP.o.lo;omega)];exact HP.o.res,kV.row HP.o.row S,below_setRow HP.o.bel (by have:=HP.o.lo;omega) _,HP.o.lo⟩
 generalize w3.setRow g (encSv S)=w4 at HP2⊢;clear HP hcp HCS k0;have k1:=xA HP2.o.box 1;go_wp2_with fail
 clear k1
 go_loopw [19] (λiv wr=>∃k:Nat,k<=C.length/\iv=.int .i64 k/\Hid (PfI w g (.slice (some ⟨b,off,none⟩) S.length c1) (.slice A2 C.length c2) (rC c C S k) wr)) (λiv _=>C.length- (intOf iv).toNat)
 case atStart=>exact⟨0,Nat.zero_le _,rfl,HP2⟩
 case round=>
  obtain⟨k,hk,rfl,hr⟩:=hrel;clear HP2
  by_cases hlt:k<C.length
  ·obtain⟨b2,xW0,rfl,hb2,hc2⟩:=H2.o ω;obtain⟨x,hx⟩:∃x,C[k]?=some x:=⟨_,List.getElem?_eq_getElem hlt⟩;obtain⟨p0,p1⟩:=hc2 k x hx;have q0:=(hr.o.bel.cell (p:=⟨b2,xW0+k*2,none⟩) hb2).trans p0;have q1:=(hr.o.bel.cell (p:=⟨b2,xW0+k*2+1,none⟩) hb2).trans p1
   obtain⟨f0,f1,f2⟩:=HFIT.o k x hx;have HD:Hid (wrD C k=x):=ι (by unfold wrD;rw[List.getD_eq_getElem?_getD,hx];rfl);obtain⟨a,s⟩:=x;simp only at q0 q1 f0 f1 f2;have HA:=ι (hr.o.call ((Below.refl wr.heap.size wr).alloc ν (.cells #[.int .i64 a,xO s] 118)))
   have hbk:=xL wr (.cells #[.int .i64 a,xO s] 118);have hcc:=HC.o k (wr.alloc (.cells #[.int .i64 a,xO s] 118)) hlt HA.o.bel;have HBK:=ι hbk;have HCC:=ι hcc;clear hc2 hx p0 p1 H2 hbk hcc;go_wp2_with fail
   refine HCC.o.mono ?_;rintro e w5 ⟨rfl,hb5⟩;have hk5:=xB HBK.o hb5 (xG HBK.o);have HR5:=ι (HA.o.call hb5);have m0:=xA hk5 0;have m1:=xA hk5 1;clear HA HBK HCC hb5 hk5 q0 q1 hr;cases hck:c k with
   |true=>
    have HPL:Hid (rC c C S (k+1)=(rC c C S k).set a.toNat s):=ι (by rw[rC,if_pos hck,HD.o]);obtain⟨an,rfl⟩:∃an:Nat,a=an:=⟨a.toNat,ω⟩;have hal:an<(rC c C S k).length:=by rw[qW];omega
    obtain⟨y,hy⟩:∃y,(rC c C S k)[an]?=some y:=⟨_,List.getElem?_eq_getElem hal⟩;have cy:=HR5.o.row.cell hy;have yy:=HR5.o.row.free an;have HE5:=ι (HR5.o.put an s);have hpl:=HPL.o;simp only[Int.toNat_natCast] at hpl;rw[<-hpl] at HE5;clear hck HPL hal hy hpl HD;go_wp2
    exact⟨⟨k+1,ω,by go_num,HE5⟩,by simp[intOf];omega⟩
   |false=>
    have HPL:Hid (rC c C S (k+1)=rC c C S k):=ι (by rw[rC,if_neg (by rw[hck];simp)]);clear hck HD;go_wp2;exact⟨⟨k+1,ω,by go_num,by rw[HPL.o];exact HR5⟩,by simp[intOf];omega⟩
  ·obtain rfl:k=C.length:=by omega
   have c0:=xA hr.o.res 0;have c1:=xA hr.o.res 1;have y0:=xC hr.o.res 0;have y1:=xC hr.o.res 1;have hB:=xY (xY hr.o.res 0 (.slice (some ⟨g,0,none⟩) S.length S.length)) 1 (.slice none 0 0);have f0:=xA hB 0;have f1:=xA hB 1
   simp only[List.setIfInBounds_toArray,List.set_cons_zero,List.set_cons_succ,gA,gC,gB] at f0 f1;clear hB hlt H2 HC HFIT;have HL:Hid (w.heap.size+1<g):=ι hr.o.lo;go_wp2
   refine bodyPost_ret (v:=.agg #[.slice (some ⟨g,0,none⟩) S.length S.length,.slice none 0 0]) (by simp[results,Tryz.results228,go_sem,f0,f1]) rfl ?_;have hlo:=HL.o;refine⟨g,rfl,?_,ω,?_⟩
   ·exact(hr.o.row.far (p:=⟨w.heap.size+1,0,none⟩) (by simp;omega) _).far (p:=⟨w.heap.size+1,1,none⟩) (by simp;omega) _
   ·exact(hr.o.bel.setCell (p:=⟨w.heap.size+1,0,none⟩) σ _).setCell (p:=⟨w.heap.size+1,1,none⟩) σ _
def noB (n:Nat):Array Value:=(List.replicate n (Value.bool false)).toArray
theorem yAd (n:Nat):madeCells (Value.cells (.bool false)) (n*1)=noB n:=by
 apply Array.ext_getElem?;intro i
 by_cases h:i<n
 ·have:(noB n)[i]?=some (.bool false):=by simp[noB,h]
  rw[this];simp[madeCells,Value.cells,h,Nat.mod_one]
 ·rw[Array.getElem?_eq_none (by simp[madeCells];omega),Array.getElem?_eq_none (by simp[noB];omega)]
theorem madeB (W:World) (n:Nat) (hm:n<=1000000):(Instr.makeSlice 408 (.int .i64 (n:Int)) (.int .i64 (n:Int))).run Tryz.prog W=.ok (.slice (some ⟨W.heap.size,0,none⟩) n n) (W.alloc (.cells (noB n) 4)):=by
 have hinfo:(Tryz.prog.info? 4).map (λi=>(i.zero,i.size,i.bytes))=some (some (.bool false),1,1):=by kernel_rfl
 cases hq:Tryz.prog.info? 4 with
 |none=>rw[hq] at hinfo;cases hinfo
 |some i=>
  rw[hq] at hinfo;simp only[Option.map_some,Option.some.injEq,Prod.mk.injEq] at hinfo;obtain⟨hz,hs,hb⟩:=hinfo;have h:=run_make (P:=Tryz.prog) (w:=W) 408 4 i _ Tryz.underlying408 hq hz .i64 .i64 (n:Int) (n:Int) ω ω (by rw[hb];omega) ω;simp only[Int.toNat_natCast] at h
  rw[hs,yAd] at h;exact h
theorem xYj (i:Int) (w:World):Calls Tryz.prog 229 #[.int .i64 i] w λe w'=>e=.returned (.bool true)/\Below w.heap.size w w':=by
 go_enter Tryz.func229,Tryz.ntmps229;go_wp2;go_ret;exact⟨rfl,Below.refl _ _⟩
theorem xGb (va vb:Value) (d:Dk) (w:World) (h:RdD w w.heap.size va vb d):
  Calls Tryz.prog 154 #[.agg #[va,vb]] w λe w'=>∃va' vb',e=.returned (.agg #[va',vb'])/\RdD w' w'.heap.size va' vb' (yG d)/\(yZ d=true->∃g,va'=.slice (some ⟨g,0,none⟩) d.secs.length d.secs.length/\kV w' g (yG d).secs)/\Below w.heap.size w w':=by
 obtain⟨A1,c1,rfl,_,_⟩:=h.s;obtain⟨A2,c2,rfl,_,_⟩:=h.c;have t0:=zG w (xX (.slice A1 d.secs.length c1) (.slice A2 d.cache.length c2)) (xX (.slice none 0 0) (.slice none 0 0))
 have t1:=yX w (xX (.slice A1 d.secs.length c1) (.slice A2 d.cache.length c2)) (xX (.slice none 0 0) (.slice none 0 0))
 have HB0:=ι (((Below.refl w.heap.size w).alloc ν (xX (.slice A1 d.secs.length c1) (.slice A2 d.cache.length c2))).alloc σ (xX (.slice none 0 0) (.slice none 0 0)));have HD:=ι h;have HRT:=ι (λW (hb:Below w.heap.size w W)=>wE _ _ d W ((h.below hb ν).more hb.size));have HT0:=ι t0
 have HT1:=ι t1;have k0:=xA t0 0;have k1:=xA t0 1;clear h t0 t1;go_enter Tryz.func154,Tryz.ntmps154;go_wp2_with fail
 refine(HRT.o _ HB0.o).mono ?_;rintro e w1 ⟨rfl,hb1⟩;have HB1:=ι (HB0.o.trans (hb1.mono HB0.o.size));have HT0':=ι (xB HT0.o hb1 (xG HT0.o));have yBx:=ι (xB HT1.o hb1 (xG HT1.o));clear HT0 HT1 HB0 hb1 k0 k1 HRT;have k0:=xA HT0'.o 0;have k1:=xA HT0'.o 1;cases hr:yZ d with
 |false=>
  have j0:=xA yBx.o 0;have j1:=xA yBx.o 1;have y0:=xC yBx.o 0;have y1:=xC yBx.o 1;have hB:=xY (xY yBx.o 0 (.slice A1 d.secs.length c1)) 1 (.slice A2 d.cache.length c2);have f0:=xA hB 0;have f1:=xA hB 1
  simp only[List.setIfInBounds_toArray,List.set_cons_zero,List.set_cons_succ,gA,gC,gB] at f0 f1;have HF:Hid (yG d=d):=ι (by unfold yG;rw[if_neg (by rw[hr];simp)]);have HRF:=ι hr;clear hB hr;go_wp2
  refine bodyPost_ret (v:=.agg #[.slice A1 d.secs.length c1,.slice A2 d.cache.length c2]) (by simp[results,Tryz.results154,go_sem,f0,f1]) rfl ?_
  have hb:=(HB1.o.setCell (p:=⟨w.heap.size+1,0,none⟩) σ (.slice A1 d.secs.length c1)).setCell (p:=⟨w.heap.size+1,1,none⟩) σ (.slice A2 d.cache.length c2);refine⟨_,_,rfl,?_,(λh=>by rw[HRF.o] at h;cases h),hb⟩;rw[HF.o];exact(HD.o.below hb ν).more hb.size
 |true=>
  have HPF:=ι (xNs _ _ d 229 #[] (λ_=>true) w1 ((HD.o.below HB1.o ν).more HB1.o.size) hr (λargs W=>enters_of Tryz.func229 κ rfl args W) (λi W _ _=>by have:=xYj i W;simpa using this))
  have HF:Hid (yG d=⟨rC (λ_=>true) d.cache d.secs d.cache.length,[]⟩):=ι (by unfold yG;rw[if_pos hr]);clear hr;go_wp2_with fail
  refine HPF.o.mono ?_;rintro e w2 ⟨g,rfl,hs,hg,hb2⟩;have HT2:=ι (xB yBx.o hb2 (xG yBx.o));have HS2:=ι hs;have HB2:=ι (HB1.o.trans (hb2.mono HB1.o.size));have hgw:w.heap.size+1<g:=by have:=xG yBx.o;omega
  clear HPF hs hg hb2 HT0' yBx HB1 k0 k1;have j0:=xA HT2.o 0;have j1:=xA HT2.o 1;have y0:=xC HT2.o 0;have y1:=xC HT2.o 1;have hB:=xY (xY HT2.o 0 (.slice (some ⟨g,0,none⟩) d.secs.length d.secs.length)) 1 (.slice none 0 0);have f0:=xA hB 0;have f1:=xA hB 1
  simp only[List.setIfInBounds_toArray,List.set_cons_zero,List.set_cons_succ,gA,gC,gB] at f0 f1;clear hB;go_wp2;refine bodyPost_ret (v:=.agg #[.slice (some ⟨g,0,none⟩) d.secs.length d.secs.length,.slice none 0 0]) (by simp[results,Tryz.results154,go_sem,f0,f1]) rfl ?_
  have hb:=(HB2.o.setCell (p:=⟨w.heap.size+1,0,none⟩) σ (.slice (some ⟨g,0,none⟩) d.secs.length d.secs.length)).setCell (p:=⟨w.heap.size+1,1,none⟩) σ (.slice none 0 0)
  have hs2:=(HS2.o.far (p:=⟨w.heap.size+1,0,none⟩) (by simp;omega) (.slice (some ⟨g,0,none⟩) d.secs.length d.secs.length)).far (p:=⟨w.heap.size+1,1,none⟩) (by simp;omega) (.slice none 0 0);refine⟨_,_,rfl,?_,λ_=>⟨g,rfl,?_⟩,hb⟩
  ·rw[HF.o];refine⟨?_,RdW.xPs _ _,?_,σ⟩
   ·have hl:=qW (λ_=>true) d.cache d.secs d.cache.length;have:=hs2.rd d.secs.length ω;rw[hl] at this;exact this.more (by have:=hs2.lt;omega)
   ·show(rC _ _ _ _).length<=_;rw[qW];exact HD.o.ls
  ·rw[HF.o];exact hs2
end Go.Proofs.DS
namespace Go.Proofs.DS
open Go.RowKit Mailsack MM BB SH
theorem xKv (va vb:Value) (d:Dk) (w:World) (h:RdD w w.heap.size va vb d):
  Calls Tryz.prog 350 #[.agg #[va,vb]] w λe w'=>e=.returned (.bool (decide (61<d.secs.length)&&yZ d))/\Below w.heap.size w w':=by
 obtain⟨A1,c1,rfl,_,_⟩:=h.s;obtain⟨A2,c2,rfl,_,_⟩:=h.c;have hb:=xL w (xX (.slice A1 d.secs.length c1) (.slice A2 d.cache.length c2));have HB:=ι ((Below.refl w.heap.size w).alloc ν (xX (.slice A1 d.secs.length c1) (.slice A2 d.cache.length c2)))
 have HRT:=ι (λW (hb:Below w.heap.size w W)=>wE _ _ d W ((h.below hb ν).more hb.size));have k0:=xA hb 0;have k1:=xA hb 1;clear h hb
 by_cases hl:61<d.secs.length
 ·have hi:61<(d.secs.length:Int):=by omega
  have HD:Hid (decide (61<d.secs.length)=true):=ι (by simpa using hl);go_enter Tryz.func350,Tryz.ntmps350;go_wp2_with fail
  refine(HRT.o _ HB.o).mono ?_;rintro e w1 ⟨rfl,hb1⟩;have HB1:=ι (HB.o.trans (hb1.mono HB.o.size));have HE:Hid ((decide (61<d.secs.length)&&yZ d)=yZ d):=ι (by rw[HD.o,Bool.true_and]);clear hb1;go_wp2;go_ret;exact⟨by rw[HE.o];rfl,HB1.o⟩
 ·have hi:¬(61<(d.secs.length:Int)):=by omega
  have HE:Hid ((decide (61<d.secs.length)&&yZ d)=false):=ι (by simp[hl]);go_enter Tryz.func350,Tryz.ntmps350;go_wp2;go_ret;exact⟨rfl,HB.o⟩
end Go.Proofs.DS
namespace Mailsack
structure Op where
 flush:Bool
 w:Wr
def xBs (d:Dk):Bool:=decide (61<d.secs.length)&&yZ d
def yA1 (d:Dk) (x:Wr):Dk:=⟨d.secs,d.cache++[x]⟩
def kC (d:Dk) (o:Op):Dk:=if o.flush=true then yG d else if (yZ d&&tF o.w d.secs.length)=true then yA1 d o.w else d
def vR (d:Dk) (l:List Op):Dk:=l.foldl kC d
def xGm (a:Int):Bs:=[oct a,oct (a / 256),oct (a / 65536),oct (a / 16777216)]++xQ 60
theorem xMb (a:Int):(xGm a).length=64:=by simp[xGm,xQ]
def xXs (x:Wr):Bs:=xGm x.at_++x.data
def xSy (n:Nat) (all:Bs):Bs:=74::oct n::(xH7 (bsA all)++xQ 30)
def wOp (a:Int) (b:Bs):Op:=⟨false,⟨a,b⟩⟩
def fOp:Op:=⟨true,⟨0,[]⟩⟩
def qJ:Nat->List Wr->List Op
 |_,[]=>[]
 |i,x::l=>wOp (1+2*(i:Int)) (xGm x.at_)::wOp (2+2*(i:Int)) x.data::qJ (i+1) l
theorem xFc:∀(l:List Wr) (i:Nat),(qJ i l).length=2*l.length
 |[],_=>rfl
 |x::l,i=>by simp[qJ,xFc l];omega
theorem xLx:∀(l:List Wr) (i:Nat) (x:Wr),qJ i (l++[x])=qJ i l++[wOp (1+2*((i+l.length:Nat):Int)) (xGm x.at_),wOp (2+2*((i+l.length:Nat):Int)) x.data]
 |[],_,_=>by simp[qJ]
 |y::l,i,x=>by
  simp only[List.cons_append,qJ,xLx l (i+1) x,List.length_cons];rw[show i+1+l.length=i+(l.length+1) by omega]
def xIi (l:List Wr):Bs:=(l.map xXs).flatten
def jQ (l:List Wr):List Op:=qJ 0 l++[fOp,wOp 0 (xSy l.length (xIi l)),fOp]++l.map (λx=>⟨false,x⟩)++[fOp,wOp 0 (xQ 64),fOp]
def xOd (n:Nat) (x:Wr):Bool:=decide (61<=x.at_)&&decide (x.at_<n)&&decide (x.data.length=64)
def vW (d:Dk) (l:List Wr):Int:=
 if xBs d=false∨l.length=0 then 1 else if l.all (xOd d.secs.length)=false then 1 else if 30<l.length then 4 else 0
def xB2 (d:Dk) (l:List Wr):Dk:=if vW d l=0 then vR d (jQ l) else⟨[],[]⟩
structure Slot where
 used:Bool
 cls:Nat
 blk:Nat
 size:Nat
 name:Bs
deriving DecidableEq
def noSlot:Slot:=⟨false,0,0,0,[]⟩
def jT (c:Nat):Nat:=if c=0 then 24 else 12
def xId (c:Nat):Nat:=if c=0 then 256 else 1024
def xS5 (s:Bs) (n:Nat):Bs:=s++xQ (n-s.length)
def xZs (t:Slot):Bs:=[1,oct t.cls,oct t.blk,oct t.size,oct (t.size / 256:Nat),oct t.name.length]++t.name
def xQh (t:Slot):Bs:=if t.used=true then xS5 (xZs t) 64 else xS5 [] 64
def bN (s:Bs) (i:Nat):Nat:=(s.getD i 0).toNat
theorem xTi (s:Bs) (i:Nat):bN s i<256:=UInt8.toNat_lt _
def qB (s:Bs):Slot:=⟨true,bN s 1,bN s 2,bN s 3+256*bN s 4,(s.drop 6).take (bN s 5)⟩
def xPq (s:Bs):Bool:=decide (bN s 0=1)&&decide (bN s 1<=1)&&decide (bN s 2<jT (bN s 1))&&decide (bN s 3+256*bN s 4<=xId (bN s 1))&&decide (1<=bN s 5)&&decide (bN s 5<=24)
def xQk (s:Bs):Slot:=if xPq s=true then(if s=xQh (qB s) then qB s else noSlot) else noSlot
def vY (d:Dk):Bool:=decide (d.secs.length=381)&&yZ d
def yR (S:List Bs):List Slot:=((S.drop 61).take 32).map xQk
def jE {α:Type} (p:α->Bool):List α->Int
 |[]=>-1
 |x::l=>if p x=true then 0 else if jE p l<0 then -1 else jE p l+1
def xEh (n:Bs) (t:Slot):Bool:=t.used&&t.name==n
def rG (l:List Slot) (n:Bs):Int:=jE (xEh n) l
def kP (c b:Nat):Nat:=if c=0 then 93+b*4 else 189+b*16
def countP (c:Nat):Nat:=if c=0 then 4 else 16
def xHr (l:List Slot) (i:Int):Slot:=l.getD i.toNat noSlot
def yDh (S:List Bs) (t:Slot):Bs:=(((S.drop (kP t.cls t.blk)).take (countP t.cls)).flatten).take t.size
def xQa (d:Dk) (n:Bs):Int:=if vY d=true then(if rG (yR (yG d).secs) n<0 then 6 else 0) else 1
def xXc (d:Dk) (n:Bs):Bs:=if xQa d n=0 then yDh (yG d).secs (xHr (yR (yG d).secs) (rG (yR (yG d).secs) n)) else[]
def vX (h:List Nat) (n:Nat):Nat->Nat->List Nat
 |0,_=>h
 |f+1,i=>
  if n<=2*i+1 then h
  else
   let j:=if 2*i+2<n/\h.getD (2*i+2) 0<h.getD (2*i+1) 0 then 2*i+2 else 2*i+1
   if h.getD j 0<h.getD i 0 then vX ((h.set i (h.getD j 0)).set j (h.getD i 0)) n f j else h
def xLy (h:List Nat):Nat->List Nat
 |0=>h
 |i+1=>xLy (vX h h.length h.length i) i
def xSw (h:List Nat):List Nat:=xLy h (h.length / 2)
def xH0 (h:List Nat):List Nat:=(vX ((h.set 0 (h.getD (h.length-1) 0)).set (h.length-1) (h.getD 0 0)) (h.length-1) (h.length-1) 0).dropLast
structure Ch where
 name:Bs
 data:Bs
 gone:Bool
structure StS where
 slots:List Slot
 xAv:List Nat
 xAu:List Nat
 writes:List Wr
def StS.free (s:StS) (c:Nat):List Nat:=if c=0 then s.xAv else s.xAu
def uE (l:List Slot) (c:Nat):List Nat:=(l.filter λt=>t.used&&t.cls==c).map (·.blk)
def xDv (n:Nat) (tk:List Nat):List Nat:=xSw ((List.range n).filter λi=>!tk.contains i)
def xAi (c b:Nat) (data:Bs):List Wr:=(List.range (countP c)).map λi=>⟨((kP c b+i:Nat):Int),((xS5 data (xId c)).drop (i*64)).take 64⟩
def setW (i:Nat) (t:Slot):Wr:=⟨((61+i:Nat):Int),xQh t⟩
def putAt (s:StS) (i:Nat) (t:Slot):StS:={s with slots:=s.slots.set i t,writes:=s.writes++[setW i t]}
def xJ4 (s:StS) (c:Nat):StS:=if c=0 then {s with xAv:=xH0 s.xAv} else {s with xAu:=xH0 s.xAu}
def xEf (l:List Slot) (n:Bs):Int:=if rG l n<0 then jE (λt=>!t.used) l else rG l n
def vZ (data:Bs):Nat:=if 256<data.length then 1 else 0
def xGq (s:StS) (c:Ch):Int:=
 if c.name.length<1∨24<c.name.length then 1
 else if c.gone=true then(if rG s.slots c.name<0 then 6 else 0)
 else if 1024<c.data.length then 4
 else if xEf s.slots c.name<0 then 5
 else if (s.free (vZ c.data)).length=0 then 5 else 0
def pI (c:Ch) (b:Nat):Slot:=⟨true,vZ c.data,b,c.data.length,c.name⟩
def xK2 (s:StS) (c:Ch):StS:=
 if c.gone=true then putAt s (rG s.slots c.name).toNat noSlot
 else
  let k:=vZ c.data
  let b:=(s.free k).getD 0 0
  let s1:=xJ4 s k
  putAt {s1 with writes:=s1.writes++xAi k b c.data} (xEf s.slots c.name).toNat (pI c b)
def uS:StS->List Ch->StS×Int
 |s,[]=>(s,0)
 |s,c::l=>if xGq s c=0 then uS (xK2 s c) l else(s,xGq s c)
def stS (d:Dk):StS:=⟨yR (yG d).secs,xDv 24 (uE (yR (yG d).secs) 0),xDv 12 (uE (yR (yG d).secs) 1),[]⟩
def wN (d:Dk) (l:List Ch):Int:=if vY d=true then(if (uS (stS d) l).2=0 then(if 30<(uS (stS d) l).1.writes.length then 4 else 0) else(uS (stS d) l).2) else 1
def wB (d:Dk) (l:List Ch):List Wr:=if wN d l=0 then(uS (stS d) l).1.writes else[]
def xB5 (d:Dk) (l:List Ch):Int:=if wN d l=0 then(if (wB d l).length=0 then 0 else vW d (wB d l)) else wN d l
def xDd (d:Dk) (l:List Ch):Dk:=if wN d l=0 then(if (wB d l).length=0 then yG d else xB2 d (wB d l)) else⟨[],[]⟩
def xN7 (c:Int):Bool:=!((decide (c<97)||decide (122<c))&&(decide (c<48)||decide (57<c)))
def xC1 (s:ByteArray):Nat->Bool
 |0=>true
 |k+1=>xC1 s k&&xN7 (yO s k)
def wR (s:ByteArray):Bool:=decide (1<=s.size)&&decide (s.size<=8)&&xC1 s s.size
theorem xN8 (s:ByteArray) (k:Nat) (h:xC1 s k=false):∀n,k<=n->xC1 s n=false:=by
 intro n hn
 induction n with
 |zero=>rw[show k=0 by omega] at h;exact h
 |succ n ih=>
  by_cases e:k=n+1
  ·rw[<-e];exact h
  ·rw[xC1,ih ω,Bool.false_and]
def zV (xJ3:ByteArray):ByteArray:=bsA (xJy xJ3 ⟨#[]⟩ ⟨#[105,110,100,101,120]⟩ 32)
theorem xBv (p:ByteArray):(zV p).size=32:=by rw[zV,yS,xGe]
end Mailsack
namespace Go.Proofs.SH
open Go.RowKit Mailsack MM BB
theorem xEk (p:ByteArray) (w:World) (hp:p.size<=1000000) (hT:wL w):
  Calls Tryz.prog 37 #[.string p] w λe w'=>e=.returned (.tuple #[.string (zV p),.int .i64 0])/\Below w.heap.size w w':=by
 have HD:Hid (Calls Tryz.prog 89 #[.string p,.string ⟨#[]⟩,.string ⟨#[105,110,100,101,120]⟩,.int .i64 32] w λe w'=>e=.returned (.tuple #[.string (zV p),.int .i64 0])/\Below w.heap.size w w'):=ι (xJx p ⟨#[]⟩ ⟨#[105,110,100,101,120]⟩ 32 w ω δ δ δ hT);generalize zV p=r at HD⊢
 clear hT;go_enter Tryz.func37,Tryz.ntmps37;go_wp2_with fail
 refine HD.o.mono ?_;rintro e w1 ⟨rfl,hb1⟩;have B1:=ι hb1;go_wp2;go_ret2;exact⟨rfl,B1.o⟩
theorem xJ0 (s:ByteArray) (w:World) (hs:s.size<=1099511627776):
  Calls Tryz.prog 81 #[.string s] w λe w'=>e=.returned (.bool (wR s))/\w'=w:=by
 by_cases h1:s.size<1
 ·have HR:Hid (wR s=false):=ι (by unfold wR;rw[show decide (1<=s.size)=false from decide_eq_false ω];rfl);rw[HR.o];have hi:(s.size:Int)<1:=by omega
  clear h1 hs;go_enter Tryz.func81,Tryz.ntmps81;go_wp2;go_ret;exact⟨rfl,rfl⟩
 ·by_cases h8:8<s.size
  ·have HR:Hid (wR s=false):=ι (by unfold wR;rw[show decide (s.size<=8)=false from decide_eq_false ω];simp);rw[HR.o];have hi:¬(s.size:Int)<1:=by omega
   have hj:8<(s.size:Int):=by omega
   clear h1 h8 hs;go_enter Tryz.func81,Tryz.ntmps81;go_wp2;go_ret;exact⟨rfl,rfl⟩
  ·have HR:Hid (wR s=xC1 s s.size):=ι (by unfold wR;rw[show decide (1<=s.size)=true from decide_eq_true ω,show decide (s.size<=8)=true from decide_eq_true ω];rfl);rw[HR.o];have hi:¬(s.size:Int)<1:=by omega
   have hj:¬8<(s.size:Int):=by omega
   have HE:Hid (∀n,n=s.size->xC1 s n=xC1 s s.size):=ι (λn hn=>by rw[hn]);have HLT:=ι (xN8 s);have HSS:Hid (∀k,xC1 s (k+1)=(xC1 s k&&xN7 (yO s k))):=ι (λk=>rfl);have HS0:Hid (xC1 s 0=true):=ι rfl;generalize hres:xC1 s s.size=res at HE⊢;have HRES:=ι hres;clear h1 h8 hs HR hres
   go_enter Tryz.func81,Tryz.ntmps81;go_wp2_with fail
   clear hi
   go_loopw [14] (λiv W=>∃k:Nat,k<=s.size/\iv=.int .i64 k/\Hid (xC1 s k=true)/\W=w) (λiv _=>s.size- (intOf iv).toNat)
   case atStart=>exact⟨0,Nat.zero_le _,rfl,HS0,rfl⟩
   case round=>
    obtain⟨k,hk,rfl,hu,rfl⟩:=hrel
    by_cases hlt:k<s.size
    ·have i1:=λw=>zH (P:=Tryz.prog) Tryz.underlying9 s (k:Int) k rfl hlt w;obtain⟨c0,c1⟩:=yQ s k;have HSk:=ι (HSS.o k);generalize yO s k=c at i1 c0 c1 HSk;have hcase:(97<=c/\c<=122)∨(48<=c/\c<=57)∨c<48∨(57<c/\c<97)∨122<c:=by omega
     rcases hcase with ⟨k1,k2⟩|⟨k1,k2⟩|k1|⟨k1,k2⟩|k1
     ·have k3:¬c<97:=by omega
      have k4:¬122<c:=by omega
      have HN:Hid (xC1 s (k+1)=true):=ι (by rw[HSk.o,hu.o];unfold xN7;simp;omega);go_wp2;exact⟨⟨k+1,ω,by go_num,HN,trivial⟩,by simp[intOf];omega⟩
     ·have k3:c<97:=by omega
      have k4:¬c<48:=by omega
      have k5:¬57<c:=by omega
      have HN:Hid (xC1 s (k+1)=true):=ι (by rw[HSk.o,hu.o];unfold xN7;simp;omega);go_wp2;exact⟨⟨k+1,ω,by go_num,HN,trivial⟩,by simp[intOf];omega⟩
     ·have k3:c<97:=by omega
      have HN:Hid (res=false):=ι (by rw[<-HRES.o];exact HLT.o (k+1) (by rw[HSk.o];unfold xN7;simp;omega) s.size ω);go_wp2;go_ret;rw[HN.o];exact⟨rfl,rfl⟩
     ·have k3:c<97:=by omega
      have k4:¬c<48:=by omega
      have HN:Hid (res=false):=ι (by rw[<-HRES.o];exact HLT.o (k+1) (by rw[HSk.o];unfold xN7;simp;omega) s.size ω);go_wp2;go_ret;rw[HN.o];exact⟨rfl,rfl⟩
     ·have k3:¬c<97:=by omega
      have k4:¬c<48:=by omega
      have k5:57<c:=by omega
      have HN:Hid (res=false):=ι (by rw[<-HRES.o];exact HLT.o (k+1) (by rw[HSk.o];unfold xN7;simp;omega) s.size ω);go_wp2;go_ret;rw[HN.o];exact⟨rfl,rfl⟩
    ·have hke:k=s.size:=by omega
     have HN:=ι ((HE.o k hke).symm.trans hu.o);have hneg:¬((k:Int)<(s.size:Int)):=by omega
     go_wp2;go_ret;rw[HN.o];exact⟨rfl,rfl⟩
end Go.Proofs.SH
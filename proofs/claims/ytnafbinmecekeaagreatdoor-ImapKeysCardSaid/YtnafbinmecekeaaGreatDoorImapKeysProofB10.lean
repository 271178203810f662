/- Contracts of functions. Conditions: as stated. -/
import Derived.Test.YtnafbinmecekeaaGreatDoorImapKeysProofB09
open Go.Proofs.Tryz
set_option maxHeartbeats 8000000
set_option maxRecDepth 100000
namespace Go.Proofs.RK
open Go.RowKit MM
section
variable {α:Type} {e:TypeId} {n:Nat} {f:α->List Value}
theorem xQ5 (hk:∀x,(f x).length=n) (t:α):∀(L:List α) (k:Nat),k<L.length->(L.flatMap f).take (k*n)++f t++(L.flatMap f).drop (k*n+(f t).length)=(L.set k t).flatMap f
 |[],_,h=>by simp at h
 |x::L,0,_=>by
  rw[List.flatMap_cons,Nat.zero_mul,List.take_zero,List.nil_append,Nat.zero_add,hk,List.set_cons_zero,List.flatMap_cons,<-hk x,List.drop_left]
 |x::L,k+1,h=>by
  have ih:=xQ5 hk t L k (by simpa using h);rw[hk t] at ih
  rw[List.flatMap_cons,List.set_cons_succ,List.flatMap_cons,<-ih,hk t,show(k+1)*n=n+k*n by rw[Nat.succ_mul];omega,List.take_append,List.drop_append,hk x,show n+k*n-n=k*n by omega,show n+k*n+n-n=k*n+n by omega,
   List.take_of_length_le (by rw[hk];omega),List.drop_eq_nil_of_le (by rw[hk];omega)]
  simp
def kM (e:TypeId) (f:α->List Value) (W:World) (g:Nat) (L:List α):Prop:=W.heap[g]?=some (.cells (L.flatMap f).toArray e (0,0))
variable {W W':World} {g:Nat} {L:List α}
theorem kM.blk (h:kM e f W g L):W.heap[g]?=some (.cells (L.flatMap f).toArray e (0,0)):=h
theorem kM.put (hk:∀x,(f x).length=n) (h:kM e f W g L) {k:Nat} (hl:k<L.length) (t:α):kM e f (SV.xU g (k*n) (f t) W) g (L.set k t):=by
 have:=SV.kQ (f t) (k*n) W _ h.blk (by
  rw[hk,List.size_toArray,xJz hk];have:=Nat.mul_le_mul_right n hl;rw[Nat.succ_mul] at this;exact this)
 unfold kM;rw[this,<-xQ5 hk t L k hl]
theorem kM.cell (hk:∀x,(f x).length=n) (h:kM e f W g L) {k i:Nat} {x:α} {u:Value} (hx:L[k]?=some x) (hu:(f x)[i]?=some u):W.cell? ⟨g,k*n+i,none⟩=some u:=by
 rw[xA h.blk,List.getElem?_toArray];exact flat_get hk L k i x u hx hu
theorem kM.free (h:kM e f W g L) (i:Nat):W.frozen? ⟨g,i,none⟩=false:=xB h.blk i
theorem kM.below (h:kM e f W g L) (hb:ψ W W'):kM e f W' g L:=xD h.blk hb (xH h.blk)
theorem kM.rd (hk:∀x,(f x).length=n) (h:kM e f W g L) {B:Nat} (hB:g<B) {c:Nat} (hc:L.length<=c):RdR n f W B (.slice (some ⟨g,0,none⟩) L.length c) L:=
 ⟨_,c,rfl,hc,λ_=>⟨g,0,rfl,hB,λj x hx i u hu=>by rw[Nat.zero_add];exact h.cell hk hx hu⟩⟩
theorem xW2 (hk:∀x,(f x).length=n) (h0:0<n) (x0:α) (m:Nat):madeCells (f x0).toArray (m*n)=((List.replicate m x0).flatMap f).toArray:=by
 apply Array.ext_getElem?;intro i
 by_cases h:i<m*n
 ·have hm:i % n<n:=Nat.mod_lt _ h0;have hd:i / n<m:=Nat.div_lt_of_lt_mul (by rw[Nat.mul_comm];exact h);obtain⟨u,hu⟩:∃u,(f x0)[i % n]?=some u:=⟨_,List.getElem?_eq_getElem (by rw[hk];exact hm)⟩;have r:=flat_get hk (List.replicate m x0) (i / n) (i % n) x0 u (by simp[hd]) hu
  rw[show i / n*n+i % n=i by rw[Nat.mul_comm];exact Nat.div_add_mod i n] at r;have r2:((List.replicate m x0).flatMap f).toArray[i]?=some u:=by rw[List.getElem?_toArray];exact r
  rw[r2];have hu2:=hu;rw[List.getElem?_eq_getElem (by rw[hk];exact hm)] at hu2;injection hu2 with hu2;simp[madeCells,h,hk,hu2,hm]
 ·rw[Array.getElem?_eq_none (by simp[madeCells];omega),Array.getElem?_eq_none (by rw[List.size_toArray,xJz hk];simp;omega)]
end
end Go.Proofs.RK
namespace Go.Proofs.ST
open Go.RowKit Mailsack MM BB SH SV RK DS
def xQz (d:Dk) (v:Value) (w:World):Prop:=wS d=true->RdS w w.heap.size v (yH d).secs
theorem xAy (va vb:Value) (d:Dk) (w:World) (h:RdD w w.heap.size va vb d):
  Calls prog 73 #[.agg #[va,vb]] w λe w'=>∃v,e=.returned (.tuple #[v,.bool (wS d)])/\xQz d v w'/\ψ w w':=by
 obtain⟨A1,c1,A2,c2,rfl,rfl⟩:=xX h;have HA:=ι (φ w (xW (.slice A1 d.secs.length c1) (.slice A2 d.cache.length c2)));have hD0:=xM w (xW (.slice A1 d.secs.length c1) (.slice A2 d.cache.length c2));have HD0:=ι hD0;obtain⟨d0,d1⟩:=zG hD0;clear hD0
 have HRD:=ι ((h.below HA.o ν).more HA.o.size);have HRT:=ι (kD _ _ d _ HRD.o);have HCP:Hid (wS d=(decide (d.secs.length=381)&&zD d)):=ι rfl;obtain⟨cv,hcv⟩:∃cv,wS d=cv:=⟨_,rfl⟩;rw[hcv] at HCP⊢;have HQ:=ι hcv;clear hcv h
 by_cases hl:d.secs.length=381
 ·have hli:(d.secs.length:Int)=381:=ω;have hlb:((d.secs.length:Int)!=381)=false:=by simp[hli]
  rw[decide_eq_true hl,Bool.true_and] at HCP;clear hl;cases hr:zD d with
  |false=>
   rw[hr] at HRT HCP;have HCV:=HCP;clear hr HCP;rw[HCV.o];go_enter func73,ntmps73;go_wp2_with fail
   refine HRT.o.mono ?_;rintro e w1 ⟨rfl,hb⟩;have HB:=ι (HA.o.trans (hb.mono HA.o.size));clear hb d0 d1;go_wp2;go_ret2;exact⟨_,rfl,(λe=>by rw[HQ.o,HCV.o] at e;cases e),HB.o⟩
  |true=>
   rw[hr] at HRT HCP;rw[HCP.o];have HR:=ι hr;clear hr HCP;go_enter func73,ntmps73;go_wp2_with fail
   refine HRT.o.mono ?_;rintro e w1 ⟨rfl,hb⟩;have HB:=ι (And.intro (HA.o.trans (hb.mono HA.o.size)) ((HRD.o.below hb ν).more hb.size));have h1:=xD HD0.o hb (xH HD0.o);clear hb d0 d1;obtain⟨d0,d1⟩:=zG h1;clear h1 HD0;have HF:=ι (xG8 _ _ d w1 HB.o.2);go_wp2_with fail
   refine HF.o.mono ?_;rintro e w2 ⟨ua,ub,rfl,hr2,_,hb2⟩;obtain⟨A3,c3,A4,c4,rfl,rfl⟩:=xX hr2;have HB2:=ι (And.intro (HB.o.1.trans (hb2.mono HB.o.1.size)) hr2.s)
   have hfld:=λ(W:World)=>(show(Instr.field 25 (.agg #[.slice A3 (yH d).secs.length c3,.slice A4 (yH d).cache.length c4]) 0).run prog W=.ok (.slice A3 (yH d).secs.length c3) W from by rfl);clear hr2 hb2 HF HB d0 d1 HRT HRD;go_wp2;go_ret2;exact⟨_,rfl,λ_=>HB2.o.2,HB2.o.1⟩
 ·have hli:¬((d.secs.length:Int)=381):=ω;have hlb:((d.secs.length:Int)!=381)=true:=by simp[hli]
  rw[decide_eq_false hl,Bool.false_and] at HCP;rw[HCP.o];clear hl;go_enter func73,ntmps73;go_wp2;go_ret2;exact⟨_,rfl,(λe=>by rw[HQ.o,HCP.o] at e;cases e),HA.o⟩
theorem xFq (v:Value) (S:List Bs) (w:World) (h:RdS w w.heap.size v S) (hl:S.length=381) (h64:∀s∈S,s.length=64):
  Calls prog 74 #[v] w λe w'=>∃g,e=.returned (.slice (some ⟨g,0,none⟩) 32 32)/\w.heap.size<=g/\w'.heap[g]?=some (.cells ((yS S).flatMap qC).toArray 165 (0,0))/\ψ w w':=by
 obtain⟨A,c,rfl,hc,hcell⟩:=h;obtain⟨b,off,rfl,hb,hcs⟩:=hcell ω;obtain⟨z,hi,hz,hsz,hby⟩:=jA yDt;have hmk:=run_make (P:=prog) (w:=w) 159 165 z _ underlying159 hi hz .i64 .i64 (32:Int) (32:Int) ω ω (by rw[hby];omega) ω;simp only[hsz] at hmk
 have hmf:madeCells (Value.cells (.agg #[.bool false,.int .i64 0,.int .i64 0,.int .i64 0,.string ⟨#[]⟩])) ((32:Int).toNat*5)=((List.replicate 32 noSlot).flatMap qC).toArray:=xW2 zM ω noSlot 32;rw[hmf] at hmk;clear hmf hi hz hsz hby
 have H0:Hid (kM 165 qC (w.alloc (.cells ((List.replicate 32 noSlot).flatMap qC).toArray 165)) w.heap.size ((yS S).take 0++List.replicate (32-0) noSlot)/\ψ w (w.alloc (.cells ((List.replicate 32 noSlot).flatMap qC).toArray 165))):=ι ⟨xM _ _,(Below.refl _ _).alloc ν _⟩
 have HSL:=ι (kP hl);have HGT:=ι (λk=>rA S k);have HC:=ι hcs;have H64:=ι h64;generalize ((List.replicate 32 noSlot).flatMap qC).toArray=cs0 at hmk H0;have HLL:=ι hl;clear hcs h64 hl hc;go_enter func74,ntmps74;go_wp2_with fail
 clear hmk;generalize w.alloc (.cells cs0 165)=w1 at H0⊢
 go_loopw [8] (λiv wr=>∃k:Nat,k<=32/\iv=.int .i64 k/\Hid (kM 165 qC wr w.heap.size ((yS S).take k++List.replicate (32-k) noSlot)/\ψ w wr)) (λiv _=>32- (intOf iv).toNat)
 case atStart=>exact⟨0,ω,rfl,H0⟩
 case round=>
  obtain⟨k,hk,rfl,HI⟩:=hrel;clear H0
  by_cases hlt:k<32
  ·obtain⟨x,hx⟩:∃x,S[61+k]?=some x:=⟨_,List.getElem?_eq_getElem (by have:=HLL.o;omega)⟩;have q:=(HI.o.2.cell (p:=⟨b,off+(61+k),none⟩) hb).trans (HC.o _ x hx);have hx64:=H64.o x (List.mem_of_getElem? hx)
   have HD:=ι (λW=>xSx ⟨x.toArray⟩ W (by show x.toArray.size=64;simpa using hx64));have HXS:Hid ((yS S)[k]?=some (xQi x)):=ι (by rw[HGT.o,if_pos hlt,hx];rfl);rw[show(⟨x.toArray⟩:ByteArray).data.toList=x from rfl] at HD;have tn:(61+(k:Int)).toNat=61+k:=ω
   have t0:(0:Int)<=61+(k:Int):=ω;have t1:61+(k:Int)<(S.length:Int):=by have:=HLL.o;omega
   clear hx hx64;go_wp2_with fail
   refine(HD.o _).mono ?_;rintro e w2 ⟨rfl,hb2⟩;have HI2:=ι (And.intro (HI.o.1.below hb2) (HI.o.2.trans (hb2.mono HI.o.2.size)));have hlen:((yS S).take k++List.replicate (32-k) noSlot).length=32:=by simp[HSL.o];omega
   have HNX:Hid (((yS S).take k++List.replicate (32-k) noSlot).set k (xQi x)=(yS S).take (k+1)++List.replicate (32- (k+1)) noSlot):=ι (by
    rw[List.set_append_right _ _ (by rw[List.length_take];omega),List.length_take,HSL.o,show k-min k 32=0 by omega,show 32-k=(32- (k+1))+1 by omega,List.replicate_succ,List.set_cons_zero,List.take_add_one,HXS.o];simp)
   have HPU:=ι (HI2.o.1.put zM (k:=k) (by rw[hlen];exact hlt) (xQi x));have HPB:=ι (yZ (b:=w.heap.size) (B:=w.heap.size) ν (qC (xQi x)) (k*5) w2 HI2.o.2);rw[HNX.o] at HPU;have f:=λi=>HI2.o.1.free i;have f0:=f (k*5);have f1:=f (k*5+1);have f2:=f (k*5+2);have f3:=f (k*5+3)
   have f4:=f (k*5+4);obtain⟨y,hy⟩:∃y,((yS S).take k++List.replicate (32-k) noSlot)[k]?=some y:=⟨_,List.getElem?_eq_getElem (by rw[hlen];exact hlt)⟩;have o0:=HI2.o.1.cell zM (i:=0) hy rfl;have o1:=HI2.o.1.cell zM (i:=1) hy rfl;have o2:=HI2.o.1.cell zM (i:=2) hy rfl
   have o3:=HI2.o.1.cell zM (i:=3) hy rfl;have o4:=HI2.o.1.cell zM (i:=4) hy rfl;rw[Nat.add_zero] at o0;simp only[xU] at HPU HPB;clear f hlen hy HNX HXS HI HI2 hb2 HD q tn t0 t1;generalize xQi x=t at HPU HPB⊢;go_wp2;exact⟨⟨k+1,ω,by go_num,ι ⟨HPU.o,HPB.o⟩⟩,by simp[intOf];omega⟩
  ·obtain rfl:k=32:=ω;have HE:Hid ((yS S).take 32++List.replicate (32-32) noSlot=yS S):=ι (by rw[show 32-32=0 by omega,List.take_of_length_le (by rw[HSL.o];omega)];simp);rw[HE.o] at HI;go_wp2;go_ret;exact⟨_,rfl,Nat.le_refl _,HI.o.1,HI.o.2⟩
end Go.Proofs.ST
namespace Mailsack
theorem xWg {α:Type} {p:α->Bool} {l:List α} {k:Nat} {x:α} (hx:l[k]?=some x) (hp:p x=true) (h:∀y∈l.take k,p y=false):xQ2 p l=k:=
 yDv hx hp λj y hj hy=>h y (by
  have:=(List.getElem?_eq_some_iff.1 hy).1;exact List.mem_of_getElem? (i:=j) (by rw[List.getElem?_take,if_pos hj];exact hy))
end Mailsack
namespace Go.Proofs.ST
open Go.RowKit Mailsack MM BB SH SV RK DS
theorem xM5 (fid:FuncId) (fr:Array Value) (p:Slot->Bool) (v:Value) (l:List Slot) (w:World) (h:RdR 5 qC w w.heap.size v l) (hl:l.length<=100000) (hE:∀args W,(callFunc fid args).run prog W=.ok (.enter fid args) W)
  (hp:∀(t:Slot) (W:World),ψ w W->Calls prog fid (#[xGz t]++fr) W λe w'=>e=.returned (.bool (p t))/\ψ W w'):
  Calls prog 150 #[v,.func (.func fid) #[] fr] w λe w'=>e=.returned (.int .i64 (xQ2 p l))/\ψ w w':=by
 obtain⟨A,c,rfl,hc,hcell⟩:=h;have HL:=ι hcell;have HP:=ι hp;obtain⟨r,hr⟩:∃r,xQ2 p l=r:=⟨_,rfl⟩;rw[hr];have HR:=ι hr;clear hcell hc hp hr;go_enter func150,ntmps150;go_wp2_with fail
 go_loopw [8] (λiv wr=>∃k:Nat,k<=l.length/\iv=.int .i64 k/\Hid (ψ w wr)/\Hid (∀y∈l.take k,p y=false)) (λiv _=>l.length- (intOf iv).toNat)
 case atStart=>exact⟨0,Nat.zero_le _,rfl,ι (Below.refl _ _),ι σ⟩
 case round=>
  obtain⟨k,hk,rfl,HI,HN⟩:=hrel
  by_cases hlt:k<l.length
  ·obtain⟨x,hx⟩:∃x,l[k]?=some x:=⟨_,List.getElem?_eq_getElem hlt⟩;obtain⟨b,off,rfl,hb,hcell⟩:=HL.o ω;have q:=λi u hu=>(HI.o.cell (p:=⟨b,off+k*5+i,none⟩) hb).trans (hcell k x hx i u hu);have q0:wr.cell? ⟨b,off+k*5,none⟩=some (.bool x.used):=q 0 _ rfl
   have q1:wr.cell? ⟨b,off+k*5+1,none⟩=some (.int .i64 x.cls):=q 1 _ rfl;have q2:wr.cell? ⟨b,off+k*5+2,none⟩=some (.int .i64 x.blk):=q 2 _ rfl;have q3:wr.cell? ⟨b,off+k*5+3,none⟩=some (.int .i64 x.size):=q 3 _ rfl;have q4:wr.cell? ⟨b,off+k*5+4,none⟩=some (xR x.name):=q 4 _ rfl
   have HC:=ι (HP.o x wr HI.o);have HX:=ι hx;clear hcell q hx;cases hpx:p x with
   |true=>
    rw[hpx] at HC;have HRK:Hid (r=(k:Int)):=ι (by rw[<-HR.o];exact xWg HX.o hpx HN.o);clear hpx HR;go_wp2_with (go_at_fn fid;refine HC.o.mono ?_;rintro e w' ⟨rfl,hb'⟩)
    go_ret;exact⟨by rw[HRK.o];rfl,HI.o.trans (hb'.mono HI.o.size)⟩
   |false=>
    rw[hpx] at HC
    have HN2:Hid (∀y∈l.take (k+1),p y=false):=ι (by
     intro y hy;rw[List.take_add_one,HX.o] at hy;rcases List.mem_append.1 hy with hy|hy
     ·exact HN.o y hy
     ·simp at hy;subst hy;exact hpx)
    clear hpx HN;go_wp2_with (go_at_fn fid;refine HC.o.mono ?_;rintro e w' ⟨rfl,hb'⟩;have HB':=ι (HI.o.trans (hb'.mono HI.o.size));clear hb')
    exact⟨⟨k+1,ω,by go_num,HB',HN2⟩,by simp[intOf];omega⟩
  ·obtain rfl:k=l.length:=ω;rw[List.take_length] at HN;have HRK:Hid (r=-1):=ι (by rw[<-HR.o];exact xWh HN.o);clear HR;go_wp2;go_ret;exact⟨by rw[HRK.o];rfl,HI.o⟩
theorem xX2 (t:Slot) (n:Bs) (nb:Nat) (w:World) (h:w.heap[nb]?=some (.cells #[xR n] 9 (0,0))):
  Calls prog 151 #[xGz t,.pointer (some ⟨nb,0,none⟩)] w λe w'=>e=.returned (.bool (xEh n t))/\ψ w w':=by
 obtain⟨u,c,b,s,m⟩:=t;have HB:=ι (φ w (wU ⟨u,c,b,s,m⟩));have hb:=xM w (wU ⟨u,c,b,s,m⟩);have c0:=xA hb 0;have c4:=xA hb 4;have n0:=xA (xO h (wU ⟨u,c,b,s,m⟩)) 0;simp only[gA,gB,gC] at c0 c4 n0;clear hb h;cases u with
 |false=>
  go_enter func151,ntmps151;go_wp2;go_ret;exact⟨rfl,HB.o⟩
 |true=>
  have HN:Hid (xEh n ⟨true,c,b,s,m⟩=(m==n)):=ι rfl;cases hq:(m==n) with
  |true=>
   rw[hq] at HN;rw[HN.o];obtain rfl:m=n:=by simpa using hq
   clear hq;go_enter func151,ntmps151;go_wp2;go_ret;exact⟨rfl,HB.o⟩
  |false=>
   rw[hq] at HN;rw[HN.o];have hq2:¬m=n:=by simpa using hq
   go_enter func151,ntmps151;go_wp2;go_ret;exact⟨rfl,HB.o⟩
theorem xQ9 (v:Value) (l:List Slot) (n:Bs) (w:World) (h:RdR 5 qC w w.heap.size v l) (hl:l.length<=100000):
  Calls prog 75 #[v,xR n] w λe w'=>e=.returned (.int .i64 (rM l n))/\ψ w w':=by
 have HA:=ι (φ w (.cells #[xR n] 9));have HN:=ι (xM w (.cells #[xR n] 9))
 have HI:=ι (xM5 151 #[.pointer (some ⟨w.heap.size,0,none⟩)] (xEh n) v l (w.alloc (.cells #[xR n] 9)) ((h.below HA.o ν).more HA.o.size) hl (λargs W=>enters_of func151 κ rfl args W) (λt W hW=>xX2 t n w.heap.size W (xD HN.o hW σ)));have HF:Hid (rM l n=xQ2 (xEh n) l):=ι rfl
 obtain⟨r,hr⟩:∃r,rM l n=r:=⟨_,rfl⟩;rw[hr] at HF⊢;rw[<-HF.o] at HI;clear hr h HF;go_enter func75,ntmps75;go_wp2_with fail
 refine HI.o.mono ?_;rintro e w1 ⟨rfl,hb⟩;have HB:=ι (HA.o.trans (hb.mono HA.o.size));clear hb HI HA HN;go_wp2;go_ret;exact⟨rfl,HB.o⟩
end Go.Proofs.ST
namespace Mailsack
theorem xDu:∀(xs:List Bs),Go.Lib.join xs []=xs.flatten
 |[]=>rfl
 |[x]=>by simp[Go.Lib.join,List.intercalate,List.intersperse]
 |x::y::l=>by
  have ih:=xDu (y::l);simp only[Go.Lib.join,List.intercalate,List.intersperse,List.flatten_cons] at ih⊢;rw[List.nil_append,ih]
theorem xX1 {l:List Bs} (h:∀x∈l,x.length=64):l.flatten.length=64*l.length:=by
 induction l with
 |nil=>rfl
 |cons x l ih=>
  rw[List.flatten_cons,List.length_append,h x (List.mem_cons_self ..),ih λy hy=>h y (List.mem_cons_of_mem _ hy),List.length_cons];omega
end Mailsack
namespace Go.Proofs.ST
open Go.RowKit Mailsack MM BB SH SV RK DS
theorem xM1 (b off c:Nat) (S:List Bs) (first n:Nat) (w:World) (hcs:∀(j:Nat) x,S[j]?=some x->w.cell? ⟨b,off+j,none⟩=some (xR x)) (hb:b<w.heap.size) (hn:first+n<=S.length) (h0:n<=100) (hc:n<=c) (h64:∀x∈S,x.length=64):
  Calls prog 77 #[.slice (some ⟨b,off+first,none⟩) n c,.string ⟨#[]⟩] w λe w'=>e=.returned (xR ((S.drop first).take n).flatten)/\ψ w w':=by
 have hl:((S.drop first).take n).length=n:=by simp;omega
 have e1:((((S.drop first).take n).map λy=>(⟨y.toArray⟩:ByteArray)).map (·.data.toList))=(S.drop first).take n:=by
  rw[List.map_map]
  conv=>rhs;rw[<-List.map_id ((S.drop first).take n)]
  rfl
 have hJ:=Tryz.strings_Join b (off+first) c (((S.drop first).take n).map λy=>(⟨y.toArray⟩:ByteArray)) ⟨#[]⟩ w (λj x hx=>by
  rw[List.getElem?_map] at hx;obtain⟨y,hy,rfl⟩:=Option.map_eq_some_iff.1 hx;have hj:=(List.getElem?_eq_some_iff.1 hy).1;rw[hl] at hj;rw[List.getElem?_take,if_pos hj,List.getElem?_drop] at hy;have:=hcs _ _ hy;rw[<-Nat.add_assoc] at this
  exact this) hb (by rw[List.length_map,hl];omega) (by rw[List.length_map,hl];exact hc) (by
   rw[e1];show(Go.Lib.join _ []).length<=_;rw[xDu,xX1 λx hx=>h64 x (List.mem_of_mem_drop (List.mem_of_mem_take hx)),hl];omega)
 rw[e1,List.length_map,hl] at hJ;rw[show(⟨#[]⟩:ByteArray).data.toList=[] from rfl,xDu] at hJ;exact hJ
theorem xJy {d:Dk} (h:wS d=true):(yH d).secs.length=381/\∀s∈(yH d).secs,s.length=64:=by
 unfold wS at h;rw[Bool.and_eq_true,decide_eq_true_eq] at h;have h2:=xCk h.2;exact⟨by rw[xSt h.2];exact h.1,(xFy.1 h2).2.2.1⟩
theorem xZ0 {S:List Bs} {i:Nat} {t:Slot} (h:(yS S)[i]?=some t):t=noSlot∨(t.used=true/\xQx t):=by
 rw[rA] at h;split at h
 ·obtain⟨s,_,rfl⟩:=Option.map_eq_some_iff.1 h;exact xK8 s
 ·cases h
structure GtM (w:World) (gs b off c:Nat) (S:List Bs) (W:World):Prop where
 sl:W.heap[gs]?=some (.cells ((yS S).flatMap qC).toArray 165 (0,0))
 cs:∀(j:Nat) x,S[j]?=some x->W.cell? ⟨b,off+j,none⟩=some (xR x)
 hb:b<W.heap.size
 bel:ψ w W
theorem GtM.below {w W W':World} {gs b off c:Nat} {S:List Bs} (h:GtM w gs b off c S W) (hb:ψ W W'):GtM w gs b off c S W':=
 ⟨xD h.sl hb (xH h.sl),λj x hx=>(hb.cell (p:=⟨b,off+j,none⟩) h.hb).trans (h.cs j x hx),Nat.lt_of_lt_of_le h.hb hb.size,h.bel.trans (hb.mono h.bel.size)⟩
theorem GtM.drew {w W:World} {gs b off c:Nat} {S:List Bs} (h:GtM w gs b off c S W):GtM w gs b off c S W.drew:=h.below (Below.refl _ _).drew
theorem xWw (va vb:Value) (d:Dk) (n:Bs) (w:World) (h:RdD w w.heap.size va vb d):
  Calls prog 30 #[.agg #[va,vb],xR n] w λe w'=>e=.returned (.tuple #[xR (yAa d n),.int .i64 (xWx d n)])/\ψ w w':=by
 obtain⟨A1,c1,A2,c2,rfl,rfl⟩:=xX h;have HA:=ι (φ w (xW (.slice A1 d.secs.length c1) (.slice A2 d.cache.length c2)));have hD0:=xM w (xW (.slice A1 d.secs.length c1) (.slice A2 d.cache.length c2));obtain⟨d0,d1⟩:=zG hD0;clear hD0
 have HCT:=ι (xAy _ _ d _ ((h.below HA.o ν).more HA.o.size));have HE:Hid (xWx d n=if wS d=true then(if rM (yS (yH d).secs) n<0 then 6 else 0) else 1):=ι rfl;have HG:Hid (yAa d n=if xWx d n=0 then yCv (yH d).secs (xHv (yS (yH d).secs) (rM (yS (yH d).secs) n)) else[]):=ι rfl
 have HFL:Hid (wS d=true->(yH d).secs.length=381/\∀s∈(yH d).secs,s.length=64):=ι xJy;have HCP:Hid (∀v W,xQz d v W->wS d=true->RdS W W.heap.size v (yH d).secs):=ι (λv W h=>h);obtain⟨ge,hge⟩:∃ge,xWx d n=ge:=⟨_,rfl⟩;obtain⟨gp,hgp⟩:∃gp,yAa d n=gp:=⟨_,rfl⟩;rw[hge] at HE HG
 rw[hgp] at HG;rw[hge,hgp];clear hge hgp h;cases hc:wS d with
 |false=>
  rw[hc] at HCT HE;rw[if_neg σ] at HE;rw[HE.o,if_neg ω] at HG;rw[HG.o,HE.o];clear hc HE HG HFL HCP;go_enter func30,ntmps30;go_wp2_with fail
  refine HCT.o.mono ?_;rintro e w1 ⟨v,rfl,_,hb⟩;have HB:=ι (HA.o.trans (hb.mono HA.o.size));clear hb HA HCT d0 d1;go_wp2;go_ret2;exact⟨rfl,HB.o⟩
 |true=>
  have qI:=ι (HFL.o hc);have xTc:=ι (λv W h=>HCP.o v W h hc);rw[hc] at HCT HE;rw[if_pos rfl] at HE;clear hc HFL HCP;generalize (yH d).secs=S at HE HG qI xTc;go_enter func30,ntmps30;go_wp2_with fail
  refine HCT.o.mono ?_;rintro e w1 ⟨v,rfl,hct,hb⟩;have HRS:=ι (xTc.o v w1 hct);have HB1:=ι (HA.o.trans (hb.mono HA.o.size));clear hct hb HCT xTc d0 d1 HA;have HSO:=ι (xFq v S w1 HRS.o qI.o.1 qI.o.2);obtain⟨A,c,rfl,hlc,hcell⟩:=HRS.o
  obtain⟨b,off,rfl,hb,hcs⟩:=hcell (by rw[qI.o.1];omega);have HCS:=ι (And.intro hb (And.intro hcs hlc));clear hb hcs hlc hcell;go_wp2_with fail
  refine HSO.o.mono ?_;rintro e w2 ⟨gs,rfl,hgs,hsl,hb2⟩;have HM:=ι (show GtM w gs b off c S w2 from⟨hsl,λj x hx=>(hb2.cell (p:=⟨b,off+j,none⟩) HCS.o.1).trans (HCS.o.2.1 j x hx),Nat.lt_of_lt_of_le HCS.o.1 hb2.size,HB1.o.trans (hb2.mono HB1.o.size)⟩);clear hsl hb2 hgs HSO HRS
  have HFD:=ι (xQ9 (.slice (some ⟨gs,0,none⟩) 32 32) (yS S) n w2 (by
   have:=kM.rd (e:=165) (f:=qC) (n:=5) zM HM.o.sl (B:=w2.heap.size) (xH HM.o.sl) (c:=32) (by rw[kP qI.o.1];omega);rw[kP qI.o.1] at this;exact this) (by rw[kP qI.o.1];omega))
  go_wp2_with fail
  refine HFD.o.mono ?_;rintro e w3 ⟨rfl,hb3⟩;have HM3:=ι (HM.o.below hb3);clear hb3 HM HFD HB1;rcases xDx (yS S) n with ⟨f1,f2⟩|⟨i,t,f1,f2,f3,f4,f5⟩
  ·rw[f1] at HE HG;rw[f1];rw[if_pos ω] at HE;rw[HE.o,if_neg ω] at HG;clear f1 f2;go_wp2;go_ret2;exact⟨by rw[HE.o,HG.o];rfl,HM3.o.bel⟩
  ·rw[f1] at HE HG;rw[f1];rw[if_neg ω] at HE;rw[HE.o,if_pos rfl,xRi f2] at HG
   have hok:xQx t:=by
    rcases xZ0 f2 with e|⟨_,h⟩
    ·rw[e] at f3;cases f3
    ·exact h
   have HI:Hid (i<32):=ι (by rw[kP qI.o.1] at f5;exact f5);have hi32:(i:Int)<32:=by have:=HI.o;omega
   have HC1:Hid (∀{W},GtM w gs b off c S W->W.cell? ⟨gs,i*5+1,none⟩=some (.int .i64 t.cls)):=ι (λh=>kM.cell (e:=165) zM h.sl f2 rfl);have HC2:Hid (∀{W},GtM w gs b off c S W->W.cell? ⟨gs,i*5+2,none⟩=some (.int .i64 t.blk)):=ι (λh=>kM.cell (e:=165) zM h.sl f2 rfl)
   have HC3:Hid (∀{W},GtM w gs b off c S W->W.cell? ⟨gs,i*5+3,none⟩=some (.int .i64 t.size)):=ι (λh=>kM.cell (e:=165) zM h.sl f2 rfl);have HSE:=ι (λW=>xFv t.cls t.blk W (by have:=hok.blk;have:=xIs t.cls;omega));have hfl:=yAf hok.blk
   have hcn:countP t.cls=4∨countP t.cls=16:=by unfold countP;split<;>simp
   have hcp:=xXs hok.cls;have hsz:=hok.size;have HRD:Hid (gp=(((S.drop (kN t.cls t.blk)).take (countP t.cls)).flatten).take t.size):=HG
   have HJL:Hid ((((S.drop (kN t.cls t.blk)).take (countP t.cls)).flatten).length=64*countP t.cls):=ι (by
    rw[xX1 λx hx=>qI.o.2 x (List.mem_of_mem_drop (List.mem_of_mem_take hx)),List.length_take,List.length_drop,qI.o.1];omega)
   have HJ:=ι (λW (h:GtM w gs b off c S W)=>xM1 b off (c-kN t.cls t.blk) S (kN t.cls t.blk) (countP t.cls) W h.cs h.hb (by rw[qI.o.1];exact hfl) ω (by have:=HCS.o.2.2;have:=qI.o.1;omega) qI.o.2);generalize kN t.cls t.blk=fi at HSE hfl HRD HJL HJ
   generalize ((S.drop fi).take (countP t.cls)).flatten=jl at HRD HJL HJ;generalize countP t.cls=cn at HSE hfl hcn hcp HJL HJ;obtain⟨tu,tc,tb,ts,tn⟩:=t;simp only at HC1 HC2 HC3 HSE HRD hcp hsz
   have HBD:Hid (fi+cn<=381/\ts<=64*cn/\cn<=16/\1<=cn/\381<=c):=ι ⟨hfl,ω,ω,ω,by have:=HCS.o.2.2;have:=qI.o.1;omega⟩;clear f1 f2 f3 f4 f5 hok hfl hcn hcp hsz HG;go_upto_region 8 with fail
   refine RG.xQ (λW=>Hid (GtM w gs b off c S W)) κ κ (ι HM3.o.drew) ?_;iterate 10 refine RG.dF (λw9 hw9=>have c1:=HC1.o hw9.o;have c2:=HC2.o hw9.o;have c3:=HC3.o hw9.o;And.intro (c1) (And.intro (c2) c3)) ?_
   apply RG.xJ
   ·intro w9 hw9;repeat go_step
    refine(HSE.o _).mono ?_;rintro e w10 ⟨rfl,rfl⟩;simp only[];repeat go_step
    exact RG.xC hw9
   ·rfl
   iterate 5 refine RG.dS ?_
   refine RG.xS (λw4 hw4=>?_);clear HM3 HSE;go_upto_region 9 with fail
   have h0:(0:Int)<=(fi:Int):=ω;have h1:(fi:Int)<=(fi:Int)+(cn:Int):=ω;have h2:(fi:Int)+(cn:Int)<=(c:Int):=by have:=HBD.o;omega
   have h3:(fi:Int)<=381/\(cn:Int)<=16:=by have:=HBD.o;omega
   obtain⟨h3,h4⟩:=h3;have hcf:¬(c=fi):=by have:=HBD.o;omega
   refine RG.xQ (λW=>Hid (GtM w gs b off c S W)) κ κ (ι hw4.o.drew) ?_;iterate 6 refine RG.dS ?_
   obtain⟨jb,hjb⟩:∃jb:ByteArray,(⟨jl.toArray⟩:ByteArray)=jb:=⟨_,rfl⟩;have hjs:jb.size=jl.length:=by rw[<-hjb];simp[ByteArray.size]
   have HRS:Hid (xR gp=.string (jb.extract 0 ts)):=ι (by
    rw[HRD.o,<-hjb];show Value.string _=Value.string _
    congr 1
    apply ByteArray.ext;rw[ByteArray.data_extract];apply Array.ext';simp)
   rw[show xR jl=.string jb from by rw[<-hjb]] at HJ;have t0:(ts:Int)<=(jb.size:Int):=by have:=HBD.o;have:=HJL.o;omega
   clear hjb HRD HJL h1 h2 h3 h4 h0;apply RG.xJ
   ·intro w9 hw9;repeat go_step
    with_reducible refine(HJ.o _ hw9.o).mono ?_
    rintro e w10 ⟨rfl,zF⟩;simp only[];repeat go_step
    refine RG.xC ?_;exact ι (hw9.o.below zF)
   ·rfl
   iterate 8 refine RG.dF (λw9 hw9=>HC3.o hw9.o) ?_
   refine RG.xS (λw5 hw5=>?_);go_wp2;go_ret2;exact⟨by rw[HE.o,HRS.o];rfl,hw5.o.bel⟩
end Go.Proofs.ST
namespace Go.Proofs.ST
open Go.RowKit Go.Lib Mailsack MM BB SH SV RK DS
theorem xGu {α:Type} [Inhabited α] {enc:α->Value} {B:Nat} {w0 w:World} {n blk off:Nat} {d:Array α} {os:Array Obj} (h:Below B w0 w) (hB:B<=blk) (hs:blk<w.heap.size):Below B w0 (Sort.grow (Sort.putRow enc (Sort.ahead w n) blk off d) os):=by
 refine h.trans ⟨rfl,rfl,rfl,σ,λk hk=>?_⟩;rw[Sort.heap_grow_old _ _ (by simp;omega)];unfold Sort.putRow Sort.mapBlock;simp only[Sort.heap_ahead,Array.getElem?_modify];rw[if_neg ω]
theorem xT6 {α:Type} [Inhabited α] {enc:α->Value} {B:Nat} {w0 w:World} {n blk off:Nat} {d:Array α} (h:Below B w0 w) (hB:B<=blk) (hs:blk<w.heap.size):Below B w0 (Sort.putRow enc (Sort.ahead w n) blk off d):=by
 have:=xGu (enc:=enc) (n:=n) (off:=off) (d:=d) (os:=#[]) h hB hs
 rwa [Sort.grow_empty] at this
theorem xWj {w:World} {base:Nat} {v:Value} {x:Bs} {xs:List Bs} (h:xQy w base v (x::xs)):∃g c,v=.slice (some ⟨g,0,none⟩) (x::xs).length c/\(x::xs).length<=c/\base<=g/\g<w.heap.size/\Sort.Holds encStr w g 0 (x::xs).toArray:=by
 rcases h.2 with ⟨_,h2⟩|⟨g,cap,cur,h1,hb,hg,hnc,_,_,htake⟩
 ·simp at h2
 ·refine⟨g,cap,h1,hnc,hb,xH hg,λj hj=>⟨?_,xB hg _⟩⟩
  have:=World.ownsRow.cells h (g:=g) (by rw[h1];rfl) j (xR ((x::xs).toArray[j]!)) (by
   have hj2:j<(x::xs).length:=by simpa using hj
   rw[List.getElem?_map,List.getElem?_eq_getElem hj2];rw[getElem!_pos (x::xs).toArray j (by simpa using hj2)]
   rfl)
  have hadd:(⟨g,0,none⟩:Addr).add j=⟨g,0+j,none⟩:=by unfold Addr.add;split<;>simp_all
  rw[hadd] at this;exact this
theorem xZ6 {w:World} {B g c n:Nat} {xs:List Bs} (h:∀j,j<xs.length->w.cell? ⟨g,0+j,none⟩=some (xR (xs.toArray[j]!))) (hg:g<B) (hn:n=xs.length) (hc:n<=c):RdS w B (.slice (some ⟨g,0,none⟩) n c) xs:=by
 subst hn;refine⟨_,c,rfl,hc,λ_=>⟨g,0,rfl,hg,λj x hx=>?_⟩⟩;obtain⟨hj,rfl⟩:=List.getElem?_eq_some_iff.1 hx;rw[h j hj,getElem!_pos xs.toArray j (by simpa using hj)]
 rfl
theorem xOj (zs:List Bs):(Go.Lib.compact zs).length<=zs.length:=by
 unfold Go.Lib.compact Go.Lib.compactUpTo;rw[List.length_map];have:=List.length_filter_le (Go.Lib.keeps zs.toArray) (List.range zs.length);simpa using this
theorem xV0 {w:World} {base:Nat} {v:Value} {xs:List Bs} (h:xQy w base v xs) (hl:xs.length<=1000000):
  Calls prog 181 #[v] w λe w'=>e=.returned (.tuple #[])/\Below base w w'/\((xs=[]/\v=.slice none 0 0)∨∃g c,v=.slice (some ⟨g,0,none⟩) (tH xs).length c/\(tH xs).length<=c/\base<=g/\g<w'.heap.size/\Sort.Holds encStr w' g 0 (tH xs).toArray):=by
 cases xs with
 |nil=>
  have hv:v=.slice none 0 0∨∃A c,v=.slice A 0 c:=by
   obtain⟨A,c,e,_⟩:=h.form;exact .inr ⟨A,c,e⟩
  rcases h.2 with ⟨hv,_⟩|⟨g,cap,cur,h1,hb,hg,hnc,_⟩
  ·subst hv;refine(Tryz.slices_Sort_string_none none 0 w).mono ?_;rintro e w' ⟨rfl,rfl⟩;exact⟨rfl,Below.refl _ _,.inl ⟨rfl,rfl⟩⟩
  ·subst h1;refine(Tryz.slices_Sort_string_none _ cap w).mono ?_;rintro e w' ⟨rfl,rfl⟩;exact⟨rfl,Below.refl _ _,.inr ⟨g,cap,by simp[tH],by simp[tH],hb,xH hg,λj hj=>by simp[tH] at hj⟩⟩
 |cons x xs=>
  obtain⟨g,c,rfl,hc,hb,hg,hH⟩:=xWj h;refine(Tryz.slices_Sort_string g 0 c (x::xs) w hH hg ω).mono ?_;rintro e w' ⟨rfl,n,os,rfl⟩;have hls:(tH (x::xs)).length=(x::xs).length:=by unfold tH;exact List.length_mergeSort _
  have hH2:=Sort.holds_putRow encStr (Sort.ahead w n) g 0 (x::xs).toArray (tH (x::xs)).toArray (Sort.holds_ahead _ _ n _ _ _ hH) (by simpa using hls);refine⟨rfl,xGu (Below.refl _ _) hb hg,.inr ⟨g,c,by rw[hls],by rw[hls];exact hc,hb,by simp;omega,?_⟩⟩
  exact Sort.holds_grow _ _ _ _ _ _ (by simpa using hg) hH2
theorem xMg {w:World} {base g c:Nat} {zs:List Bs} (hH:Sort.Holds encStr w g 0 zs.toArray) (hb:base<=g) (hg:g<w.heap.size) (hl:zs.length<=1000000) (hc:zs.length<=c):
  Calls prog 182 #[.slice (some ⟨g,0,none⟩) zs.length c] w λe w'=>e=.returned (.slice (some ⟨g,0,none⟩) (Go.Lib.compact zs).length c)/\RdS w' w'.heap.size (.slice (some ⟨g,0,none⟩) (Go.Lib.compact zs).length c) (Go.Lib.compact zs)/\Below base w w':=by
 refine(Tryz.slices_Compact_string g 0 c zs w hH ω hc).mono ?_;rintro e w' ⟨rfl,q,rfl⟩;have hle:=xOj zs;have hsz:(Go.Lib.compact zs++List.replicate (zs.length- (Go.Lib.compact zs).length) ([]:Bs)).length=zs.length:=by simp;omega
 have hH2:=Sort.holds_putRow encStr (Sort.ahead w q) g 0 zs.toArray (Go.Lib.compact zs++List.replicate (zs.length- (Go.Lib.compact zs).length) ([]:Bs)).toArray (Sort.holds_ahead _ _ q _ _ _ hH) (by simpa using hsz)
 refine⟨rfl,xZ6 (λj hj=>?_) (by simpa using hg) rfl ω,xT6 (Below.refl _ _) hb hg⟩;have:=(hH2 j (by simp;omega)).1;rw[this]
 congr 2
 rw[getElem!_pos _ j (by simp;omega),getElem!_pos _ j (by simpa using hj)];simp[List.getElem_append_left hj]
end Go.Proofs.ST
namespace Mailsack
structure xC6 where
 uid:Int
 flags:Int
 object:Int
 size:Int
structure qR where
 name:Bs
 validity:Int
 next:Int
 zA:List xC6
structure uQ where
 boxes:List qR
 subs:List Bs
 given:Int
end Mailsack
namespace Go.Proofs.IX
open Go.RowKit Mailsack MM
def kI (w:World) (B:Nat) (v:Value) (L:List xC6):Prop:=
 ∃A c,v=.slice A L.length c/\L.length<=c/\(0<L.length->∃b off,A=some ⟨b,off,none⟩/\b<B/\∀(j:Nat) m,L[j]?=some m->
  w.cell? ⟨b,off+j*4,none⟩=some (.int .i64 m.uid)/\w.cell? ⟨b,off+j*4+1,none⟩=some (.int .i64 m.flags)/\w.cell? ⟨b,off+j*4+2,none⟩=some (.int .i64 m.object)/\w.cell? ⟨b,off+j*4+3,none⟩=some (.int .i64 m.size))
theorem kI.keep {w w':World} {B:Nat} {v:Value} {L:List xC6} (h:kI w B v L) (hk:∀p:Addr,p.block<B->w'.cell? p=w.cell? p):kI w' B v L:=by
 obtain⟨A,c,h1,h2,h3⟩:=h;refine⟨A,c,h1,h2,λhn=>?_⟩;obtain⟨b,off,h4,h5,h6⟩:=h3 hn;refine⟨b,off,h4,h5,λj m hm=>?_⟩;obtain⟨k1,k2,k3,k4⟩:=h6 j m hm;exact⟨(hk _ h5).trans k1,(hk _ h5).trans k2,(hk _ h5).trans k3,(hk _ h5).trans k4⟩
theorem kI.more {w:World} {B B':Nat} {v:Value} {L:List xC6} (h:kI w B v L) (hB:B<=B'):kI w B' v L:=by
 obtain⟨A,c,h1,h2,h3⟩:=h;refine⟨A,c,h1,h2,λhn=>?_⟩;obtain⟨b,off,h4,h5,h6⟩:=h3 hn;exact⟨b,off,h4,ω,h6⟩
def qO (w:World) (B:Nat) (v:Value) (L:List qR):Prop:=
 ∃A c,v=.slice A L.length c/\L.length<=c/\(0<L.length->∃b off,A=some ⟨b,off,none⟩/\b<B/\∀(j:Nat) x,L[j]?=some x->∃mv,
  w.cell? ⟨b,off+j*4,none⟩=some (xR x.name)/\w.cell? ⟨b,off+j*4+1,none⟩=some (.int .i64 x.validity)/\w.cell? ⟨b,off+j*4+2,none⟩=some (.int .i64 x.next)/\w.cell? ⟨b,off+j*4+3,none⟩=some mv/\kI w B mv x.zA)
theorem qO.keep {w w':World} {B:Nat} {v:Value} {L:List qR} (h:qO w B v L) (hk:∀p:Addr,p.block<B->w'.cell? p=w.cell? p):qO w' B v L:=by
 obtain⟨A,c,h1,h2,h3⟩:=h;refine⟨A,c,h1,h2,λhn=>?_⟩;obtain⟨b,off,h4,h5,h6⟩:=h3 hn;refine⟨b,off,h4,h5,λj m hm=>?_⟩;obtain⟨mv,k1,k2,k3,k4,k5⟩:=h6 j m hm;exact⟨mv,(hk _ h5).trans k1,(hk _ h5).trans k2,(hk _ h5).trans k3,(hk _ h5).trans k4,k5.keep hk⟩
theorem qO.more {w:World} {B B':Nat} {v:Value} {L:List qR} (h:qO w B v L) (hB:B<=B'):qO w B' v L:=by
 obtain⟨A,c,h1,h2,h3⟩:=h;refine⟨A,c,h1,h2,λhn=>?_⟩;obtain⟨b,off,h4,h5,h6⟩:=h3 hn;refine⟨b,off,h4,ω,λj m hm=>?_⟩;obtain⟨mv,k1,k2,k3,k4,k5⟩:=h6 j m hm;exact⟨mv,k1,k2,k3,k4,k5.more hB⟩
theorem qO.below {w w':World} {B B':Nat} {v:Value} {L:List qR} (h:qO w B v L) (hb:Below B' w w') (hB:B<=B'):qO w' B v L:=h.keep λ_ hp=>hb.cell ω
theorem kI.below {w w':World} {B B':Nat} {v:Value} {L:List xC6} (h:kI w B v L) (hb:Below B' w w') (hB:B<=B'):kI w' B v L:=h.keep λ_ hp=>hb.cell ω
structure xKp (w:World) (B:Nat) (bv sv:Value) (x:uQ):Prop where
 boxes:qO w B bv x.boxes
 subs:RdS w B sv x.subs
theorem xKp.below {w w':World} {B B':Nat} {bv sv:Value} {x:uQ} (h:xKp w B bv sv x) (hb:Below B' w w') (hB:B<=B'):xKp w' B bv sv x:=⟨h.boxes.below hb hB,h.subs.below hb hB⟩
theorem xKp.more {w:World} {B B':Nat} {bv sv:Value} {x:uQ} (h:xKp w B bv sv x) (hB:B<=B'):xKp w B' bv sv x:=⟨h.boxes.more hB,h.subs.more hB⟩
end Go.Proofs.IX
namespace Mailsack
def xPf (n:Int):Bool:=decide (1<=n/\n<=4294967295)
def xCz (n:Int):Bool:=decide (0<=n/\n<=63)
def xDt (o s f:Int):Bool:=xPf o&&decide (0<=s/\s<=700)&&xCz f
def chN (c:Nat):Bool:=decide (97<=c/\c<=122∨65<=c/\c<=90∨48<=c/\c<=57∨c=45∨c=47∨c=95)
def chP (c:UInt8):Bool:=chN c.toNat
def xAf (s:Bs):Bool:=decide (1<=s.length/\s.length<=16)&&s.all chP
theorem yAw {s:ByteArray} {k:Nat} (h:k<s.size) (f:UInt8->Bool):(s.data.toList.drop k).all f=(f s[k]&&(s.data.toList.drop (k+1)).all f):=by
 have h':k<s.data.toList.length:=by rw[Array.length_toList];exact h
 rw[List.drop_eq_getElem_cons h',List.all_cons]
 rfl
def xBr:Bs:=[73,78,66,79,88]
def xEi (next:Int):List xC6->Int->Bool
 |[],_=>true
 |m::l,last=>decide (last<m.uid)&&decide (m.uid<next)&&xDt m.object m.size m.flags&&xEi next l m.uid
def xAd (b:qR):Bool:=xAf b.name&&xPf b.validity&&xPf b.next&&decide (b.zA.length<=30)&&xEi b.next b.zA 0
def leS (a b:Bs):Bool:=Go.Op.bytesLess a b||a==b
def rR (given:Int):List qR->Nat->Bs->Bool
 |[],_,_=>true
 |b::l,i,p=>xAd b&&decide (b.validity<given)&&!(decide (0<i)&&b.name==xBr)&&!(decide (1<i)&&leS b.name p)&&rR given l (i+1) b.name
def xCg:List Bs->Nat->Bs->Bool
 |[],_,_=>true
 |s::l,i,p=>xAf s&&!(decide (0<i)&&leS s p)&&xCg l (i+1) s
def xEc (l:List qR):Nat:=(l.map (·.zA.length)).sum
def wP (x:uQ):Bool:=
 decide (1<=x.boxes.length)&&decide (x.boxes.length<=6)&&(x.boxes.head?.map (·.name)==some xBr)&&decide (x.subs.length<=6)&&xPf x.given&&rR x.given x.boxes 0 []&&xCg x.subs 0 []&&decide (xEc x.boxes<=30)
end Mailsack
namespace Go.Proofs.IX
open Go.RowKit Mailsack MM
theorem tX (n:Int) (w:World):Calls prog 46 #[.int .i64 n] w λe w'=>e=.returned (.bool (xPf n))/\w'=w:=by
 unfold xPf
 by_cases h1:1<=n
 ·by_cases h2:n<=4294967295
  all_goals
   go_enter func46,ntmps46;go_wp2;go_ret;exact⟨by simp[h1,h2],rfl⟩
 ·go_enter func46,ntmps46;go_wp2;go_ret;exact⟨by simp;omega,rfl⟩
theorem xH9 (n:Int) (w:World):Calls prog 187 #[.int .i64 n] w λe w'=>e=.returned (.bool (xCz n))/\w'=w:=by
 unfold xCz
 by_cases h1:0<=n
 ·by_cases h2:n<=63
  all_goals
   go_enter func187,ntmps187;go_wp2;go_ret;exact⟨by simp[h1,h2],rfl⟩
 ·go_enter func187,ntmps187;go_wp2;go_ret;exact⟨by simp;omega,rfl⟩
theorem xJa (o s f:Int) (w:World):Calls prog 103 #[.int .i64 o,.int .i64 s,.int .i64 f] w λe w'=>e=.returned (.bool (xDt o s f))/\w'=w:=by
 have HR:Hid (xDt o s f=(xPf o&&decide (0<=s/\s<=700)&&xCz f)):=ι rfl;generalize xDt o s f=R at HR⊢;have HP:=ι (λW=>tX o W);have HF:=ι (λW=>xH9 f W);cases hp:xPf o with
 |false=>
  rw[hp] at HP HR;clear hp;go_enter func103,ntmps103;go_wp2_with (go_at_call 46;refine(HP.o _).mono ?_;rintro e w' ⟨rfl,rfl⟩)
  go_ret;exact⟨by rw[HR.o];simp,rfl⟩
 |true=>
  rw[hp] at HP HR;clear hp;generalize xCz f=b at HF HR
  by_cases h1:0<=s
  ·by_cases h2:s<=700
   ·have Hf:Hid (R=b):=ι (by rw[HR.o];simp[h1,h2]);go_enter func103,ntmps103;go_wp2_with (first|(go_at_call 46;refine(HP.o _).mono ?_;rintro e w' ⟨rfl,rfl⟩)|(go_at_call 187;refine(HF.o _).mono ?_;rintro e w' ⟨rfl,rfl⟩))
    go_ret;exact⟨by rw[Hf.o];rfl,rfl⟩
   ·have Hf:Hid (R=false):=ι (by rw[HR.o];simp[h1,h2]);go_enter func103,ntmps103;go_wp2_with (go_at_call 46;refine(HP.o _).mono ?_;rintro e w' ⟨rfl,rfl⟩)
    go_ret;exact⟨by rw[Hf.o];rfl,rfl⟩
  ·have Hf:Hid (R=false):=ι (by rw[HR.o];simp[h1]);go_enter func103,ntmps103;go_wp2_with (go_at_call 46;refine(HP.o _).mono ?_;rintro e w' ⟨rfl,rfl⟩)
   go_ret;exact⟨by rw[Hf.o];rfl,rfl⟩
theorem xCm (s:ByteArray) (w:World):Calls prog 48 #[.string s] w λe w'=>e=.returned (.bool (xAf s.data.toList))/\w'=w:=by
 have hsl:s.data.toList.length=s.size:=Array.length_toList
 by_cases h1:1<=s.size
 ·by_cases h2:s.size<=16
  ·have hdone:Hid (xAf s.data.toList=(s.data.toList.drop 0).all chP):=ι (by unfold xAf;simp[hsl,h1,h2]);have Hsl:=ι hsl;clear hsl;go_enter func48,ntmps48;go_wp2
   go_loop [17] (λiv=>∃k:Nat,k<=s.size/\iv=.int .i64 k/\Hid (xAf s.data.toList=(s.data.toList.drop k).all chP)) (λiv=>s.size- (intOf iv).toNat)
   case atStart=>exact⟨0,ω,rfl,hdone⟩
   case round=>
    obtain⟨k,hk,rfl,hr⟩:=hrel;clear hdone
    by_cases hlt:k<s.size
    ·have HS:Hid ((s.data.toList.drop k).all chP=(chN s[k].toNat&&(s.data.toList.drop (k+1)).all chP)):=ι (yAw hlt chP)
     by_cases e95:(s[k].toNat:Int)=95
     all_goals
      go_wp2
      all_goals first
       |(go_ret;exact⟨by rw[hr.o,HS.o,show chN s[k].toNat=false from decide_eq_false (by first|omega|(simp at *;omega))];rfl,rfl⟩)
       |exact⟨⟨k+1,ω,by go_num,ι (by rw[hr.o,HS.o,show chN s[k].toNat=true from decide_eq_true (by first|omega|(simp at *;omega)),Bool.true_and])⟩,by simp[intOf];omega⟩
    ·go_wp2;go_ret;refine⟨?_,rfl⟩;rw[hr.o,List.drop_eq_nil_iff.2 (by have:=Hsl.o;omega)]
     rfl
  ·have Hf:=ι (show xAf s.data.toList=false by unfold xAf;simp[hsl,h2]);clear hsl;go_enter func48,ntmps48;go_wp2;go_ret;exact⟨by rw[Hf.o];rfl,rfl⟩
 ·have Hf:=ι (show xAf s.data.toList=false by unfold xAf;rw[decide_eq_false ω];rfl);clear hsl;go_enter func48,ntmps48;go_wp2;go_ret;exact⟨by rw[Hf.o];rfl,rfl⟩
theorem xO1 {L:List xC6} {k:Nat} {m:xC6} (h:L[k]?=some m) (next last:Int):xEi next (L.drop k) last=(decide (last<m.uid)&&decide (m.uid<next)&&xDt m.object m.size m.flags&&xEi next (L.drop (k+1)) m.uid):=by
 have hk:k<L.length:=(List.getElem?_eq_some_iff.1 h).1;rw[List.drop_eq_getElem_cons hk];have:L[k]=m:=(List.getElem?_eq_some_iff.1 h).2;rw[this]
 rfl
theorem qH {B:Nat} {a w:World} (h:Below B a w) (hB:B<=a.heap.size) (o:Obj):Below B a (w.alloc o):=h.alloc (Nat.le_trans hB h.size) o
theorem xLh (b:qR) (mv:Value) (w:World) (hm:kI w w.heap.size mv b.zA) (hl:b.zA.length<=9223372036854775807):
  Calls prog 47 #[.agg #[xR b.name,.int .i64 b.validity,.int .i64 b.next,mv]] w λe w'=>e=.returned (.bool (xAd b))/\ψ w w':=by
 obtain⟨A,c,rfl,hc,hrd⟩:=hm;have HN:=ι (λW=>xCm ⟨b.name.toArray⟩ W);have HV:=ι (λW=>tX b.validity W);have HX:=ι (λW=>tX b.next W);rw[show(⟨b.name.toArray⟩:ByteArray).data.toList=b.name from rfl] at HN
 have HR:Hid (xAd b=(xAf b.name&&xPf b.validity&&xPf b.next&&decide (b.zA.length<=30)&&xEi b.next (b.zA.drop 0) 0)):=ι rfl;generalize xAd b=R at HR⊢;generalize xAf b.name=r1 at HN HR;generalize xPf b.validity=r2 at HV HR;generalize xPf b.next=r3 at HX HR
 have H1:=ι (φ w (.cells #[xR b.name,.int .i64 b.validity,.int .i64 b.next,.slice A b.zA.length c] 39));have P1:=ι (xM w (.cells #[xR b.name,.int .i64 b.validity,.int .i64 b.next,.slice A b.zA.length c] 39));have Hrd:=ι hrd;clear hrd
 by_cases hok:(r1=true/\r2=true/\r3=true)/\b.zA.length<=30
 ·obtain⟨⟨rfl,rfl,rfl⟩,h30⟩:=hok
  replace HR:Hid (R=xEi b.next (b.zA.drop 0) 0):=ι (by rw[HR.o];simp[h30])
  go_enter func47,ntmps47
  go_wp2_with (first|(go_at_call 48;refine(HN.o _).mono ?_;rintro e w' ⟨rfl,rfl⟩)|(go_at_call_of 46 (Value.int IntKind.i64 b.validity);refine(HV.o _).mono ?_;rintro e w' ⟨rfl,rfl⟩)|(go_at_call_of 46 (Value.int IntKind.i64 b.next);refine(HX.o _).mono ?_;rintro e w' ⟨rfl,rfl⟩))
  go_loopw [3,31] (λlv iv wr=>∃(k:Nat) (last:Int),k<=b.zA.length/\lv=.int .i64 last/\iv=.int .i64 k/\Hid (R=xEi b.next (b.zA.drop k) last)/\Hid (Below (w.alloc (.cells #[xR b.name,.int .i64 b.validity,.int .i64 b.next,.slice A b.zA.length c] 39)).heap.size (w.alloc (.cells #[xR b.name,.int .i64 b.validity,.int .i64 b.next,.slice A b.zA.length c] 39)) wr)) (λ_ iv _=>b.zA.length- (intOf iv).toNat)
  case atStart=>exact⟨0,0,Nat.zero_le _,rfl,rfl,HR,ι (Below.refl _ _)⟩
  case round=>
   obtain⟨k,last,hk,rfl,rfl,hR,hb⟩:=hrel;clear HR
   by_cases hlt:k<b.zA.length
   ·obtain⟨g,off,rfl,hg,hcell⟩:=Hrd.o ω;obtain⟨m,hm⟩:∃m,b.zA[k]?=some m:=⟨_,List.getElem?_eq_getElem hlt⟩;obtain⟨q1,q2,q3,q4⟩:=hcell k m hm;have kp:∀p:Addr,p.block<w.heap.size->wr.cell? p=w.cell? p:=λp hp=>(hb.o.cell (by simp;omega)).trans (H1.o.cell hp)
    have c1:=(kp ⟨g,off+k*4,none⟩ hg).trans q1;have c2:=(kp ⟨g,off+k*4+1,none⟩ hg).trans q2;have c3:=(kp ⟨g,off+k*4+2,none⟩ hg).trans q3;have c4:=(kp ⟨g,off+k*4+3,none⟩ hg).trans q4;have c5:wr.cell? ⟨w.heap.size,2,none⟩=some (.int .i64 b.next):=xA (xD P1.o hb.o σ) 2
    have c6:(wr.alloc (.cells #[.int .i64 m.uid,.int .i64 m.flags,.int .i64 m.object,.int .i64 m.size] 58)).cell? ⟨w.heap.size,2,none⟩=some (.int .i64 b.next):=xA (xO (xD P1.o hb.o σ) _) 2;have hsz:w.heap.size+1<=wr.heap.size:=by have:=hb.o.size;simpa using this
    have HS:=ι (hR.o.trans (xO1 hm b.next last));have HM:=ι (λW=>xJa m.object m.size m.flags W);generalize xDt m.object m.size m.flags=r at HM HS;clear q1 q2 q3 q4 kp hcell hm hR
    have HB9:=ι (qH hb.o ν (.cells #[.int .i64 m.uid,.int .i64 m.flags,.int .i64 m.object,.int .i64 m.size] 58))
    by_cases u1:last<m.uid
    ·by_cases u2:m.uid<b.next
     ·cases r with
      |true=>
       have HT:Hid (R=xEi b.next (b.zA.drop (k+1)) m.uid):=ι (by rw[HS.o];simp[u1,u2]);go_wp2_with (go_at_call 103;refine(HM.o _).mono ?_;rintro e w' ⟨rfl,rfl⟩)
       exact⟨⟨k+1,m.uid,ω,rfl,by go_num,HT,HB9⟩,by simp[intOf];omega⟩
      |false=>
       have HF:Hid (R=false):=ι (by rw[HS.o];simp);go_wp2_with (go_at_call 103;refine(HM.o _).mono ?_;rintro e w' ⟨rfl,rfl⟩)
       go_ret;exact⟨by rw[HF.o];rfl,H1.o.trans (HB9.o.mono H1.o.size)⟩
     ·have HF:Hid (R=false):=ι (by rw[HS.o];simp[u2]);go_wp2;go_ret;exact⟨by rw[HF.o];rfl,H1.o.trans (HB9.o.mono H1.o.size)⟩
    ·have HF:Hid (R=false):=ι (by rw[HS.o];simp[u1]);go_wp2;go_ret;exact⟨by rw[HF.o];rfl,H1.o.trans (HB9.o.mono H1.o.size)⟩
   ·go_wp2;go_ret;refine⟨?_,H1.o.trans (hb.o.mono H1.o.size)⟩;rw[hR.o,List.drop_eq_nil_iff.2 ω]
    rfl
 ·have HF:Hid (R=false):=ι (by
   rw[HR.o];rcases Nat.lt_or_ge 30 b.zA.length with h30|h30
   ·rw[decide_eq_false ω];simp
   ·cases r1<;>cases r2<;>cases r3<;>simp_all)
  have key:r1=false∨(r1=true/\r2=false)∨(r1=true/\r2=true/\r3=false)∨(r1=true/\r2=true/\r3=true/\30<b.zA.length):=by
   cases r1<;>cases r2<;>cases r3<;>simp_all
  clear hok HR;rcases key with rfl|⟨rfl,rfl⟩|⟨rfl,rfl,rfl⟩|⟨rfl,rfl,rfl,h30⟩
  all_goals
   go_enter func47,ntmps47
   go_wp2_with (first|(go_at_call 48;refine(HN.o _).mono ?_;rintro e w' ⟨rfl,rfl⟩)|(go_at_call_of 46 (Value.int IntKind.i64 b.validity);refine(HV.o _).mono ?_;rintro e w' ⟨rfl,rfl⟩)|(go_at_call_of 46 (Value.int IntKind.i64 b.next);refine(HX.o _).mono ?_;rintro e w' ⟨rfl,rfl⟩))
   go_ret;exact⟨by rw[HF.o];rfl,H1.o⟩
end Go.Proofs.IX
namespace Mailsack
theorem xOq {L:List qR} {k:Nat} {b:qR} (h:L[k]?=some b) (given:Int) (p:Bs):rR given (L.drop k) k p=(xAd b&&decide (b.validity<given)&&!(decide (0<k)&&b.name==xBr)&&!(decide (1<k)&&leS b.name p)&&rR given (L.drop (k+1)) (k+1) b.name):=by
 have hk:k<L.length:=(List.getElem?_eq_some_iff.1 h).1;rw[List.drop_eq_getElem_cons hk];have:L[k]=b:=(List.getElem?_eq_some_iff.1 h).2;rw[this]
 rfl
theorem xRg {L:List Bs} {k:Nat} {s:Bs} (h:L[k]?=some s) (p:Bs):xCg (L.drop k) k p=(xAf s&&!(decide (0<k)&&leS s p)&&xCg (L.drop (k+1)) (k+1) s):=by
 have hk:k<L.length:=(List.getElem?_eq_some_iff.1 h).1;rw[List.drop_eq_getElem_cons hk];have:L[k]=s:=(List.getElem?_eq_some_iff.1 h).2;rw[this]
 rfl
theorem xN8 {L:List qR} {k:Nat} {b:qR} (h:L[k]?=some b):xEc (L.take (k+1))=xEc (L.take k)+b.zA.length:=by
 unfold xEc;rw[List.take_add_one,h];simp
end Mailsack
namespace Go.Proofs.IX
open Go.RowKit Mailsack MM
theorem xFb {w:World} {B:Nat} {v:Value} {L:List qR} (h:qO w B v L) {k:Nat} {x:qR} (hx:L[k]?=some x):∃b off c mv,v=.slice (some ⟨b,off,none⟩) L.length c/\b<B/\w.cell? ⟨b,off+k*4,none⟩=some (xR x.name)/\w.cell? ⟨b,off+k*4+1,none⟩=some (.int .i64 x.validity)/\
  w.cell? ⟨b,off+k*4+2,none⟩=some (.int .i64 x.next)/\w.cell? ⟨b,off+k*4+3,none⟩=some mv/\kI w B mv x.zA:=by
 obtain⟨A,c,rfl,_,hr⟩:=h;obtain⟨b,off,rfl,hb,hc⟩:=hr (by have:=(List.getElem?_eq_some_iff.1 hx).1;omega);obtain⟨mv,h1,h2,h3,h4,h5⟩:=hc k x hx;exact⟨b,off,c,mv,rfl,hb,h1,h2,h3,h4,h5⟩
theorem kD (bv sv:Value) (x:uQ) (w:World) (h:xKp w w.heap.size bv sv x) (hm:∀b∈x.boxes,b.zA.length<=9223372036854775807) (hl:x.boxes.length<=9223372036854775807) (hl2:x.subs.length<=9223372036854775807):
  Calls prog 23 #[.agg #[bv,sv,.int .i64 x.given]] w λe w'=>e=.returned (.bool (wP x))/\ψ w w':=by
 have HB:=ι h.boxes;have HS:=ι h.subs;have HM:=ι hm;obtain⟨A,c,rfl,hc,_⟩:=h.boxes;obtain⟨A2,c2,rfl,hc2,_⟩:=h.subs
 have HR:Hid (wP x=(decide (1<=x.boxes.length)&&decide (x.boxes.length<=6)&&(x.boxes.head?.map (·.name)==some xBr)&&decide (x.subs.length<=6)&&xPf x.given&&rR x.given x.boxes 0 []&&xCg x.subs 0 []&&decide (xEc x.boxes<=30))):=ι rfl;generalize wP x=R at HR⊢
 have H1:=ι (φ w (.cells #[.slice A x.boxes.length c,.slice A2 x.subs.length c2,.int .i64 x.given] 28));have P1:=ι (xM w (.cells #[.slice A x.boxes.length c,.slice A2 x.subs.length c2,.int .i64 x.given] 28));have HG:=ι (λW=>tX x.given W);clear h hm
 by_cases h1:1<=x.boxes.length/\x.boxes.length<=6
 ·obtain⟨b0,hb0⟩:∃b0,x.boxes[0]?=some b0:=⟨_,List.getElem?_eq_getElem h1.1⟩;obtain⟨g,off,c',mv0,e0,hg,q0,_⟩:=xFb HB.o hb0;injection e0 with e0 _ e0';subst e0 e0';have q0':w.cell? ⟨g,off,none⟩=some (xR b0.name):=by simpa using q0
  obtain⟨nb,hnb⟩:∃nb:ByteArray,(⟨b0.name.toArray⟩:ByteArray)=nb:=⟨_,rfl⟩;have q1:(w.alloc (.cells #[.slice (some ⟨g,off,none⟩) x.boxes.length c,.slice A2 x.subs.length c2,.int .i64 x.given] 28)).cell? ⟨g,off,none⟩=some (.string nb):=by rw[<-hnb];exact(H1.o.cell hg).trans q0'
  have hin:(nb.toList==[73,78,66,79,88])=(b0.name==xBr):=by rw[<-hnb,ByteArray.toList_eq];rfl
  have hhead:(x.boxes.head?.map (·.name)==some xBr)=(b0.name==xBr):=by
   rw[List.head?_eq_getElem?,hb0];simp
  rw[hhead] at HR;obtain⟨h1a,h1b⟩:=h1;rw[decide_eq_true h1a,decide_eq_true h1b] at HR;generalize (b0.name==xBr)=r1 at hin HR;clear hhead q0 q0' hnb hb0;cases r1 with
  |false=>
   have HF:Hid (R=false):=ι (by rw[HR.o];simp);go_enter func23,ntmps23;go_wp2;go_ret;exact⟨by rw[HF.o];rfl,H1.o⟩
  |true=>
   by_cases h2:x.subs.length<=6
   ·rw[decide_eq_true h2] at HR;generalize xPf x.given=r2 at HG HR;cases r2 with
    |false=>
     have HF:Hid (R=false):=ι (by rw[HR.o];simp);go_enter func23,ntmps23;go_wp2_with (go_at_call 46;refine(HG.o _).mono ?_;rintro e w' ⟨rfl,rfl⟩)
     go_ret;exact⟨by rw[HF.o];rfl,H1.o⟩
    |true=>
     replace HR:Hid (R=(rR x.given (x.boxes.drop 0) 0 []&&(xCg x.subs 0 []&&decide (xEc x.boxes<=30)))):=ι (by rw[HR.o];simp[Bool.and_assoc])
     go_enter func23,ntmps23;go_wp2_with (go_at_call 46;refine(HG.o _).mono ?_;rintro e w' ⟨rfl,rfl⟩)
     clear hin q1;generalize hrest:(xCg x.subs 0 []&&decide (xEc x.boxes<=30))=Q at HR;have HQ:=ι hrest;clear hrest
     go_loopw [3,39] (λtv iv wr=>∃(k tot:Nat) (p:Bs),k<=x.boxes.length/\tot<=30*k/\tv=.int .i64 tot/\iv=.int .i64 k/\Hid (R=(rR x.given (x.boxes.drop k) k p&&Q)/\tot=xEc (x.boxes.take k)/\(∀j,k=j+1->∃b,x.boxes[j]?=some b/\b.name=p)/\Below (w.alloc (.cells #[.slice (some ⟨g,off,none⟩) x.boxes.length c,.slice A2 x.subs.length c2,.int .i64 x.given] 28)).heap.size (w.alloc (.cells #[.slice (some ⟨g,off,none⟩) x.boxes.length c,.slice A2 x.subs.length c2,.int .i64 x.given] 28)) wr)) (λ_ iv _=>x.boxes.length- (intOf iv).toNat)
     case atStart=>exact⟨0,0,[],Nat.zero_le _,δ,rfl,rfl,ι ⟨HR.o,rfl,λj hj=>by omega,Below.refl _ _⟩⟩
     case round=>
      obtain⟨k,tot,p,hk,htot,rfl,rfl,hr⟩:=hrel;clear HR
      by_cases hlt:k<x.boxes.length
      ·obtain⟨b,hx⟩:∃b,x.boxes[k]?=some b:=⟨_,List.getElem?_eq_getElem hlt⟩;obtain⟨g',off',c',mv,e0,_,q0,q1,q2,q3,hmv⟩:=xFb HB.o hx;injection e0 with e0 _ e0';injection e0 with e0;injection e0 with e1 e2;subst e1 e2 e0'
       have hwr:ψ w wr:=H1.o.trans (hr.o.2.2.2.mono H1.o.size);obtain⟨nb,hnb⟩:∃nb:ByteArray,(⟨b.name.toArray⟩:ByteArray)=nb:=⟨_,rfl⟩;have r0:wr.cell? ⟨g,off+k*4,none⟩=some (.string nb):=by rw[<-hnb];exact(hwr.cell hg).trans q0
       have r1:=(hwr.cell (p:=⟨g,off+k*4+1,none⟩) hg).trans q1;have r2:=(hwr.cell (p:=⟨g,off+k*4+2,none⟩) hg).trans q2;have r3:=(hwr.cell (p:=⟨g,off+k*4+3,none⟩) hg).trans q3
       have HRB:Hid (∀W,ψ w W->Calls prog 47 #[.agg #[.string nb,.int .i64 b.validity,.int .i64 b.next,mv]] W λe w'=>e=.returned (.bool (xAd b))/\ψ W w'):=ι (λW hb=>by
        have:=xLh b mv W ((hmv.below hb ν).more hb.size) (HM.o b (List.mem_of_getElem? hx));rw[<-hnb];exact this)
       have hml:xAd b=true->b.zA.length<=30:=λh=>by
        unfold xAd at h;simp only[Bool.and_eq_true,decide_eq_true_eq] at h;exact h.1.2
       have HSt:=ι (xOq hx x.given p);have HTk:=ι (xN8 hx);have hi1:(nb.toList==[73,78,66,79,88])=(b.name==xBr):=by rw[<-hnb,ByteArray.toList_eq];rfl
       have HNB:=ι hnb;have Hx:=ι hx;have Hwr:=ι hwr;obtain⟨Am,cm,rfl,hcm,_⟩:=hmv;clear q0 q1 q2 q3 hnb hwr hx;generalize xAd b=rb at HRB hml HSt;generalize (b.name==xBr)=i1 at hi1 HSt;go_wp2_with fail
       have hb8:=ι (qH (Below.refl wr.heap.size wr) ν (.cells #[.string nb,.int .i64 b.validity,.int .i64 b.next,.slice Am b.zA.length cm] 39));have pb8:=ι (xM wr (.cells #[.string nb,.int .i64 b.validity,.int .i64 b.next,.slice Am b.zA.length cm] 39))
       refine(HRB.o _ (Hwr.o.trans (hb8.o.mono Hwr.o.size))).mono ?_;rintro e w3 ⟨rfl,hb3⟩;have xO8:=hb8.o.trans (hb3.mono hb8.o.size);have HB3:=ι (Hwr.o.trans (xO8.mono Hwr.o.size));have HBe:=ι (hr.o.2.2.2.trans (xO8.mono hr.o.2.2.2.size));have pb3:=xD pb8.o hb3 σ
       have z0:w3.cell? ⟨wr.heap.size,0,none⟩=some (.string nb):=xA pb3 0;have z1:w3.cell? ⟨wr.heap.size,1,none⟩=some (.int .i64 b.validity):=xA pb3 1;have z3:w3.cell? ⟨wr.heap.size,3,none⟩=some (.slice Am b.zA.length cm):=xA pb3 3;have p3:=xD P1.o HBe.o σ
       have y0:w3.cell? ⟨w.heap.size,0,none⟩=some (.slice (some ⟨g,off,none⟩) x.boxes.length c):=xA p3 0;have y2:w3.cell? ⟨w.heap.size,2,none⟩=some (.int .i64 x.given):=xA p3 2;clear hb3 xO8 pb3 p3 r0 r1 r2 r3 HRB hb8 pb8;cases rb with
       |false=>
        have HF:Hid (R=false):=ι (by rw[hr.o.1,HSt.o];simp);go_wp2;go_ret;exact⟨by rw[HF.o];rfl,HB3.o⟩
       |true=>
        have hml':=hml rfl;clear hml
        by_cases hv:b.validity<x.given
        ·have hzl:wr.heap.size<w3.heap.size:=World.block_lt_of_cell? w3 _ z0;have hyl:w.heap.size<w3.heap.size:=World.block_lt_of_cell? w3 _ y0;have hgl:g<w3.heap.size:=Nat.lt_trans hg hyl;rcases Nat.lt_trichotomy k 1 with h|h|h
         ·obtain rfl:k=0:=ω;have HT:Hid (R=(rR x.given (x.boxes.drop (0+1)) (0+1) b.name&&Q)):=ι (by rw[hr.o.1,HSt.o];simp[hv]);go_upto_region 11 with fail
          refine RG.xQ (λW=>Hid (ψ w3 W)) κ κ (ι (Below.refl _ _).drew) ?_;iterate 23 refine RG.dF (λw9 hw9=>have z0':=(hw9.o.cell (p:=⟨wr.heap.size,0,none⟩) hzl).trans z0;have y0':=(hw9.o.cell (p:=⟨w.heap.size,0,none⟩) hyl).trans y0;And.intro (z0') y0') ?_
          refine RG.xS (λw4 hb4=>?_);have HB4:=ι (HB3.o.trans (hb4.o.mono HB3.o.size));have HBe4:=ι (HBe.o.trans (hb4.o.mono HBe.o.size));have z3':=(hb4.o.cell (p:=⟨wr.heap.size,3,none⟩) hzl).trans z3;clear hb4;go_wp2
          exact⟨⟨0+1,tot+b.zA.length,b.name,ω,ω,by go_num,by go_num,ι ⟨HT.o,by rw[HTk.o,<-hr.o.2.1],λi hi=>⟨b,by rw[show i=0 by omega];exact Hx.o,rfl⟩,HBe4.o⟩⟩,by simp[intOf];omega⟩
         ·subst h;cases i1
          ·have HT:Hid (R=(rR x.given (x.boxes.drop (1+1)) (1+1) b.name&&Q)):=ι (by rw[hr.o.1,HSt.o];simp[hv]);go_upto_region 11 with fail
           refine RG.xQ (λW=>Hid (ψ w3 W)) κ κ (ι (Below.refl _ _).drew) ?_;iterate 23 refine RG.dF (λw9 hw9=>have z0':=(hw9.o.cell (p:=⟨wr.heap.size,0,none⟩) hzl).trans z0;have y0':=(hw9.o.cell (p:=⟨w.heap.size,0,none⟩) hyl).trans y0;And.intro (z0') y0') ?_
           refine RG.xS (λw4 hb4=>?_);have HB4:=ι (HB3.o.trans (hb4.o.mono HB3.o.size));have HBe4:=ι (HBe.o.trans (hb4.o.mono HBe.o.size));have z3':=(hb4.o.cell (p:=⟨wr.heap.size,3,none⟩) hzl).trans z3;clear hb4;go_wp2
           exact⟨⟨1+1,tot+b.zA.length,b.name,ω,ω,by go_num,by go_num,ι ⟨HT.o,by rw[HTk.o,<-hr.o.2.1],λi hi=>⟨b,by rw[show i=1 by omega];exact Hx.o,rfl⟩,HBe4.o⟩⟩,by simp[intOf];omega⟩
          ·have HF:Hid (R=false):=ι (by rw[hr.o.1,HSt.o];simp[hv]);have hp1:nb.toList=[73,78,66,79,88]:=beq_iff_eq.1 hi1;go_upto_region 11 with fail
           refine RG.xQ (λW=>Hid (ψ w3 W)) κ κ (ι (Below.refl _ _).drew) ?_
           iterate 23
            apply RG.xJ
            ·intro w9 hw9;have z0':=(hw9.o.cell (p:=⟨wr.heap.size,0,none⟩) hzl).trans z0;have y0':=(hw9.o.cell (p:=⟨w.heap.size,0,none⟩) hyl).trans y0;repeat (first|go_big_skip|go_step)
             exact RG.xC hw9
            ·rfl
           refine RG.xS (λw4 hb4=>?_);have HB4:=ι (HB3.o.trans (hb4.o.mono HB3.o.size));clear hb4;go_wp2;go_ret;exact⟨by rw[HF.o];rfl,HB4.o⟩
         ·obtain⟨j,rfl⟩:∃j,k=j+1:=⟨k-1,ω⟩;obtain⟨b',hx',hp'⟩:=hr.o.2.2.1 j rfl;obtain⟨g',off',c',mv,e0,_,q0,_⟩:=xFb HB.o hx';injection e0 with e0 _ e0';injection e0 with e0;injection e0 with e1 e2;subst e1 e2 e0';rw[hp'] at q0
          obtain⟨pb,hpb⟩:∃pb:ByteArray,(⟨p.toArray⟩:ByteArray)=pb:=⟨_,rfl⟩;have v0:w3.cell? ⟨g,off+j*4,none⟩=some (.string pb):=by rw[<-hpb];exact(HB3.o.cell hg).trans q0
          have hi2:(Op.bytesLess nb.toList pb.toList||nb.toList==pb.toList)=leS b.name p:=by rw[<-HNB.o,<-hpb,ByteArray.toList_eq,ByteArray.toList_eq];rfl
          clear q0 hpb hx' hp';have hj0:0<j:=ω;cases i1
          ·generalize leS b.name p=i2 at hi2 HSt;cases i2
           ·have HT:Hid (R=(rR x.given (x.boxes.drop ((j+1)+1)) ((j+1)+1) b.name&&Q)):=ι (by rw[hr.o.1,HSt.o];simp[hv]);go_upto_region 11 with fail
            refine RG.xQ (λW=>Hid (ψ w3 W)) κ κ (ι (Below.refl _ _).drew) ?_
            iterate 23 refine RG.dF (λw9 hw9=>have z0':=(hw9.o.cell (p:=⟨wr.heap.size,0,none⟩) hzl).trans z0;have y0':=(hw9.o.cell (p:=⟨w.heap.size,0,none⟩) hyl).trans y0;have v0':=(hw9.o.cell (p:=⟨g,off+j*4,none⟩) hgl).trans v0;And.intro (z0') (And.intro (y0') v0')) ?_
            refine RG.xS (λw4 hb4=>?_);have HB4:=ι (HB3.o.trans (hb4.o.mono HB3.o.size));have HBe4:=ι (HBe.o.trans (hb4.o.mono HBe.o.size));have z3':=(hb4.o.cell (p:=⟨wr.heap.size,3,none⟩) hzl).trans z3;clear hb4;go_wp2
            exact⟨⟨(j+1)+1,tot+b.zA.length,b.name,ω,ω,by go_num,by go_num,ι ⟨HT.o,by rw[HTk.o,<-hr.o.2.1],λi hi=>⟨b,by rw[show i=j+1 by omega];exact Hx.o,rfl⟩,HBe4.o⟩⟩,by simp[intOf];omega⟩
           ·have HF:Hid (R=false):=ι (by rw[hr.o.1,HSt.o];simp[hv,hj0]);go_upto_region 11 with fail
            refine RG.xQ (λW=>Hid (ψ w3 W)) κ κ (ι (Below.refl _ _).drew) ?_
            iterate 23 refine RG.dF (λw9 hw9=>have z0':=(hw9.o.cell (p:=⟨wr.heap.size,0,none⟩) hzl).trans z0;have y0':=(hw9.o.cell (p:=⟨w.heap.size,0,none⟩) hyl).trans y0;have v0':=(hw9.o.cell (p:=⟨g,off+j*4,none⟩) hgl).trans v0;And.intro (z0') (And.intro (y0') v0')) ?_
            refine RG.xS (λw4 hb4=>?_);have HB4:=ι (HB3.o.trans (hb4.o.mono HB3.o.size));clear hb4;go_wp2;go_ret;exact⟨by rw[HF.o];rfl,HB4.o⟩
          ·have HF:Hid (R=false):=ι (by rw[hr.o.1,HSt.o];simp[hv]);have hp1:nb.toList=[73,78,66,79,88]:=beq_iff_eq.1 hi1;go_upto_region 11 with fail
           refine RG.xQ (λW=>Hid (ψ w3 W)) κ κ (ι (Below.refl _ _).drew) ?_
           iterate 23
            apply RG.xJ
            ·intro w9 hw9;have z0':=(hw9.o.cell (p:=⟨wr.heap.size,0,none⟩) hzl).trans z0;have y0':=(hw9.o.cell (p:=⟨w.heap.size,0,none⟩) hyl).trans y0;have v0':=(hw9.o.cell (p:=⟨g,off+j*4,none⟩) hgl).trans v0;repeat (first|go_big_skip|go_step)
             exact RG.xC hw9
            ·rfl
           refine RG.xS (λw4 hb4=>?_);have HB4:=ι (HB3.o.trans (hb4.o.mono HB3.o.size));clear hb4;go_wp2;go_ret;exact⟨by rw[HF.o];rfl,HB4.o⟩
        ·have HF:Hid (R=false):=ι (by rw[hr.o.1,HSt.o];simp[hv]);go_wp2;go_ret;exact⟨by rw[HF.o];rfl,HB3.o⟩
      ·obtain rfl:k=x.boxes.length:=ω;have HE:Hid (R=(xCg (x.subs.drop 0) 0 []&&decide (tot<=30))/\∀j,(0:Nat)=j+1->x.subs[j]?=some []):=ι ⟨by rw[hr.o.1,List.drop_length,<-HQ.o,hr.o.2.1,List.take_length];simp[rR],λj hj=>by omega⟩
       have HWR:Hid (ψ w wr):=ι (H1.o.trans (hr.o.2.2.2.mono H1.o.size));have y1:wr.cell? ⟨w.heap.size,1,none⟩=some (.slice A2 x.subs.length c2):=xA (xD P1.o hr.o.2.2.2 σ) 1;clear hr;go_wp2_with fail
       go_loop [86] (λiv=>∃(k:Nat) (p:Bs),k<=x.subs.length/\iv=.int .i64 k/\Hid (R=(xCg (x.subs.drop k) k p&&decide (tot<=30))/\∀j,k=j+1->x.subs[j]?=some p)) (λiv=>x.subs.length- (intOf iv).toNat)
       case atStart=>exact⟨0,[],Nat.zero_le _,rfl,HE⟩
       case round=>
        obtain⟨k,p,hk,rfl,hr⟩:=hrel;clear HE
        by_cases hlt:k<x.subs.length
        ·obtain⟨s,hx⟩:∃s,x.subs[k]?=some s:=⟨_,List.getElem?_eq_getElem hlt⟩;obtain⟨A3,c3,e0,_,hrd⟩:=HS.o;injection e0 with e0 _ e0';subst e0 e0';obtain⟨g2,xVr,rfl,hg2,hcell⟩:=hrd ω;have q0:=(HWR.o.cell (p:=⟨g2,xVr+k,none⟩) hg2).trans (hcell k s hx)
         obtain⟨sb,hsb⟩:∃sb:ByteArray,(⟨s.toArray⟩:ByteArray)=sb:=⟨_,rfl⟩;have r0:wr.cell? ⟨g2,xVr+k,none⟩=some (.string sb):=by rw[<-hsb];exact q0
         have HSt:=ι (xRg hx p)
         have HN:Hid (∀W,Calls prog 48 #[.string sb] W λe w'=>e=.returned (.bool (xAf s))/\w'=W):=ι (λW=>by
          have:=xCm sb W;rw[show sb.data.toList=s by rw[<-hsb]] at this;exact this)
         generalize xAf s=rn at HN HSt;have Hx:=ι hx;rcases Nat.eq_zero_or_pos k with h|h
         ·subst h;clear q0 hsb hx hcell hrd;have r0':wr.cell? ⟨g2,xVr,none⟩=some (.string sb):=by simpa using r0
          cases rn with
          |false=>
           have HF:Hid (R=false):=ι (by rw[hr.o.1,HSt.o];simp);go_wp2_with (first|go_big_skip|(go_at_call 48;refine(HN.o _).mono ?_;rintro e w' ⟨rfl,rfl⟩))
           go_ret;exact⟨by rw[HF.o];rfl,HWR.o⟩
          |true=>
           have HT:Hid (R=(xCg (x.subs.drop (0+1)) (0+1) s&&decide (tot<=30))):=ι (by rw[hr.o.1,HSt.o];simp);go_wp2_with (first|go_big_skip|(go_at_call 48;refine(HN.o _).mono ?_;rintro e w' ⟨rfl,rfl⟩))
           exact⟨⟨0+1,s,ω,by go_num,ι ⟨HT.o,λi hi=>by rw[show i=0 by omega];exact Hx.o⟩⟩,by simp[intOf];omega⟩
         ·obtain⟨j,rfl⟩:∃j,k=j+1:=⟨k-1,ω⟩;have hx':=hr.o.2 j rfl;obtain⟨pb,hpb⟩:∃pb:ByteArray,(⟨p.toArray⟩:ByteArray)=pb:=⟨_,rfl⟩;have v0:wr.cell? ⟨g2,xVr+j,none⟩=some (.string pb):=by rw[<-hpb];exact(HWR.o.cell (p:=⟨g2,xVr+j,none⟩) hg2).trans (hcell j p hx')
          have hi2:(Op.bytesLess sb.toList pb.toList||sb.toList==pb.toList)=leS s p:=by rw[<-hsb,<-hpb,ByteArray.toList_eq,ByteArray.toList_eq];rfl
          generalize leS s p=i2 at hi2 HSt;clear q0 hsb hx hcell hrd hpb hx';cases rn with
          |false=>
           have HF:Hid (R=false):=ι (by rw[hr.o.1,HSt.o];simp);go_wp2_with (first|go_big_skip|(go_at_call 48;refine(HN.o _).mono ?_;rintro e w' ⟨rfl,rfl⟩))
           go_ret;exact⟨by rw[HF.o];rfl,HWR.o⟩
          |true=>
           cases i2 with
           |true=>
            have HF:Hid (R=false):=ι (by rw[hr.o.1,HSt.o];simp);go_wp2_with (first|go_big_skip|(go_at_call 48;refine(HN.o _).mono ?_;rintro e w' ⟨rfl,rfl⟩))
            go_ret;exact⟨by rw[HF.o];rfl,HWR.o⟩
           |false=>
            have HT:Hid (R=(xCg (x.subs.drop (j+1+1)) (j+1+1) s&&decide (tot<=30))):=ι (by rw[hr.o.1,HSt.o];simp);go_wp2_with (first|go_big_skip|(go_at_call 48;refine(HN.o _).mono ?_;rintro e w' ⟨rfl,rfl⟩))
            exact⟨⟨j+1+1,s,ω,by go_num,ι ⟨HT.o,λi hi=>by rw[show i=j+1 by omega];exact Hx.o⟩⟩,by simp[intOf];omega⟩
        ·have HF:Hid (R=decide (tot<=30)):=ι (by rw[hr.o.1,List.drop_eq_nil_iff.2 ω];simp[xCg])
         by_cases h30:tot<=30
         ·rw[decide_eq_true h30] at HF;go_wp2;go_ret;exact⟨by rw[HF.o];simp;omega,HWR.o⟩
         ·rw[decide_eq_false h30] at HF;go_wp2;go_ret;exact⟨by rw[HF.o];simp;omega,HWR.o⟩
   ·have HF:Hid (R=false):=ι (by rw[HR.o,decide_eq_false h2];simp);go_enter func23,ntmps23;go_wp2;go_ret;exact⟨by rw[HF.o];rfl,H1.o⟩
 ·have HF:Hid (R=false):=ι (by
   rw[HR.o];rcases Nat.lt_or_ge x.boxes.length 1 with h9|h9
   ·rw[decide_eq_false ω];simp
   ·rw[decide_eq_false (p:=x.boxes.length<=6) ω];simp)
  have h1':x.boxes.length<1∨6<x.boxes.length:=ω;clear h1;rcases h1' with h1|h1
  all_goals
   go_enter func23,ntmps23;go_wp2;go_ret;exact⟨by rw[HF.o];rfl,H1.o⟩
end Go.Proofs.IX
namespace Mailsack
def byteOf (z:Int):UInt8:=UInt8.ofNat (z % 256).toNat
theorem xIq (z:Int):((byteOf z).toNat:Int)=z % 256:=by
 unfold byteOf;have h1:=Int.emod_nonneg z (b:=256) δ;have h2:=Int.emod_lt_of_pos z (b:=256) δ;rw[UInt8.toNat_ofNat',Nat.mod_eq_of_lt ω];omega
def vP (n:Int) (c:Nat):Bs:=(List.range c).map λi=>byteOf (n / 2^(8*i))
theorem xVt (n:Int) (c:Nat):vP n (c+1)=vP n c++[byteOf (n / 2^(8*c))]:=by
 unfold vP;rw[List.range_succ,List.map_append];rfl
def rW (s:Bs):Bs:=byteOf s.length::s
theorem uJ (n:Int) (c:Nat):(vP n c).length=c:=by unfold vP;simp
end Mailsack
namespace Go.Proofs.IX
open Go.RowKit Mailsack MM BU VB
structure Ext (w:World) (v:Value) (w':World) (v':Value):Prop where
 grown:w.grownBy w' v.ownBlock
 own:∀k,v'.ownBlock=some k->v.ownBlock=some k∨w.heap.size<=k
theorem Ext.refl (w:World) (v:Value):Ext w v w v:=⟨⟨rfl,rfl,rfl,Nat.le_refl _,λ_ _ _=>rfl⟩,λ_ h=>.inl h⟩
theorem Ext.trans {w w1 w2:World} {v v1 v2:Value} (h:Ext w v w1 v1) (k:Ext w1 v1 w2 v2):Ext w v w2 v2:=by
 refine⟨⟨k.grown.os.trans h.grown.os,k.grown.tape.trans h.grown.tape,k.grown.output.trans h.grown.output,Nat.le_trans h.grown.size k.grown.size,λb hb hne=>?_⟩,λb hb=>?_⟩
 ·refine(k.grown.block b (Nat.lt_of_lt_of_le hb h.grown.size) (λe=>?_)).trans (h.grown.block b hb hne);rcases h.own b e.symm with h1|h1
  ·exact hne h1.symm
  ·omega
 ·rcases k.own b hb with h1|h1
  ·exact h.own b h1
  ·exact .inr (Nat.le_trans h.grown.size h1)
theorem Ext.push {w w1:World} {v:Value} {o:Obj} {g n cap:Nat} (hg:(w.alloc o).grownBy w1 v.ownBlock) (hl:v.ownBlock=some g∨g=w.heap.size+1):Ext w v w1 (.slice (some ⟨g,0,none⟩) n cap):=by
 refine⟨⟨hg.os,hg.tape,hg.output,Nat.le_trans σ hg.size,λb hb hne=>?_⟩,λb hb=>?_⟩
 ·exact(hg.block b (by simp;omega) hne).trans (Below.heap_alloc w o b hb)
 ·have hb':g=b:=by simpa[Value.ownBlock] using hb
  subst hb';rcases hl with h|h
  ·exact .inl h
  ·exact .inr ω
theorem Ext.away {w w':World} {v v':Value} (h:Ext w v w' v') {g:Nat} (hg:g<w.heap.size) (hne:v.ownBlock≠some g):w'.heap[g]?=w.heap[g]?/\v'.ownBlock≠some g:=by
 refine⟨h.grown.block g hg (λe=>hne e.symm),λe=>?_⟩;rcases h.own g e with h1|h1
 ·exact hne h1
 ·omega
theorem Ext.below {w w':World} {v v':Value} (h:Ext w v w' v') {base:Nat} {l:Bs} (ho:kL w base v l) (hb:base<=w.heap.size):Below base w w':=
 ⟨h.grown.os,h.grown.tape,h.grown.output,h.grown.size,λk hk=>h.grown.block k ω (λe=>by
  have:=(World.ownsRow.lt ho k e.symm).1;omega)⟩
theorem xNf {P:Program} (w:World) (base:Nat) (t u ty e:TypeId) (i:TypeInfo) (ht:P.underlying t=some (.slice e)) (hu:P.underlying u=some .string) (hi:P.info? e=some i) (hz:i.zero=some (.int .u8 0))
  (hsize:i.size=1) (hby:i.bytes=1) (g n cap:Nat) (xs:List Value) (hown:w.ownsRow base e 1 (.slice (some ⟨g,0,none⟩) n cap) n xs) (s:ByteArray)
  (h63:n+s.size<=maxLen) (hbytes:n+s.size<=140737488355328) (hbase:base<=w.heap.size):
  ∃v' w',(Builtin.append_ #[t,u] ty #[.slice (some ⟨g,0,none⟩) n cap,.string s]).run P w=.ok v' w'/\w'.ownsRow base e 1 v' (n+s.size) (xs++Lib.strCells s)/\w.grownBy w' (some g)/\
   (v'.ownBlock=some g∨v'.ownBlock=some w.heap.size):=by
 obtain⟨v',w',hr,h2,h3,_⟩:=Lib.run_append_own_string (P:=P) w base t u ty e i ht hu hi hz hsize hby _ n xs hown s h63 hbytes hbase;refine⟨v',w',hr,h2,h3,?_⟩;have hsmall:n+s.size<=9223372036854775807:=by simp only[maxLen] at h63;omega
 have hxl:xs.length=n:=by simpa using hown.1
 rcases hown.2 with ⟨h,_⟩|⟨g',cap',cur,h,hbg,hg,hnc,hcm,hcs,htake⟩
 ·cases h
 ·injection h with h h' h'';injection h with h;injection h with h;subst h h''
  by_cases hroom:n+s.size<=cap
  ·have hcs':cur.size=cap:=by simpa using hcs
   have hq:=Lib.run_append_room_string (P:=P) w t u ty e i ht hu hi hsize g n cap cur hg s hroom ω;rw[hq] at hr;injection hr with hv hw;exact .inl (by rw[<-hv];rfl)
  ·have holds:∀j u,xs[j]?=some u->w.cell? ((⟨g,0,none⟩:Addr).add j)=some u:=hown.cells (g:=g) rfl
   have hq:=Lib.run_append_grow_string (P:=P) w t u ty e i (.int .u8 0) ht hu hi hz ⟨g,0,none⟩ n cap xs (by rw[hsize];simpa using hxl) holds s ω ω (by rw[hby];exact growslice_fits ω ω);rw[hq] at hr;injection hr with hv hw;exact .inr (by rw[<-hv];rfl)
theorem xH5 {P:Program} {w:World} {ops:Array Oper} {rest:List Oper} {o:Oper} {a:Act} {Q:Exit->Act->World->Prop} (hgd:o.guard=none) (sl x:Operand) (t u:TypeId)
  (ho:o.op=.call {callee:=.builtin .append,args:=#[sl,x],argTypes:=#[t,u]})
  (base:Nat) (e:TypeId) (i:TypeInfo) (ht:P.underlying t=some (.slice e)) (hu:P.underlying u=some .string) (hi:P.info? e=some i) (hz:i.zero=some (.int .u8 0))
  (hsize:i.size=1) (hby:i.bytes=1)
  (g n cap:Nat) (xs:List Value) (hs:a.eval sl=.slice (some ⟨g,0,none⟩) n cap) (hown:w.ownsRow base e 1 (.slice (some ⟨g,0,none⟩) n cap) n xs) (s:ByteArray) (hx:a.eval x=.string s)
  (h63:n+s.size<=maxLen) (hbytes:n+s.size<=140737488355328) (hbase:base<=w.heap.size)
  (h:∀v' w',w'.ownsRow base e 1 v' (n+s.size) (xs++Lib.strCells s)->w.grownBy w' (some g)->(v'.ownBlock=some g∨v'.ownBlock=some w.heap.size)->wpList P ops Q rest (a.put o.dst v') w'):wpList P ops Q (o::rest) a w:=by
 refine wpList_plain hgd λK hK=>?_;obtain⟨v',w',hr,h2,h3,h4⟩:=xNf (P:=P) w base t u o.type e i ht hu hi hz hsize hby g n cap xs hown s h63 hbytes hbase;unfold Oper.wp execOp
 simp only[ho,resolve,invoke,builtin,Sem.run_bind,Sem.run_pure,Result.andThen_ok,List.map_toArray,List.map_cons,List.map_nil,hs,hx,hr];exact hK _ _ (h v' w' h2 h3 h4)
theorem Ext.spread {w w1:World} {g n cap:Nat} {v':Value} (hg:w.grownBy w1 (some g)) (hl:v'.ownBlock=some g∨v'.ownBlock=some w.heap.size):Ext w (.slice (some ⟨g,0,none⟩) n cap) w1 v':=by
 refine⟨hg,λb hb=>?_⟩;rcases hl with h|h
 ·exact .inl (by rw[<-hb,h];rfl)
 ·rw[h] at hb;injection hb with hb;exact .inr ω
theorem xB6 (n:Int) (c:Nat) (v:Value) (l:Bs) (w:World) (base:Nat) (ho:kL w base v l) (hb:base<=w.heap.size) (hl:l.length<4294967281) (hc:c<=4):
  Calls prog 71 #[v,.int .i64 n,.int .i64 c] w λe w'=>∃v',e=.returned v'/\kL w' base v' (l++vP n c)/\Ext w v w' v':=by
 obtain⟨i0,hi,hz0,hz1,hz2⟩:=info_parts xIe;have HO:=ι ho;clear ho;go_enter func71,ntmps71;go_wp2
 go_loopw [0,9] (λlv iv wr=>∃k:Nat,k<=c/\iv=.int .i64 k/\Hid (kL wr base lv (l++vP n k))/\Hid (Ext w v wr lv)) (λ_ iv _=>c- (intOf iv).toNat)
 case atStart=>exact⟨0,Nat.zero_le _,rfl,ι (by rw[show vP n 0=[] from rfl,List.append_nil];exact HO.o),ι (Ext.refl _ _)⟩
 case round=>
  obtain⟨k,hk,rfl,hown,xWp⟩:=hrel
  by_cases hlt:k<c
  ·have HL0:=(show(l++vP n k).length=l.length+k by rw[List.length_append,uJ]);obtain⟨L,hL⟩:∃L,l++vP n k=L:=⟨_,rfl⟩;rw[hL] at hown HL0;have HL:=ι HL0;have HLe:=ι hL;clear HL0 hL;have HS:=ι (xVt n k);have HK:=ι (show k<4 by omega)
   go_wp2_with (at_builtin;refine wpList_append_lies _ rfl _ _ 125 rfl base 5 i0 (.int .u8 0) 1 1 underlying125 hi hz0 hz1 hz2 rfl δ _ _ _ rfl (hown.o.alloc _) ⟨wr.heap.size,0,none⟩ 1 1 [.int .u8 (n / 2^(8*k) % 256)] rfl rfl (cell_one_new _ _ _) (xVn _) δ (by have:=HL.o;have:=HK.o;unfold maxLen;omega) (by have:=HL.o;have:=HK.o;omega) (by have:=xWp.o.grown.size;simp;omega) (wr.heap.size+1) σ ?_;intro g cap w1 hown1 hgrow hat hlt1)
   have he2:=xWp.o.trans (Ext.push (n:=L.length+1) (cap:=cap) hgrow hat);have ho2:=ι hown1;clear hown1 hgrow hat
   go_roundw
   case rel=>exact⟨k+1,ω,by go_num,ι (by
    rw[HS.o,<-List.append_assoc,HLe.o];refine kL.of ?_;rw[xIq];exact ho2.o),ι he2⟩
   case measure=>simp[intOf];omega
  ·go_wp2;go_ret;refine⟨_,rfl,?_,xWp.o⟩;rw[show c=k by omega];exact hown.o
theorem xP3 (s:ByteArray) (v:Value) (l:Bs) (w:World) (base:Nat) (ho:kL w base v l) (hb:base<=w.heap.size) (hl:l.length<4294967281) (hs:s.size<=100):
  Calls prog 72 #[v,.string s] w λe w'=>∃v',e=.returned v'/\kL w' base v' (l++rW s.data.toList)/\Ext w v w' v':=by
 obtain⟨i0,hi,hz0,hz1,hz2⟩:=info_parts xIe;have HO:=ι ho;clear ho;go_enter func72,ntmps72;have hsl:s.data.toList.length=s.size:=Array.length_toList;have Hs8:Hid ((((Mailsack.byteOf (s.data.toList.length:Int)).toNat:Int))=(s.size:Int)):=ι (by rw[hsl,xIq];omega)
 have Hsl:=ι hsl;clear hsl
 go_wp2_with (first|(at_builtin;refine wpList_append_lies _ rfl _ _ 125 rfl base 5 i0 (.int .u8 0) 1 1 underlying125 hi hz0 hz1 hz2 rfl δ _ _ _ rfl (HO.o.alloc _) ⟨w.heap.size,0,none⟩ 1 1 [.int .u8 (s.size:Int)] rfl rfl (cell_one_new _ _ _) (xVn _) δ (by unfold maxLen;omega) ω (by simp;omega) (w.heap.size+1) σ ?_;intro g cap w1 hown1 hgrow hat hlt1;have HE:=ι (Ext.push (n:=l.length+1) (cap:=cap) hgrow hat);have HO1:=ι hown1;clear hown1 hgrow hat hlt1)|(at_builtin;refine xH5 rfl _ _ 125 9 rfl base 5 i0 underlying125 underlying9 hi hz0 hz1 hz2 g _ cap _ rfl HO1.o s rfl (by unfold maxLen;omega) ω (by have:=HE.o.grown.size;omega) ?_;intro v2 w2 hown2 hgrow2 hat2;have HE2:=ι (HE.o.trans (Ext.spread (n:=l.length+1) (cap:=cap) hgrow2 hat2));have HO2:=ι hown2;clear hown2 hgrow2 hat2))
 go_ret;refine⟨_,rfl,?_,HE2.o⟩;have h:=HO2.o;unfold kL;rw[show(l++rW s.data.toList).length=l.length+1+s.size by unfold rW;rw[List.length_append,List.length_cons,Hsl.o];omega]
 rw[show(l++rW s.data.toList).map (λc=>Value.int .u8 c.toNat)=l.map (λc=>Value.int .u8 c.toNat)++[.int .u8 (s.size:Int)]++Lib.strCells s by
  unfold rW Lib.strCells;rw[List.map_append,List.map_cons,Hs8.o,List.append_assoc]
  rfl]
 exact h
end Go.Proofs.IX
namespace Mailsack
def xLx (m:xC6):Bs:=vP m.uid 4++vP m.flags 1++vP m.object 4++vP m.size 2
def xWq (b:qR):Bs:=rW b.name++vP b.validity 4++vP b.next 4++vP b.zA.length 1
def yBu (b:qR):Bs:=xWq b++(b.zA.map xLx).flatten
def xZb (x:uQ):Bs:=vP x.given 4++vP x.boxes.length 1++(x.boxes.map yBu).flatten++vP x.subs.length 1++(x.subs.map rW).flatten
def xJd (x:uQ):Bs:=if wP x=true then xZb x else[]
def yBf (x:uQ):Int:=if wP x=true then 0 else 1
theorem xEj (m:xC6):(xLx m).length=11:=by unfold xLx;simp[uJ]
theorem tT (s:Bs):(rW s).length=s.length+1:=rfl
theorem xEk (b:qR):(xWq b).length=b.name.length+10:=by unfold xWq;simp[uJ,tT]
theorem xCy {α:Type} {L:List α} {k:Nat} {x:α} (h:L[k]?=some x) (f:α->Bs):((L.take (k+1)).map f).flatten=((L.take k).map f).flatten++f x:=by
 rw[List.take_add_one,h];simp
theorem kU {α:Type} {L:List α} (f:α->Bs) {c:Nat} (h:∀x∈L,(f x).length<=c) (k:Nat):(((L.take k).map f).flatten).length<=c*k:=by
 induction k with
 |zero=>simp
 |succ k ih=>
  cases e:L[k]? with
  |none=>rw[List.take_add_one,e];simp only[Option.toList,List.append_nil];rw[Nat.mul_succ];omega
  |some x=>
   rw[xCy e,List.length_append,Nat.mul_succ];have:=h x (List.mem_of_getElem? e);omega
theorem xIr {given:Int}:∀{l:List qR} {i:Nat} {p:Bs},rR given l i p=true->∀b∈l,xAd b=true
 |[],_,_,_,_,hb=>by cases hb
 |b::l,i,p,h,b',hb=>by
  unfold rR at h;simp only[Bool.and_eq_true] at h;rcases List.mem_cons.1 hb with rfl|hb
  ·exact h.1.1.1.1
  ·exact xIr h.2 b' hb
theorem xL5:∀{l:List Bs} {i:Nat} {p:Bs},xCg l i p=true->∀s∈l,xAf s=true
 |[],_,_,_,_,hb=>by cases hb
 |b::l,i,p,h,b',hb=>by
  unfold xCg at h;simp only[Bool.and_eq_true] at h;rcases List.mem_cons.1 hb with rfl|hb
  ·exact h.1.1
  ·exact xL5 h.2 b' hb
theorem xLt {s:Bs} (h:xAf s=true):s.length<=16:=by
 unfold xAf at h;simp only[Bool.and_eq_true,decide_eq_true_eq] at h;exact h.1.2
theorem xXw {b:qR} (h:xAd b=true):b.name.length<=16/\b.zA.length<=30:=by
 unfold xAd at h;simp only[Bool.and_eq_true,decide_eq_true_eq] at h;exact⟨xLt h.1.1.1.1,h.1.2⟩
theorem xLg {x:uQ} (h:wP x=true):x.boxes.length<=6/\x.subs.length<=6/\(∀b∈x.boxes,b.name.length<=16/\b.zA.length<=30)/\∀s∈x.subs,s.length<=16:=by
 unfold wP at h;simp only[Bool.and_eq_true,decide_eq_true_eq] at h;exact⟨h.1.1.1.1.1.1.2,h.1.1.1.1.2,λb hb=>xXw (xIr h.1.1.2 b hb),λs hs=>xLt (xL5 h.1.2 s hs)⟩
theorem xGt {b:qR} (h:b.name.length<=16/\b.zA.length<=30):(yBu b).length<=400:=by
 unfold yBu;rw[List.length_append,xEk];have:=kU (L:=b.zA) xLx (c:=11) (λm _=>by rw[xEj];exact Nat.le_refl _) b.zA.length;rw[List.take_length] at this;omega
end Mailsack
namespace Go.Proofs.IX
open Go.RowKit Mailsack MM BU VB
structure xY4 (w1:World) (base g:Nat) (o:Obj) (w:World) (v:Value) (l:Bs):Prop where
 own:kL w base v l
 off:v.ownBlock≠some g
 blk:w.heap[g]?=some o
 below:Below base w1 w
 size:base<=w.heap.size
theorem xY4.step {w1 w w':World} {base g:Nat} {o:Obj} {v v':Value} {l l':Bs} (h:xY4 w1 base g o w v l) (ho:kL w' base v' l') (he:Ext w v w' v'):xY4 w1 base g o w' v' l':=by
 have ha:=he.away (xH h.blk) h.off;exact⟨ho,ha.2,ha.1.trans h.blk,h.below.trans (he.below h.own h.size),Nat.le_trans h.size he.grown.size⟩
theorem xY4.begin {w1 wr:World} {base:Nat} {v:Value} {l:Bs} (ho:kL wr base v l) (hb:Below base w1 wr) (hs:base<=wr.heap.size) (o:Obj):xY4 w1 base wr.heap.size o (wr.alloc o) v l:=
 ⟨ho.alloc o,λe=>by have:=(World.ownsRow.lt ho _ e).2;omega,xM wr o,⟨hb.os,hb.tape,hb.output,Nat.le_trans hb.size σ,λk hk=>(Below.heap_alloc wr o k ω).trans (hb.block k hk)⟩,by simp;omega⟩
theorem jT {w1 w:World} {base g:Nat} {o:Obj} {v:Value} {l:Bs} (n:Int) (c:Nat) (h:xY4 w1 base g o w v l) (hl:l.length<4294967281) (hc:c<=4):
  Calls prog 71 #[v,.int .i64 n,.int .i64 c] w λe w'=>∃v',e=.returned v'/\xY4 w1 base g o w' v' (l++vP n c):=by
 refine(xB6 n c v l w base h.own h.size hl hc).mono ?_;rintro e w' ⟨v',rfl,h1,h2⟩;exact⟨v',rfl,h.step h1 h2⟩
theorem xUs {w1 w:World} {base g:Nat} {o:Obj} {v:Value} {l:Bs} (s:Bs) (h:xY4 w1 base g o w v l) (hl:l.length<4294967281) (hs:s.length<=100):
  Calls prog 72 #[v,xR s] w λe w'=>∃v',e=.returned v'/\xY4 w1 base g o w' v' (l++rW s):=by
 refine(xP3 ⟨s.toArray⟩ v l w base h.own h.size hl hs).mono ?_;rintro e w' ⟨v',rfl,h1,h2⟩;exact⟨v',rfl,h.step h1 h2⟩
theorem xFz (bv sv:Value) (x:uQ) (w:World) (h:xKp w w.heap.size bv sv x) (hm:∀b∈x.boxes,b.zA.length<=9223372036854775807) (hl:x.boxes.length<=9223372036854775807) (hl2:x.subs.length<=9223372036854775807):
  Calls prog 29 #[.agg #[bv,sv,.int .i64 x.given]] w λe w'=>e=.returned (.tuple #[xR (xJd x),.int .i64 (yBf x)])/\ψ w w':=by
 have HB:=ι h.boxes;have HS:=ι h.subs;have H1:=ι (φ w (.cells #[bv,sv,.int .i64 x.given] 28));have P1:=ι (xM w (.cells #[bv,sv,.int .i64 x.given] 28));have S1:=ι (vD w (.cells #[bv,sv,.int .i64 x.given] 28))
 have HR:Hid (Calls prog 23 #[.agg #[bv,sv,.int .i64 x.given]] (w.alloc (.cells #[bv,sv,.int .i64 x.given] 28)) λe w'=>e=.returned (.bool (wP x))/\Below (w.alloc (.cells #[bv,sv,.int .i64 x.given] 28)).heap.size (w.alloc (.cells #[bv,sv,.int .i64 x.given] 28)) w'):=
  ι (kD bv sv x _ ((h.below H1.o ν).more H1.o.size) hm hl hl2)
 obtain⟨A,c,rfl,hc,_⟩:=h.boxes;obtain⟨A2,c2,rfl,hc2,_⟩:=h.subs;clear h hm;have HT:Hid (xJd x=if wP x=true then xZb x else[]):=ι rfl;have HE:Hid (yBf x=if wP x=true then 0 else 1):=ι rfl;generalize xJd x=T at HT⊢;generalize yBf x=E at HE⊢;have HL:=ι (xLg (x:=x))
 generalize wP x=R at HR HT HE HL;cases R with
 |false=>
  go_enter func29,ntmps29;go_wp2_with (go_at_call 23;refine HR.o.mono ?_;rintro e w2 ⟨rfl,hb2⟩)
  go_ret2;refine⟨?_,H1.o.trans (hb2.mono H1.o.size)⟩;rw[HT.o,HE.o]
  rfl
 |true=>
  obtain⟨h6,h6',hbx,hsx⟩:=HL.o rfl
  replace HT:Hid (T=xZb x):=ι (by rw[HT.o];rfl)
  replace HE:Hid (E=0):=ι (by rw[HE.o];rfl)
  clear HL;have HBX:=ι hbx;have HSX:=ι hsx;clear hbx hsx;obtain⟨P,hP⟩:∃P:Nat->Bs,∀k,P k=vP x.given 4++vP x.boxes.length 1++((x.boxes.take k).map yBu).flatten:=⟨_,λ_=>rfl⟩;have HP0:Hid (P 0=vP x.given 4++vP x.boxes.length 1):=ι (by rw[hP];simp)
  have HPS:Hid (∀k b,x.boxes[k]?=some b->P (k+1)=P k++yBu b):=ι (λk b hb=>by rw[hP,hP,xCy hb];simp only[List.append_assoc])
  have HPL:Hid (∀k,(P k).length<=5+400*k):=ι (λk=>by
   rw[hP,List.length_append,List.length_append,uJ,uJ];have:=kU (L:=x.boxes) yBu (c:=400) (λb hb=>xGt (HBX.o b hb)) k;omega)
  have HPE:Hid (xZb x=P x.boxes.length++vP x.subs.length 1++(x.subs.map rW).flatten):=ι (by rw[hP,List.take_length];rfl);clear hP;go_enter func29,ntmps29;go_wp2_with fail
  refine HR.o.mono ?_;rintro e w2 ⟨rfl,hb2⟩;have p2:=xD P1.o hb2 (by rw[S1.o];omega);have y2:w2.cell? ⟨w.heap.size,2,none⟩=some (.int .i64 x.given):=xA p2 2;have HB2:=ι hb2;clear hb2;have y0:w2.cell? ⟨w.heap.size,0,none⟩=some (.slice A x.boxes.length c):=xA p2 0;clear p2 HR
  go_wp2_with fail
  refine(xB6 x.given 4 _ [] w2 (w.alloc (.cells #[.slice A x.boxes.length c,.slice A2 x.subs.length c2,.int .i64 x.given] 28)).heap.size (kL.nil _ _) HB2.o.size δ δ).mono ?_;rintro e w3 ⟨v3,rfl,ho3,he3⟩;have hb3:=HB2.o.trans (he3.below (kL.nil _ _) HB2.o.size)
  have p3:=xD P1.o hb3 (by rw[S1.o];omega);have y0':w3.cell? ⟨w.heap.size,0,none⟩=some (.slice A x.boxes.length c):=xA p3 0;have HB3:=ι hb3;have HO3:=ι ho3;clear hb3 he3 ho3 p3 y0 y2 HB2;go_wp2_with fail
  refine(xB6 x.boxes.length 1 _ _ w3 (w.alloc (.cells #[.slice A x.boxes.length c,.slice A2 x.subs.length c2,.int .i64 x.given] 28)).heap.size HO3.o HB3.o.size (by simp[uJ]) δ).mono ?_;rintro e w4 ⟨v4,rfl,ho4,he4⟩;have hb4:=HB3.o.trans (he4.below HO3.o HB3.o.size)
  have p4:=xD P1.o hb4 (by rw[S1.o];omega);have y0:w4.cell? ⟨w.heap.size,0,none⟩=some (.slice A x.boxes.length c):=xA p4 0;have HB4:=ι hb4
  have HO4:Hid (kL w4 (w.alloc (.cells #[.slice A x.boxes.length c,.slice A2 x.subs.length c2,.int .i64 x.given] 28)).heap.size v4 (P 0)):=ι (by rw[HP0.o];exact ho4);clear hb4 he4 ho4 p4 y0' HB3 HO3;go_wp2_with fail
  go_loopw [4,25] (λlv iv wr=>∃k:Nat,k<=x.boxes.length/\iv=.int .i64 k/\Hid (kL wr (w.alloc (.cells #[.slice A x.boxes.length c,.slice A2 x.subs.length c2,.int .i64 x.given] 28)).heap.size lv (P k))/\Hid (Below (w.alloc (.cells #[.slice A x.boxes.length c,.slice A2 x.subs.length c2,.int .i64 x.given] 28)).heap.size (w.alloc (.cells #[.slice A x.boxes.length c,.slice A2 x.subs.length c2,.int .i64 x.given] 28)) wr)) (λ_ iv _=>x.boxes.length- (intOf iv).toNat)
  case atStart=>exact⟨0,Nat.zero_le _,rfl,HO4,HB4⟩
  case round=>
   obtain⟨k,hk,rfl,hown,hbel⟩:=hrel;clear HO4 HB4 y0
   by_cases hlt:k<x.boxes.length
   ·obtain⟨b,hx⟩:∃b,x.boxes[k]?=some b:=⟨_,List.getElem?_eq_getElem hlt⟩;obtain⟨g,off,c',mv,e0,hg,q0,q1,q2,q3,hmv⟩:=xFb HB.o hx;injection e0 with e0 _ e0';subst e0 e0';have hwr:ψ w wr:=H1.o.trans (hbel.o.mono H1.o.size);have r0:=(hwr.cell (p:=⟨g,off+k*4,none⟩) hg).trans q0
    have r1:=(hwr.cell (p:=⟨g,off+k*4+1,none⟩) hg).trans q1;have r2:=(hwr.cell (p:=⟨g,off+k*4+2,none⟩) hg).trans q2;have r3:=(hwr.cell (p:=⟨g,off+k*4+3,none⟩) hg).trans q3;obtain⟨hbn,hbm⟩:=HBX.o b (List.mem_of_getElem? hx);have HSt:=ι (HPS.o k b hx);have HLk:=ι (HPL.o k)
    have hmv':=hmv;obtain⟨Am,cm,rfl,hcm,_⟩:=hmv';have HMv:=ι hmv;have Hwr:=ι hwr;have HH:=ι (xY4.begin hown.o hbel.o hbel.o.size (.cells #[xR b.name,.int .i64 b.validity,.int .i64 b.next,.slice Am b.zA.length cm] 39));clear q0 q1 q2 q3 hmv hwr hx;go_wp2_with fail
    refine(xUs b.name HH.o (by have:=HLk.o;omega) ω).mono ?_;rintro e w5 ⟨v5,rfl,hh5⟩;have HL5:Hid ((P k++rW b.name).length<=5+400*k+17):=ι (by rw[List.length_append,tT];have:=HLk.o;omega);have HH5:=ι hh5
    have z1:w5.cell? ⟨wr.heap.size,1,none⟩=some (.int .i64 b.validity):=xA hh5.blk 1;clear hh5 HH r0 r1 r2 r3;go_wp2_with fail
    refine(jT b.validity 4 HH5.o (by have:=HL5.o;omega) δ).mono ?_;rintro e w6 ⟨v6,rfl,hh6⟩;have HL6:Hid ((P k++rW b.name++vP b.validity 4).length<=5+400*k+21):=ι (by rw[List.length_append,uJ];have:=HL5.o;omega);have HH6:=ι hh6
    have z2:w6.cell? ⟨wr.heap.size,2,none⟩=some (.int .i64 b.next):=xA hh6.blk 2;clear hh6 HH5 z1 HL5;go_wp2_with fail
    refine(jT b.next 4 HH6.o (by have:=HL6.o;omega) δ).mono ?_;rintro e w7 ⟨v7,rfl,hh7⟩;have HL7:Hid ((P k++rW b.name++vP b.validity 4++vP b.next 4).length<=5+400*k+25):=ι (by rw[List.length_append,uJ];have:=HL6.o;omega);have HH7:=ι hh7
    have z3:w7.cell? ⟨wr.heap.size,3,none⟩=some (.slice Am b.zA.length cm):=xA hh7.blk 3;clear hh7 HH6 z2 HL6;go_wp2_with fail
    refine(jT b.zA.length 1 HH7.o (by have:=HL7.o;omega) δ).mono ?_;rintro e w8 ⟨v8,rfl,hh8⟩;have HH8:=ι hh8;have z3':w8.cell? ⟨wr.heap.size,3,none⟩=some (.slice Am b.zA.length cm):=xA hh8.blk 3;clear hh8 HH7 z3 HL7
    obtain⟨M,hM⟩:∃M:Nat->Bs,∀j,M j=P k++xWq b++((b.zA.take j).map xLx).flatten:=⟨_,λ_=>rfl⟩;have HM0:Hid (M 0=P k++rW b.name++vP b.validity 4++vP b.next 4++vP b.zA.length 1):=ι (by rw[hM];unfold xWq;simp[List.append_assoc])
    have HMS:Hid (∀j m,b.zA[j]?=some m->M (j+1)=M j++xLx m):=ι (λj m hm=>by rw[hM,hM,xCy hm];simp only[List.append_assoc])
    have HML:Hid (∀j,(M j).length<=5+400*k+26+11*j):=ι (λj=>by
     rw[hM,List.length_append,List.length_append,xEk];have:=kU (L:=b.zA) xLx (c:=11) (λm _=>by rw[xEj];exact Nat.le_refl _) j;have:=HLk.o;omega)
    have HME:Hid (P (k+1)=M b.zA.length):=ι (by rw[HSt.o,hM,List.take_length];unfold yBu;simp only[List.append_assoc]);clear hM;have HB8:=ι HH8.o.below
    have HO8:Hid (kL w8 (w.alloc (.cells #[.slice (some ⟨g,off,none⟩) x.boxes.length c,.slice A2 x.subs.length c2,.int .i64 x.given] 28)).heap.size v8 (M 0)):=ι (by rw[HM0.o];exact HH8.o.own);clear HH8;go_wp2_with fail
    go_loopw [4,49] (λlv iv wr=>∃j:Nat,j<=b.zA.length/\iv=.int .i64 j/\Hid (kL wr (w.alloc (.cells #[.slice (some ⟨g,off,none⟩) x.boxes.length c,.slice A2 x.subs.length c2,.int .i64 x.given] 28)).heap.size lv (M j))/\Hid (Below (w.alloc (.cells #[.slice (some ⟨g,off,none⟩) x.boxes.length c,.slice A2 x.subs.length c2,.int .i64 x.given] 28)).heap.size (w.alloc (.cells #[.slice (some ⟨g,off,none⟩) x.boxes.length c,.slice A2 x.subs.length c2,.int .i64 x.given] 28)) wr)) (λ_ iv _=>b.zA.length- (intOf iv).toNat)
    case atStart=>exact⟨0,Nat.zero_le _,rfl,HO8,HB8⟩
    case round=>
     rename_i wq _
     obtain⟨j,hj,rfl,hown2,xHb⟩:=hrel;clear HO8 HB8 z3'
     by_cases hlt2:j<b.zA.length
     ·obtain⟨m,hxm⟩:∃m,b.zA[j]?=some m:=⟨_,List.getElem?_eq_getElem hlt2⟩;obtain⟨A4,c4,e0,_,hrd⟩:=HMv.o;injection e0 with e0 _ e0';subst e0 e0';obtain⟨g4,off4,rfl,hg4,hcell⟩:=hrd ω;obtain⟨q1,q2,q3,q4⟩:=hcell j m hxm;have hwq:ψ w wr:=H1.o.trans (xHb.o.mono H1.o.size)
      have r1:=(hwq.cell (p:=⟨g4,off4+j*4,none⟩) hg4).trans q1;have r2:=(hwq.cell (p:=⟨g4,off4+j*4+1,none⟩) hg4).trans q2;have r3:=(hwq.cell (p:=⟨g4,off4+j*4+2,none⟩) hg4).trans q3;have r4:=(hwq.cell (p:=⟨g4,off4+j*4+3,none⟩) hg4).trans q4
      have HK1:=ι (xY4.begin hown2.o xHb.o xHb.o.size (.cells #[.int .i64 m.uid,.int .i64 m.flags,.int .i64 m.object,.int .i64 m.size] 58));have HMj:=ι (HML.o j);have HMs:=ι (HMS.o j m hxm);clear q1 q2 q3 q4 hcell hrd hxm hwq;go_wp2_with fail
      refine(jT m.uid 4 HK1.o (by have:=HMj.o;omega) δ).mono ?_;rintro e w9 ⟨v9,rfl,hk9⟩;have HL9:Hid ((M j++vP m.uid 4).length<=5+400*k+26+11*j+4):=ι (by rw[List.length_append,uJ];have:=HMj.o;omega);have HK9:=ι hk9
      have z1:w9.cell? ⟨wr.heap.size,1,none⟩=some (.int .i64 m.flags):=xA hk9.blk 1;clear hk9 HK1 r1 r2 r3 r4;go_wp2_with fail
      refine(jT m.flags 1 HK9.o (by have:=HL9.o;omega) δ).mono ?_;rintro e w10 ⟨v10,rfl,hk10⟩;have HL10:Hid ((M j++vP m.uid 4++vP m.flags 1).length<=5+400*k+26+11*j+5):=ι (by rw[List.length_append,uJ];have:=HL9.o;omega);have HK10:=ι hk10
      have z2:w10.cell? ⟨wr.heap.size,2,none⟩=some (.int .i64 m.object):=xA hk10.blk 2;clear hk10 HK9 z1 HL9;go_wp2_with fail
      refine(jT m.object 4 HK10.o (by have:=HL10.o;omega) δ).mono ?_;rintro e w11 ⟨v11,rfl,hk11⟩;have HL11:Hid ((M j++vP m.uid 4++vP m.flags 1++vP m.object 4).length<=5+400*k+26+11*j+9):=ι (by rw[List.length_append,uJ];have:=HL10.o;omega);have HK11:=ι hk11
      have z3:w11.cell? ⟨wr.heap.size,3,none⟩=some (.int .i64 m.size):=xA hk11.blk 3;clear hk11 HK10 z2 HL10;go_wp2_with fail
      refine(jT m.size 2 HK11.o (by have:=HL11.o;omega) δ).mono ?_;rintro e w12 ⟨v12,rfl,hk12⟩;have HK12:=ι hk12;clear hk12 HK11 z3 HL11;go_wp2
      exact⟨⟨j+1,ω,by go_num,ι (by rw[HMs.o];unfold xLx;simp only[<-List.append_assoc];exact HK12.o.own),ι HK12.o.below⟩,by simp[intOf];omega⟩
     ·obtain rfl:j=b.zA.length:=ω;have HOx:Hid (kL wr (w.alloc (.cells #[.slice (some ⟨g,off,none⟩) x.boxes.length c,.slice A2 x.subs.length c2,.int .i64 x.given] 28)).heap.size _ (P (k+1))):=ι (by rw[HME.o];exact hown2.o);go_wp2
      exact⟨⟨k+1,ω,by go_num,HOx,xHb⟩,by simp[intOf];omega⟩
   ·obtain rfl:k=x.boxes.length:=ω;have p5:=xD P1.o hbel.o (by rw[S1.o];omega);have y1:wr.cell? ⟨w.heap.size,1,none⟩=some (.slice A2 x.subs.length c2):=xA p5 1;have HLk:=ι (HPL.o x.boxes.length)
    have HPE1:Hid (xZb x=P x.boxes.length++vP x.subs.length 1++(x.subs.map rW).flatten):=HPE;generalize P x.boxes.length=PB at hown HLk HPE1;clear p5 HPS HPL HP0 HPE;go_wp2_with fail
    refine(xB6 x.subs.length 1 _ _ wr (w.alloc (.cells #[.slice A x.boxes.length c,.slice A2 x.subs.length c2,.int .i64 x.given] 28)).heap.size hown.o hbel.o.size (by have:=HLk.o;omega) δ).mono ?_;rintro e w5 ⟨v5,rfl,ho5,he5⟩
    have hb5:=hbel.o.trans (he5.below hown.o hbel.o.size);have p5:=xD P1.o hb5 (by rw[S1.o];omega);have y1':w5.cell? ⟨w.heap.size,1,none⟩=some (.slice A2 x.subs.length c2):=xA p5 1
    obtain⟨M,hM⟩:∃M:Nat->Bs,∀j,M j=PB++vP x.subs.length 1++((x.subs.take j).map rW).flatten:=⟨_,λ_=>rfl⟩;have HM0:Hid (M 0=PB++vP x.subs.length 1):=ι (by rw[hM];simp)
    have HMS:Hid (∀j s,x.subs[j]?=some s->M (j+1)=M j++rW s):=ι (λj m hm=>by rw[hM,hM,xCy hm];simp only[List.append_assoc])
    have HML:Hid (∀j,(M j).length<=5+400*x.boxes.length+1+17*j):=ι (λj=>by
     rw[hM,List.length_append,List.length_append,uJ];have:=kU (L:=x.subs) rW (c:=17) (λm hm=>by rw[tT];have:=HSX.o m hm;omega) j;have:=HLk.o;omega)
    have HME:Hid (T=M x.subs.length):=ι (by rw[HT.o,HPE1.o,hM,List.take_length]);clear hM;have HB5:=ι hb5;have HO5:Hid (kL w5 (w.alloc (.cells #[.slice A x.boxes.length c,.slice A2 x.subs.length c2,.int .i64 x.given] 28)).heap.size v5 (M 0)):=ι (by rw[HM0.o];exact ho5)
    clear hown hbel y1 ho5 he5 hb5 p5 HPE1 HLk HM0;go_wp2_with fail
    go_loopw [4,79] (λlv iv wr=>∃j:Nat,j<=x.subs.length/\iv=.int .i64 j/\Hid (kL wr (w.alloc (.cells #[.slice A x.boxes.length c,.slice A2 x.subs.length c2,.int .i64 x.given] 28)).heap.size lv (M j))/\Hid (Below (w.alloc (.cells #[.slice A x.boxes.length c,.slice A2 x.subs.length c2,.int .i64 x.given] 28)).heap.size (w.alloc (.cells #[.slice A x.boxes.length c,.slice A2 x.subs.length c2,.int .i64 x.given] 28)) wr)) (λ_ iv _=>x.subs.length- (intOf iv).toNat)
    case atStart=>exact⟨0,Nat.zero_le _,rfl,HO5,HB5⟩
    case round=>
     obtain⟨j,hj,rfl,hown2,xHb⟩:=hrel;clear HO5 HB5 y1'
     by_cases hlt2:j<x.subs.length
     ·obtain⟨s,hxm⟩:∃s,x.subs[j]?=some s:=⟨_,List.getElem?_eq_getElem hlt2⟩;obtain⟨A4,c4,e0,_,hrd⟩:=HS.o;injection e0 with e0 _ e0';subst e0 e0';obtain⟨g,off,rfl,hg,hcell⟩:=hrd ω;have q1:=hcell j s hxm;have hwq:ψ w wr:=H1.o.trans (xHb.o.mono H1.o.size)
      have r1:=(hwq.cell (p:=⟨g,off+j,none⟩) hg).trans q1;have HMj:=ι (HML.o j);have HMs:=ι (HMS.o j s hxm);have hsl:=HSX.o s (List.mem_of_getElem? hxm);clear q1 hcell hrd hxm hwq;go_wp2_with fail
      refine(xP3 ⟨s.toArray⟩ _ _ wr (w.alloc (.cells #[.slice A x.boxes.length c,.slice (some ⟨g,off,none⟩) x.subs.length c2,.int .i64 x.given] 28)).heap.size hown2.o xHb.o.size (by have:=HMj.o;omega) (by show s.length<=100;omega)).mono ?_;rintro e w6 ⟨v6,rfl,ho6,he6⟩
      have HB6:=ι (xHb.o.trans (he6.below hown2.o xHb.o.size));have HO6:=ι ho6;clear ho6 he6;go_wp2;exact⟨⟨j+1,ω,by go_num,ι (by rw[HMs.o];exact HO6.o),HB6⟩,by simp[intOf];omega⟩
     ·obtain rfl:j=x.subs.length:=ω;have hcv:=xXk hown2.o;go_wp2;go_ret2;exact⟨by rw[HME.o,HE.o];rfl,H1.o.trans (xHb.o.mono H1.o.size)⟩
end Go.Proofs.IX
namespace Mailsack
structure RdP where
 rest:Bs
 bad:Bool
def ix0:uQ:=⟨[],[],0⟩
section
variable {α:Type} {v:RdP->α} {t:RdP->RdP} {r0 r:RdP} {k n:Nat} {L:List α}
end
end Mailsack
namespace Go.Proofs.IX
open Go.RowKit Mailsack MM BB SH SV RK DS
section
variable {w W W':World} {g bb:Nat} {n:Bs} {v x:Int} {mv cv:Value} {L:List xC6} {r r':RdP}
end
section
variable {w W W':World} {g bb mb:Nat} {n:Bs} {v x:Int} {mv cv:Value} {L:List xC6} {r r':RdP} {m:xC6}
end
end Go.Proofs.IX
namespace Go.Proofs.IX
open Go.RowKit Mailsack MM BB SH SV RK DS
structure BoxR where
 b:qR
 A:Option Addr
 c:Nat
abbrev BoxR.mv (p:BoxR):Value:=.slice p.A p.b.zA.length p.c
abbrev txF (s:Bs):List Value:=[xR s]
theorem xFj (s:Bs):(txF s).length=1:=rfl
theorem yCf (x:Bs):∀u∈txF x,u.oneCell'=true:=by
 intro u hu;rw[List.mem_singleton.1 hu];rfl
theorem infoTx:(prog.info? 9).map (λi=>(i.zero,i.size,i.bytes))=some (some (.string ⟨#[]⟩),1,16):=κ
theorem tyTx:yBw prog 22 9 1 16 txF:=by
 obtain⟨i,hi,hz,hs,hb⟩:=jA infoTx;exact⟨underlying22,⟨i,_,hi,hz,hs,hb,rfl⟩,ω,ω,xFj,yCf⟩
section
variable {w W W':World} {g xb:Nat} {cb cs ob os:Value} {bl:List BoxR} {sl:List Bs} {n:Int} {r r':RdP}
end
section
variable {w w':World} {base:Nat} {bv sv:Value} {x:uQ}
end
end Go.Proofs.IX
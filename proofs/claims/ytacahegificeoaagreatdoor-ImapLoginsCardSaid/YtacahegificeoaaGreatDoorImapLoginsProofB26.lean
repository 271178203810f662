/- Contracts of functions. Conditions: as stated. -/
import Derived.Test.YtacahegificeoaaGreatDoorImapLoginsProofB25
set_option maxHeartbeats 8000000
set_option maxRecDepth 100000
namespace Go.Proofs.RK
open Go.RowKit MM
section
variable {α:Type} {e:TypeId} {n:Nat} {f:α->List Value}
theorem xQb (hk:∀x,(f x).length=n) (t:α):∀(L:List α) (k:Nat),k<L.length->(L.flatMap f).take (k*n)++f t++(L.flatMap f).drop (k*n+(f t).length)=(L.set k t).flatMap f
 |[],_,h=>by simp at h
 |x::L,0,_=>by
  rw[List.flatMap_cons,Nat.zero_mul,List.take_zero,List.nil_append,Nat.zero_add,hk,List.set_cons_zero,List.flatMap_cons,<-hk x,List.drop_left]
 |x::L,k+1,h=>by
  have ih:=xQb hk t L k (by simpa using h);rw[hk t] at ih
  rw[List.flatMap_cons,List.set_cons_succ,List.flatMap_cons,<-ih,hk t,show(k+1)*n=n+k*n by rw[Nat.succ_mul];omega,List.take_append,List.drop_append,hk x,show n+k*n-n=k*n by omega,show n+k*n+n-n=k*n+n by omega,
   List.take_of_length_le (by rw[hk];omega),List.drop_eq_nil_of_le (by rw[hk];omega)]
  simp
def kN (e:TypeId) (f:α->List Value) (W:World) (g:Nat) (L:List α):Prop:=W.heap[g]?=some (.cells (L.flatMap f).toArray e (0,0))
variable {W W':World} {g:Nat} {L:List α}
theorem kN.blk (h:kN e f W g L):W.heap[g]?=some (.cells (L.flatMap f).toArray e (0,0)):=h
theorem kN.put (hk:∀x,(f x).length=n) (h:kN e f W g L) {k:Nat} (hl:k<L.length) (t:α):kN e f (SV.xU g (k*n) (f t) W) g (L.set k t):=by
 have:=SV.kR (f t) (k*n) W _ h.blk (by
  rw[hk,List.size_toArray,xFd hk];have:=Nat.mul_le_mul_right n hl;rw[Nat.succ_mul] at this;exact this)
 unfold kN;rw[this,<-xQb hk t L k hl]
theorem kN.cell (hk:∀x,(f x).length=n) (h:kN e f W g L) {k i:Nat} {x:α} {u:Value} (hx:L[k]?=some x) (hu:(f x)[i]?=some u):W.cell? ⟨g,k*n+i,none⟩=some u:=by
 rw[xA h.blk,List.getElem?_toArray];exact flat_get hk L k i x u hx hu
theorem kN.free (h:kN e f W g L) (i:Nat):W.frozen? ⟨g,i,none⟩=false:=xC h.blk i
theorem kN.below (h:kN e f W g L) (hb:Below W.heap.size W W'):kN e f W' g L:=xB h.blk hb (xG h.blk)
theorem kN.rd (hk:∀x,(f x).length=n) (h:kN e f W g L) {B:Nat} (hB:g<B) {c:Nat} (hc:L.length<=c):RdR n f W B (.slice (some ⟨g,0,none⟩) L.length c) L:=
 ⟨_,c,rfl,hc,λ_=>⟨g,0,rfl,hB,λj x hx i u hu=>by rw[Nat.zero_add];exact h.cell hk hx hu⟩⟩
theorem xWe (hk:∀x,(f x).length=n) (h0:0<n) (x0:α) (m:Nat):madeCells (f x0).toArray (m*n)=((List.replicate m x0).flatMap f).toArray:=by
 apply Array.ext_getElem?;intro i
 by_cases h:i<m*n
 ·have hm:i % n<n:=Nat.mod_lt _ h0;have hd:i / n<m:=Nat.div_lt_of_lt_mul (by rw[Nat.mul_comm];exact h);obtain⟨u,hu⟩:∃u,(f x0)[i % n]?=some u:=⟨_,List.getElem?_eq_getElem (by rw[hk];exact hm)⟩;have r:=flat_get hk (List.replicate m x0) (i / n) (i % n) x0 u (by simp[hd]) hu
  rw[show i / n*n+i % n=i by rw[Nat.mul_comm];exact Nat.div_add_mod i n] at r;have r2:((List.replicate m x0).flatMap f).toArray[i]?=some u:=by rw[List.getElem?_toArray];exact r
  rw[r2];have hu2:=hu;rw[List.getElem?_eq_getElem (by rw[hk];exact hm)] at hu2;injection hu2 with hu2;simp[madeCells,h,hk,hu2,hm]
 ·rw[Array.getElem?_eq_none (by simp[madeCells];omega),Array.getElem?_eq_none (by rw[List.size_toArray,xFd hk];simp;omega)]
end
end Go.Proofs.RK
namespace Go.Proofs.ST
open Go.RowKit Mailsack MM BB SH SV RK DS
def xR1 (d:Dk) (v:Value) (w:World):Prop:=vY d=true->RdS w w.heap.size v (yG d).secs
theorem xB1 (va vb:Value) (d:Dk) (w:World) (h:RdD w w.heap.size va vb d):
  Calls Tryz.prog 75 #[.agg #[va,vb]] w λe w'=>∃v,e=.returned (.tuple #[v,.bool (vY d)])/\xR1 d v w'/\Below w.heap.size w w':=by
 obtain⟨A1,c1,A2,c2,rfl,rfl⟩:=yE h;have HA:=ι ((Below.refl w.heap.size w).alloc ν (xX (.slice A1 d.secs.length c1) (.slice A2 d.cache.length c2)));have hD0:=xL w (xX (.slice A1 d.secs.length c1) (.slice A2 d.cache.length c2));have HD0:=ι hD0;obtain⟨d0,d1⟩:=zQ hD0;clear hD0
 have HRD:=ι ((h.below HA.o ν).more HA.o.size);have HRT:=ι (wE _ _ d _ HRD.o);have HCP:Hid (vY d=(decide (d.secs.length=381)&&yZ d)):=ι rfl;obtain⟨cv,hcv⟩:∃cv,vY d=cv:=⟨_,rfl⟩;rw[hcv] at HCP⊢;have HQ:=ι hcv;clear hcv h
 by_cases hl:d.secs.length=381
 ·have hli:(d.secs.length:Int)=381:=by omega
  have hlb:((d.secs.length:Int)!=381)=false:=by simp[hli]
  rw[decide_eq_true hl,Bool.true_and] at HCP;clear hl;cases hr:yZ d with
  |false=>
   rw[hr] at HRT HCP;have HCV:=HCP;clear hr HCP;rw[HCV.o];go_enter Tryz.func75,Tryz.ntmps75;go_wp2_with fail
   refine HRT.o.mono ?_;rintro e w1 ⟨rfl,hb⟩;have HB:=ι (HA.o.trans (hb.mono HA.o.size));clear hb d0 d1;go_wp2;go_ret2;exact⟨_,rfl,(λe=>by rw[HQ.o,HCV.o] at e;cases e),HB.o⟩
  |true=>
   rw[hr] at HRT HCP;rw[HCP.o];have HR:=ι hr;clear hr HCP;go_enter Tryz.func75,Tryz.ntmps75;go_wp2_with fail
   refine HRT.o.mono ?_;rintro e w1 ⟨rfl,hb⟩;have HB:=ι (And.intro (HA.o.trans (hb.mono HA.o.size)) ((HRD.o.below hb ν).more hb.size));have h1:=xB HD0.o hb (xG HD0.o);clear hb d0 d1;obtain⟨d0,d1⟩:=zQ h1;clear h1 HD0;have HF:=ι (xGb _ _ d w1 HB.o.2);go_wp2_with fail
   refine HF.o.mono ?_;rintro e w2 ⟨ua,ub,rfl,hr2,_,hb2⟩;obtain⟨A3,c3,A4,c4,rfl,rfl⟩:=yE hr2;have HB2:=ι (And.intro (HB.o.1.trans (hb2.mono HB.o.1.size)) hr2.s)
   have hfld:=λ(W:World)=>(show(Instr.field 25 (.agg #[.slice A3 (yG d).secs.length c3,.slice A4 (yG d).cache.length c4]) 0).run Tryz.prog W=.ok (.slice A3 (yG d).secs.length c3) W from by rfl);clear hr2 hb2 HF HB d0 d1 HRT HRD;go_wp2;go_ret2;exact⟨_,rfl,λ_=>HB2.o.2,HB2.o.1⟩
 ·have hli:¬((d.secs.length:Int)=381):=by omega
  have hlb:((d.secs.length:Int)!=381)=true:=by simp[hli]
  rw[decide_eq_false hl,Bool.false_and] at HCP;rw[HCP.o];clear hl;go_enter Tryz.func75,Tryz.ntmps75;go_wp2;go_ret2;exact⟨_,rfl,(λe=>by rw[HQ.o,HCP.o] at e;cases e),HA.o⟩
theorem xFs (v:Value) (S:List Bs) (w:World) (h:RdS w w.heap.size v S) (hl:S.length=381) (h64:∀s∈S,s.length=64):
  Calls Tryz.prog 76 #[v] w λe w'=>∃g,e=.returned (.slice (some ⟨g,0,none⟩) 32 32)/\w.heap.size<=g/\w'.heap[g]?=some (.cells ((yR S).flatMap qC).toArray 137 (0,0))/\Below w.heap.size w w':=by
 obtain⟨A,c,rfl,hc,hcell⟩:=h;obtain⟨b,off,rfl,hb,hcs⟩:=hcell ω;obtain⟨z,hi,hz,hsz,hby⟩:=vM yEm;have hmk:=run_make (P:=Tryz.prog) (w:=w) 131 137 z _ Tryz.underlying131 hi hz .i64 .i64 (32:Int) (32:Int) ω ω (by rw[hby];omega) ω;simp only[hsz] at hmk
 have hmf:madeCells (Value.cells (.agg #[.bool false,.int .i64 0,.int .i64 0,.int .i64 0,.string ⟨#[]⟩])) ((32:Int).toNat*5)=((List.replicate 32 noSlot).flatMap qC).toArray:=xWe zL ω noSlot 32;rw[hmf] at hmk;clear hmf hi hz hsz hby
 have H0:Hid (kN 137 qC (w.alloc (.cells ((List.replicate 32 noSlot).flatMap qC).toArray 137)) w.heap.size ((yR S).take 0++List.replicate (32-0) noSlot)/\Below w.heap.size w (w.alloc (.cells ((List.replicate 32 noSlot).flatMap qC).toArray 137))):=ι ⟨xL _ _,(Below.refl _ _).alloc ν _⟩
 have HSL:=ι (kQ hl);have HGT:=ι (λk=>pX S k);have HC:=ι hcs;have H64:=ι h64;generalize ((List.replicate 32 noSlot).flatMap qC).toArray=cs0 at hmk H0;have HLL:=ι hl;clear hcs h64 hl hc;go_enter Tryz.func76,Tryz.ntmps76;go_wp2_with fail
 clear hmk;generalize w.alloc (.cells cs0 137)=w1 at H0⊢
 go_loopw [8] (λiv wr=>∃k:Nat,k<=32/\iv=.int .i64 k/\Hid (kN 137 qC wr w.heap.size ((yR S).take k++List.replicate (32-k) noSlot)/\Below w.heap.size w wr)) (λiv _=>32- (intOf iv).toNat)
 case atStart=>exact⟨0,ω,rfl,H0⟩
 case round=>
  obtain⟨k,hk,rfl,HI⟩:=hrel;clear H0
  by_cases hlt:k<32
  ·obtain⟨x,hx⟩:∃x,S[61+k]?=some x:=⟨_,List.getElem?_eq_getElem (by have:=HLL.o;omega)⟩;have q:=(HI.o.2.cell (p:=⟨b,off+(61+k),none⟩) hb).trans (HC.o _ x hx);have hx64:=H64.o x (List.mem_of_getElem? hx)
   have HD:=ι (λW=>xT5 ⟨x.toArray⟩ W (by show x.toArray.size=64;simpa using hx64));have HXS:Hid ((yR S)[k]?=some (xQk x)):=ι (by rw[HGT.o,if_pos hlt,hx];rfl);rw[show(⟨x.toArray⟩:ByteArray).data.toList=x from rfl] at HD;have tn:(61+(k:Int)).toNat=61+k:=by omega
   have t0:(0:Int)<=61+(k:Int):=by omega
   have t1:61+(k:Int)<(S.length:Int):=by have:=HLL.o;omega
   clear hx hx64;go_wp2_with fail
   refine(HD.o _).mono ?_;rintro e w2 ⟨rfl,hb2⟩;have HI2:=ι (And.intro (HI.o.1.below hb2) (HI.o.2.trans (hb2.mono HI.o.2.size)));have hlen:((yR S).take k++List.replicate (32-k) noSlot).length=32:=by simp[HSL.o];omega
   have HNX:Hid (((yR S).take k++List.replicate (32-k) noSlot).set k (xQk x)=(yR S).take (k+1)++List.replicate (32- (k+1)) noSlot):=ι (by
    rw[List.set_append_right _ _ (by rw[List.length_take];omega),List.length_take,HSL.o,show k-min k 32=0 by omega,show 32-k=(32- (k+1))+1 by omega,List.replicate_succ,List.set_cons_zero,List.take_add_one,HXS.o];simp)
   have HPU:=ι (HI2.o.1.put zL (k:=k) (by rw[hlen];exact hlt) (xQk x));have HPB:=ι (xZ (b:=w.heap.size) (B:=w.heap.size) ν (qC (xQk x)) (k*5) w2 HI2.o.2);rw[HNX.o] at HPU;have f:=λi=>HI2.o.1.free i;have f0:=f (k*5);have f1:=f (k*5+1);have f2:=f (k*5+2);have f3:=f (k*5+3)
   have f4:=f (k*5+4);obtain⟨y,hy⟩:∃y,((yR S).take k++List.replicate (32-k) noSlot)[k]?=some y:=⟨_,List.getElem?_eq_getElem (by rw[hlen];exact hlt)⟩;have o0:=HI2.o.1.cell zL (i:=0) hy rfl;have o1:=HI2.o.1.cell zL (i:=1) hy rfl;have o2:=HI2.o.1.cell zL (i:=2) hy rfl
   have o3:=HI2.o.1.cell zL (i:=3) hy rfl;have o4:=HI2.o.1.cell zL (i:=4) hy rfl;rw[Nat.add_zero] at o0;simp only[xU] at HPU HPB;clear f hlen hy HNX HXS HI HI2 hb2 HD q tn t0 t1;generalize xQk x=t at HPU HPB⊢;go_wp2;exact⟨⟨k+1,ω,by go_num,ι ⟨HPU.o,HPB.o⟩⟩,by simp[intOf];omega⟩
  ·obtain rfl:k=32:=by omega
   have HE:Hid ((yR S).take 32++List.replicate (32-32) noSlot=yR S):=ι (by rw[show 32-32=0 by omega,List.take_of_length_le (by rw[HSL.o];omega)];simp);rw[HE.o] at HI;go_wp2;go_ret;exact⟨_,rfl,Nat.le_refl _,HI.o.1,HI.o.2⟩
end Go.Proofs.ST
namespace Mailsack
theorem xM1 {α:Type} {p:α->Bool} {l:List α} {k:Nat} {x:α} (hx:l[k]?=some x) (hp:p x=true) (h:∀y∈l.take k,p y=false):jE p l=k:=
 yEp hx hp λj y hj hy=>h y (by
  have:=(List.getElem?_eq_some_iff.1 hy).1;exact List.mem_of_getElem? (i:=j) (by rw[List.getElem?_take,if_pos hj];exact hy))
end Mailsack
namespace Go.Proofs.ST
open Go.RowKit Mailsack MM BB SH SV RK DS
theorem xM0 (fid:FuncId) (fr:Array Value) (p:Slot->Bool) (v:Value) (l:List Slot) (w:World) (h:RdR 5 qC w w.heap.size v l) (hl:l.length<=100000) (hE:∀args W,(callFunc fid args).run Tryz.prog W=.ok (.enter fid args) W)
  (hp:∀(t:Slot) (W:World),Below w.heap.size w W->Calls Tryz.prog fid (#[xGz t]++fr) W λe w'=>e=.returned (.bool (p t))/\Below W.heap.size W w'):
  Calls Tryz.prog 156 #[v,.func (.func fid) #[] fr] w λe w'=>e=.returned (.int .i64 (jE p l))/\Below w.heap.size w w':=by
 obtain⟨A,c,rfl,hc,hcell⟩:=h;have HL:=ι hcell;have HP:=ι hp;obtain⟨r,hr⟩:∃r,jE p l=r:=⟨_,rfl⟩;rw[hr];have HR:=ι hr;clear hcell hc hp hr;go_enter Tryz.func156,Tryz.ntmps156;go_wp2_with fail
 go_loopw [8] (λiv wr=>∃k:Nat,k<=l.length/\iv=.int .i64 k/\Hid (Below w.heap.size w wr)/\Hid (∀y∈l.take k,p y=false)) (λiv _=>l.length- (intOf iv).toNat)
 case atStart=>exact⟨0,Nat.zero_le _,rfl,ι (Below.refl _ _),ι σ⟩
 case round=>
  obtain⟨k,hk,rfl,HI,HN⟩:=hrel
  by_cases hlt:k<l.length
  ·obtain⟨x,hx⟩:∃x,l[k]?=some x:=⟨_,List.getElem?_eq_getElem hlt⟩;obtain⟨b,off,rfl,hb,hcell⟩:=HL.o ω;have q:=λi u hu=>(HI.o.cell (p:=⟨b,off+k*5+i,none⟩) hb).trans (hcell k x hx i u hu);have q0:wr.cell? ⟨b,off+k*5,none⟩=some (.bool x.used):=q 0 _ rfl
   have q1:wr.cell? ⟨b,off+k*5+1,none⟩=some (.int .i64 x.cls):=q 1 _ rfl;have q2:wr.cell? ⟨b,off+k*5+2,none⟩=some (.int .i64 x.blk):=q 2 _ rfl;have q3:wr.cell? ⟨b,off+k*5+3,none⟩=some (.int .i64 x.size):=q 3 _ rfl;have q4:wr.cell? ⟨b,off+k*5+4,none⟩=some (xO x.name):=q 4 _ rfl
   have HC:=ι (HP.o x wr HI.o);have HX:=ι hx;clear hcell q hx;cases hpx:p x with
   |true=>
    rw[hpx] at HC;have HRK:Hid (r=(k:Int)):=ι (by rw[<-HR.o];exact xM1 HX.o hpx HN.o);clear hpx HR;go_wp2_with (go_at_fn fid;refine HC.o.mono ?_;rintro e w' ⟨rfl,hb'⟩)
    go_ret;exact⟨by rw[HRK.o];rfl,HI.o.trans (hb'.mono HI.o.size)⟩
   |false=>
    rw[hpx] at HC
    have HN2:Hid (∀y∈l.take (k+1),p y=false):=ι (by
     intro y hy;rw[List.take_add_one,HX.o] at hy;rcases List.mem_append.1 hy with hy|hy
     ·exact HN.o y hy
     ·simp at hy;subst hy;exact hpx)
    clear hpx HN;go_wp2_with (go_at_fn fid;refine HC.o.mono ?_;rintro e w' ⟨rfl,hb'⟩;have HB':=ι (HI.o.trans (hb'.mono HI.o.size));clear hb')
    exact⟨⟨k+1,ω,by go_num,HB',HN2⟩,by simp[intOf];omega⟩
  ·obtain rfl:k=l.length:=by omega
   rw[List.take_length] at HN;have HRK:Hid (r=-1):=ι (by rw[<-HR.o];exact xM3 HN.o);clear HR;go_wp2;go_ret;exact⟨by rw[HRK.o];rfl,HI.o⟩
theorem xXh (t:Slot) (n:Bs) (nb:Nat) (w:World) (h:w.heap[nb]?=some (.cells #[xO n] 9 (0,0))):
  Calls Tryz.prog 157 #[xGz t,.pointer (some ⟨nb,0,none⟩)] w λe w'=>e=.returned (.bool (xEh n t))/\Below w.heap.size w w':=by
 obtain⟨u,c,b,s,m⟩:=t;have HB:=ι ((Below.refl w.heap.size w).alloc ν (wO ⟨u,c,b,s,m⟩));have hb:=xL w (wO ⟨u,c,b,s,m⟩);have c0:=xA hb 0;have c4:=xA hb 4;have n0:=xA (xK h (wO ⟨u,c,b,s,m⟩)) 0;simp only[gA,gB,gC] at c0 c4 n0;clear hb h;cases u with
 |false=>
  go_enter Tryz.func157,Tryz.ntmps157;go_wp2;go_ret;exact⟨rfl,HB.o⟩
 |true=>
  have HN:Hid (xEh n ⟨true,c,b,s,m⟩=(m==n)):=ι rfl;cases hq:(m==n) with
  |true=>
   rw[hq] at HN;rw[HN.o];obtain rfl:m=n:=by simpa using hq
   clear hq;go_enter Tryz.func157,Tryz.ntmps157;go_wp2;go_ret;exact⟨rfl,HB.o⟩
  |false=>
   rw[hq] at HN;rw[HN.o];have hq2:¬m=n:=by simpa using hq
   go_enter Tryz.func157,Tryz.ntmps157;go_wp2;go_ret;exact⟨rfl,HB.o⟩
theorem xFe (v:Value) (l:List Slot) (n:Bs) (w:World) (h:RdR 5 qC w w.heap.size v l) (hl:l.length<=100000):
  Calls Tryz.prog 77 #[v,xO n] w λe w'=>e=.returned (.int .i64 (rG l n))/\Below w.heap.size w w':=by
 have HA:=ι ((Below.refl w.heap.size w).alloc ν (.cells #[xO n] 9));have HN:=ι (xL w (.cells #[xO n] 9))
 have HI:=ι (xM0 157 #[.pointer (some ⟨w.heap.size,0,none⟩)] (xEh n) v l (w.alloc (.cells #[xO n] 9)) ((h.below HA.o ν).more HA.o.size) hl (λargs W=>enters_of Tryz.func157 κ rfl args W) (λt W hW=>xXh t n w.heap.size W (xB HN.o hW σ)));have HF:Hid (rG l n=jE (xEh n) l):=ι rfl
 obtain⟨r,hr⟩:∃r,rG l n=r:=⟨_,rfl⟩;rw[hr] at HF⊢;rw[<-HF.o] at HI;clear hr h HF;go_enter Tryz.func77,Tryz.ntmps77;go_wp2_with fail
 refine HI.o.mono ?_;rintro e w1 ⟨rfl,hb⟩;have HB:=ι (HA.o.trans (hb.mono HA.o.size));clear hb HI HA HN;go_wp2;go_ret;exact⟨rfl,HB.o⟩
end Go.Proofs.ST
namespace Mailsack
theorem xDu:∀(xs:List Bs),Go.Lib.join xs []=xs.flatten
 |[]=>rfl
 |[x]=>by simp[Go.Lib.join,List.intercalate,List.intersperse]
 |x::y::l=>by
  have ih:=xDu (y::l);simp only[Go.Lib.join,List.intercalate,List.intersperse,List.flatten_cons] at ih⊢;rw[List.nil_append,ih]
theorem xXg {l:List Bs} (h:∀x∈l,x.length=64):l.flatten.length=64*l.length:=by
 induction l with
 |nil=>rfl
 |cons x l ih=>
  rw[List.flatten_cons,List.length_append,h x (List.mem_cons_self ..),ih λy hy=>h y (List.mem_cons_of_mem _ hy),List.length_cons];omega
end Mailsack
namespace Go.Proofs.ST
open Go.RowKit Mailsack MM BB SH SV RK DS
theorem xLw (b off c:Nat) (S:List Bs) (first n:Nat) (w:World) (hcs:∀(j:Nat) x,S[j]?=some x->w.cell? ⟨b,off+j,none⟩=some (xO x)) (hb:b<w.heap.size) (hn:first+n<=S.length) (h0:n<=100) (hc:n<=c) (h64:∀x∈S,x.length=64):
  Calls Tryz.prog 79 #[.slice (some ⟨b,off+first,none⟩) n c,.string ⟨#[]⟩] w λe w'=>e=.returned (xO ((S.drop first).take n).flatten)/\Below w.heap.size w w':=by
 have hl:((S.drop first).take n).length=n:=by simp;omega
 have e1:((((S.drop first).take n).map λy=>(⟨y.toArray⟩:ByteArray)).map (·.data.toList))=(S.drop first).take n:=by
  rw[List.map_map]
  conv=>rhs;rw[<-List.map_id ((S.drop first).take n)]
  rfl
 have hJ:=Tryz.strings_Join b (off+first) c (((S.drop first).take n).map λy=>(⟨y.toArray⟩:ByteArray)) ⟨#[]⟩ w (λj x hx=>by
  rw[List.getElem?_map] at hx;obtain⟨y,hy,rfl⟩:=Option.map_eq_some_iff.1 hx;have hj:=(List.getElem?_eq_some_iff.1 hy).1;rw[hl] at hj;rw[List.getElem?_take,if_pos hj,List.getElem?_drop] at hy;have:=hcs _ _ hy;rw[<-Nat.add_assoc] at this
  exact this) hb (by rw[List.length_map,hl];omega) (by rw[List.length_map,hl];exact hc) (by
   rw[e1];show(Go.Lib.join _ []).length<=_;rw[xDu,xXg λx hx=>h64 x (List.mem_of_mem_drop (List.mem_of_mem_take hx)),hl];omega)
 rw[e1,List.length_map,hl] at hJ;rw[show(⟨#[]⟩:ByteArray).data.toList=[] from rfl,xDu] at hJ;exact hJ
theorem xJr {d:Dk} (h:vY d=true):(yG d).secs.length=381/\∀s∈(yG d).secs,s.length=64:=by
 unfold vY at h;rw[Bool.and_eq_true,decide_eq_true_eq] at h;have h2:=rY h.2;exact⟨by rw[xT1 h.2];exact h.1,(xCs.1 h2).2.2.1⟩
theorem xZr {S:List Bs} {i:Nat} {t:Slot} (h:(yR S)[i]?=some t):t=noSlot∨(t.used=true/\xQz t):=by
 rw[pX] at h;split at h
 ·obtain⟨s,_,rfl⟩:=Option.map_eq_some_iff.1 h;exact xJz s
 ·cases h
structure GtM (w:World) (gs b off c:Nat) (S:List Bs) (W:World):Prop where
 sl:W.heap[gs]?=some (.cells ((yR S).flatMap qC).toArray 137 (0,0))
 cs:∀(j:Nat) x,S[j]?=some x->W.cell? ⟨b,off+j,none⟩=some (xO x)
 hb:b<W.heap.size
 bel:Below w.heap.size w W
theorem GtM.below {w W W':World} {gs b off c:Nat} {S:List Bs} (h:GtM w gs b off c S W) (hb:Below W.heap.size W W'):GtM w gs b off c S W':=
 ⟨xB h.sl hb (xG h.sl),λj x hx=>(hb.cell (p:=⟨b,off+j,none⟩) h.hb).trans (h.cs j x hx),Nat.lt_of_lt_of_le h.hb hb.size,h.bel.trans (hb.mono h.bel.size)⟩
theorem GtM.drew {w W:World} {gs b off c:Nat} {S:List Bs} (h:GtM w gs b off c S W):GtM w gs b off c S W.drew:=h.below (Below.refl _ _).drew
theorem xOe (va vb:Value) (d:Dk) (n:Bs) (w:World) (h:RdD w w.heap.size va vb d):
  Calls Tryz.prog 28 #[.agg #[va,vb],xO n] w λe w'=>e=.returned (.tuple #[xO (xXc d n),.int .i64 (xQa d n)])/\Below w.heap.size w w':=by
 obtain⟨A1,c1,A2,c2,rfl,rfl⟩:=yE h;have HA:=ι ((Below.refl w.heap.size w).alloc ν (xX (.slice A1 d.secs.length c1) (.slice A2 d.cache.length c2)));have hD0:=xL w (xX (.slice A1 d.secs.length c1) (.slice A2 d.cache.length c2));obtain⟨d0,d1⟩:=zQ hD0;clear hD0
 have HCT:=ι (xB1 _ _ d _ ((h.below HA.o ν).more HA.o.size));have HE:Hid (xQa d n=if vY d=true then(if rG (yR (yG d).secs) n<0 then 6 else 0) else 1):=ι rfl;have HG:Hid (xXc d n=if xQa d n=0 then yDh (yG d).secs (xHr (yR (yG d).secs) (rG (yR (yG d).secs) n)) else[]):=ι rfl
 have HFL:Hid (vY d=true->(yG d).secs.length=381/\∀s∈(yG d).secs,s.length=64):=ι xJr;have HCP:Hid (∀v W,xR1 d v W->vY d=true->RdS W W.heap.size v (yG d).secs):=ι (λv W h=>h);obtain⟨ge,hge⟩:∃ge,xQa d n=ge:=⟨_,rfl⟩;obtain⟨gp,hgp⟩:∃gp,xXc d n=gp:=⟨_,rfl⟩;rw[hge] at HE HG
 rw[hgp] at HG;rw[hge,hgp];clear hge hgp h;cases hc:vY d with
 |false=>
  rw[hc] at HCT HE;rw[if_neg σ] at HE;rw[HE.o,if_neg ω] at HG;rw[HG.o,HE.o];clear hc HE HG HFL HCP;go_enter Tryz.func28,Tryz.ntmps28;go_wp2_with fail
  refine HCT.o.mono ?_;rintro e w1 ⟨v,rfl,_,hb⟩;have HB:=ι (HA.o.trans (hb.mono HA.o.size));clear hb HA HCT d0 d1;go_wp2;go_ret2;exact⟨rfl,HB.o⟩
 |true=>
  have qG:=ι (HFL.o hc);have xTs:=ι (λv W h=>HCP.o v W h hc);rw[hc] at HCT HE;rw[if_pos rfl] at HE;clear hc HFL HCP;generalize (yG d).secs=S at HE HG qG xTs;go_enter Tryz.func28,Tryz.ntmps28;go_wp2_with fail
  refine HCT.o.mono ?_;rintro e w1 ⟨v,rfl,hct,hb⟩;have HRS:=ι (xTs.o v w1 hct);have HB1:=ι (HA.o.trans (hb.mono HA.o.size));clear hct hb HCT xTs d0 d1 HA;have HSO:=ι (xFs v S w1 HRS.o qG.o.1 qG.o.2);obtain⟨A,c,rfl,hlc,hcell⟩:=HRS.o
  obtain⟨b,off,rfl,hb,hcs⟩:=hcell (by rw[qG.o.1];omega);have HCS:=ι (And.intro hb (And.intro hcs hlc));clear hb hcs hlc hcell;go_wp2_with fail
  refine HSO.o.mono ?_;rintro e w2 ⟨gs,rfl,hgs,hsl,hb2⟩;have HM:=ι (show GtM w gs b off c S w2 from⟨hsl,λj x hx=>(hb2.cell (p:=⟨b,off+j,none⟩) HCS.o.1).trans (HCS.o.2.1 j x hx),Nat.lt_of_lt_of_le HCS.o.1 hb2.size,HB1.o.trans (hb2.mono HB1.o.size)⟩);clear hsl hb2 hgs HSO HRS
  have HFD:=ι (xFe (.slice (some ⟨gs,0,none⟩) 32 32) (yR S) n w2 (by
   have:=kN.rd (e:=137) (f:=qC) (n:=5) zL HM.o.sl (B:=w2.heap.size) (xG HM.o.sl) (c:=32) (by rw[kQ qG.o.1];omega);rw[kQ qG.o.1] at this;exact this) (by rw[kQ qG.o.1];omega))
  go_wp2_with fail
  refine HFD.o.mono ?_;rintro e w3 ⟨rfl,hb3⟩;have HM3:=ι (HM.o.below hb3);clear hb3 HM HFD HB1;rcases xDx (yR S) n with ⟨f1,f2⟩|⟨i,t,f1,f2,f3,f4,f5⟩
  ·rw[f1] at HE HG;rw[f1];rw[if_pos ω] at HE;rw[HE.o,if_neg ω] at HG;clear f1 f2;go_wp2;go_ret2;exact⟨by rw[HE.o,HG.o];rfl,HM3.o.bel⟩
  ·rw[f1] at HE HG;rw[f1];rw[if_neg ω] at HE;rw[HE.o,if_pos rfl,xRm f2] at HG
   have hok:xQz t:=by
    rcases xZr f2 with e|⟨_,h⟩
    ·rw[e] at f3;cases f3
    ·exact h
   have HI:Hid (i<32):=ι (by rw[kQ qG.o.1] at f5;exact f5);have hi32:(i:Int)<32:=by have:=HI.o;omega
   have HC1:Hid (∀{W},GtM w gs b off c S W->W.cell? ⟨gs,i*5+1,none⟩=some (.int .i64 t.cls)):=ι (λh=>kN.cell (e:=137) zL h.sl f2 rfl);have HC2:Hid (∀{W},GtM w gs b off c S W->W.cell? ⟨gs,i*5+2,none⟩=some (.int .i64 t.blk)):=ι (λh=>kN.cell (e:=137) zL h.sl f2 rfl)
   have HC3:Hid (∀{W},GtM w gs b off c S W->W.cell? ⟨gs,i*5+3,none⟩=some (.int .i64 t.size)):=ι (λh=>kN.cell (e:=137) zL h.sl f2 rfl);have HSE:=ι (λW=>xFx t.cls t.blk W (by have:=hok.blk;have:=xIg t.cls;omega));have hfl:=yBc hok.blk
   have hcn:countP t.cls=4∨countP t.cls=16:=by unfold countP;split<;>simp
   have hcp:=xYa hok.cls;have hsz:=hok.size;have HRD:Hid (gp=(((S.drop (kP t.cls t.blk)).take (countP t.cls)).flatten).take t.size):=HG
   have HJL:Hid ((((S.drop (kP t.cls t.blk)).take (countP t.cls)).flatten).length=64*countP t.cls):=ι (by
    rw[xXg λx hx=>qG.o.2 x (List.mem_of_mem_drop (List.mem_of_mem_take hx)),List.length_take,List.length_drop,qG.o.1];omega)
   have HJ:=ι (λW (h:GtM w gs b off c S W)=>xLw b off (c-kP t.cls t.blk) S (kP t.cls t.blk) (countP t.cls) W h.cs h.hb (by rw[qG.o.1];exact hfl) ω (by have:=HCS.o.2.2;have:=qG.o.1;omega) qG.o.2);generalize kP t.cls t.blk=fi at HSE hfl HRD HJL HJ
   generalize ((S.drop fi).take (countP t.cls)).flatten=jl at HRD HJL HJ;generalize countP t.cls=cn at HSE hfl hcn hcp HJL HJ;obtain⟨tu,tc,tb,ts,tn⟩:=t;simp only at HC1 HC2 HC3 HSE HRD hcp hsz
   have HBD:Hid (fi+cn<=381/\ts<=64*cn/\cn<=16/\1<=cn/\381<=c):=ι ⟨hfl,ω,ω,ω,by have:=HCS.o.2.2;have:=qG.o.1;omega⟩;clear f1 f2 f3 f4 f5 hok hfl hcn hcp hsz HG;go_upto_region 8 with fail
   refine RG.xP (λW=>Hid (GtM w gs b off c S W)) κ κ (ι HM3.o.drew) ?_;iterate 10 refine RG.dF (λw9 hw9=>have c1:=HC1.o hw9.o;have c2:=HC2.o hw9.o;have c3:=HC3.o hw9.o;And.intro (c1) (And.intro (c2) c3)) ?_
   apply RG.xJ
   ·intro w9 hw9;repeat go_step
    refine(HSE.o _).mono ?_;rintro e w10 ⟨rfl,rfl⟩;simp only[];repeat go_step
    with_reducible exact RG.xD hw9
   ·rfl
   iterate 5 refine RG.dS ?_
   refine RG.xS (λw4 hw4=>?_);clear HM3 HSE;go_upto_region 9 with fail
   have h0:(0:Int)<=(fi:Int):=by omega
   have h1:(fi:Int)<=(fi:Int)+(cn:Int):=by omega
   have h2:(fi:Int)+(cn:Int)<=(c:Int):=by have:=HBD.o;omega
   have h3:(fi:Int)<=381/\(cn:Int)<=16:=by have:=HBD.o;omega
   obtain⟨h3,h4⟩:=h3;have hcf:¬(c=fi):=by have:=HBD.o;omega
   refine RG.xP (λW=>Hid (GtM w gs b off c S W)) κ κ (ι hw4.o.drew) ?_;iterate 6 refine RG.dS ?_
   obtain⟨jb,hjb⟩:∃jb:ByteArray,(⟨jl.toArray⟩:ByteArray)=jb:=⟨_,rfl⟩;have hjs:jb.size=jl.length:=by rw[<-hjb];simp[ByteArray.size]
   have HRS:Hid (xO gp=.string (jb.extract 0 ts)):=ι (by
    rw[HRD.o,<-hjb];show Value.string _=Value.string _
    congr 1
    apply ByteArray.ext;rw[ByteArray.data_extract];apply Array.ext';simp)
   rw[show xO jl=.string jb from by rw[<-hjb]] at HJ;have t0:(ts:Int)<=(jb.size:Int):=by have:=HBD.o;have:=HJL.o;omega
   clear hjb HRD HJL h1 h2 h3 h4 h0;apply RG.xJ
   ·intro w9 hw9;repeat go_step
    with_reducible refine(HJ.o _ hw9.o).mono ?_
    rintro e w10 ⟨rfl,zM⟩;simp only[];repeat go_step
    with_reducible refine RG.xD ?_
    exact ι (hw9.o.below zM)
   ·rfl
   iterate 8 refine RG.dF (λw9 hw9=>HC3.o hw9.o) ?_
   refine RG.xS (λw5 hw5=>?_);go_wp2;go_ret2;exact⟨by rw[HE.o,HRS.o];rfl,hw5.o.bel⟩
end Go.Proofs.ST
namespace Go.Proofs.ST
open Go.RowKit Go.Lib Mailsack MM BB SH SV RK DS
theorem xGw {α:Type} [Inhabited α] {enc:α->Value} {B:Nat} {w0 w:World} {n blk off:Nat} {d:Array α} {os:Array Obj} (h:Below B w0 w) (hB:B<=blk) (hs:blk<w.heap.size):Below B w0 (Sort.grow (Sort.putRow enc (Sort.ahead w n) blk off d) os):=by
 refine h.trans ⟨rfl,rfl,rfl,σ,λk hk=>?_⟩;rw[Sort.heap_grow_old _ _ (by simp;omega)];unfold Sort.putRow Sort.mapBlock;simp only[Sort.heap_ahead,Array.getElem?_modify];rw[if_neg ω]
theorem xTg {α:Type} [Inhabited α] {enc:α->Value} {B:Nat} {w0 w:World} {n blk off:Nat} {d:Array α} (h:Below B w0 w) (hB:B<=blk) (hs:blk<w.heap.size):Below B w0 (Sort.putRow enc (Sort.ahead w n) blk off d):=by
 have:=xGw (enc:=enc) (n:=n) (off:=off) (d:=d) (os:=#[]) h hB hs
 rwa [Sort.grow_empty] at this
theorem xX1 {w:World} {base:Nat} {v:Value} {x:Bs} {xs:List Bs} (h:xR0 w base v (x::xs)):∃g c,v=.slice (some ⟨g,0,none⟩) (x::xs).length c/\(x::xs).length<=c/\base<=g/\g<w.heap.size/\Sort.Holds encStr w g 0 (x::xs).toArray:=by
 rcases h.2 with ⟨_,h2⟩|⟨g,cap,cur,h1,hb,hg,hnc,_,_,htake⟩
 ·simp at h2
 ·refine⟨g,cap,h1,hnc,hb,xG hg,λj hj=>⟨?_,xC hg _⟩⟩
  have:=World.ownsRow.cells h (g:=g) (by rw[h1];rfl) j (xO ((x::xs).toArray[j]!)) (by
   have hj2:j<(x::xs).length:=by simpa using hj
   rw[List.getElem?_map,List.getElem?_eq_getElem hj2];rw[getElem!_pos (x::xs).toArray j (by simpa using hj2)]
   rfl)
  have hadd:(⟨g,0,none⟩:Addr).add j=⟨g,0+j,none⟩:=by unfold Addr.add;split<;>simp_all
  rw[hadd] at this;exact this
theorem xZx {w:World} {B g c n:Nat} {xs:List Bs} (h:∀j,j<xs.length->w.cell? ⟨g,0+j,none⟩=some (xO (xs.toArray[j]!))) (hg:g<B) (hn:n=xs.length) (hc:n<=c):RdS w B (.slice (some ⟨g,0,none⟩) n c) xs:=by
 subst hn;refine⟨_,c,rfl,hc,λ_=>⟨g,0,rfl,hg,λj x hx=>?_⟩⟩;obtain⟨hj,rfl⟩:=List.getElem?_eq_some_iff.1 hx;rw[h j hj,getElem!_pos xs.toArray j (by simpa using hj)]
 rfl
theorem xOq (zs:List Bs):(Go.Lib.compact zs).length<=zs.length:=by
 unfold Go.Lib.compact Go.Lib.compactUpTo;rw[List.length_map];have:=List.length_filter_le (Go.Lib.keeps zs.toArray) (List.range zs.length);simpa using this
theorem xVa {w:World} {base:Nat} {v:Value} {xs:List Bs} (h:xR0 w base v xs) (hl:xs.length<=1000000):
  Calls Tryz.prog 177 #[v] w λe w'=>e=.returned (.tuple #[])/\Below base w w'/\((xs=[]/\v=.slice none 0 0)∨∃g c,v=.slice (some ⟨g,0,none⟩) (tC xs).length c/\(tC xs).length<=c/\base<=g/\g<w'.heap.size/\Sort.Holds encStr w' g 0 (tC xs).toArray):=by
 cases xs with
 |nil=>
  have hv:v=.slice none 0 0∨∃A c,v=.slice A 0 c:=by
   obtain⟨A,c,e,_⟩:=h.form;exact .inr ⟨A,c,e⟩
  rcases h.2 with ⟨hv,_⟩|⟨g,cap,cur,h1,hb,hg,hnc,_⟩
  ·subst hv;refine(Tryz.slices_Sort_string_none none 0 w).mono ?_;rintro e w' ⟨rfl,rfl⟩;exact⟨rfl,Below.refl _ _,.inl ⟨rfl,rfl⟩⟩
  ·subst h1;refine(Tryz.slices_Sort_string_none _ cap w).mono ?_;rintro e w' ⟨rfl,rfl⟩;exact⟨rfl,Below.refl _ _,.inr ⟨g,cap,by simp[tC],by simp[tC],hb,xG hg,λj hj=>by simp[tC] at hj⟩⟩
 |cons x xs=>
  obtain⟨g,c,rfl,hc,hb,hg,hH⟩:=xX1 h;refine(Tryz.slices_Sort_string g 0 c (x::xs) w hH hg ω).mono ?_;rintro e w' ⟨rfl,n,os,rfl⟩;have hls:(tC (x::xs)).length=(x::xs).length:=by unfold tC;exact List.length_mergeSort _
  have hH2:=Sort.holds_putRow encStr (Sort.ahead w n) g 0 (x::xs).toArray (tC (x::xs)).toArray (Sort.holds_ahead _ _ n _ _ _ hH) (by simpa using hls);refine⟨rfl,xGw (Below.refl _ _) hb hg,.inr ⟨g,c,by rw[hls],by rw[hls];exact hc,hb,by simp;omega,?_⟩⟩
  exact Sort.holds_grow _ _ _ _ _ _ (by simpa using hg) hH2
theorem xMf {w:World} {base g c:Nat} {zs:List Bs} (hH:Sort.Holds encStr w g 0 zs.toArray) (hb:base<=g) (hg:g<w.heap.size) (hl:zs.length<=1000000) (hc:zs.length<=c):
  Calls Tryz.prog 178 #[.slice (some ⟨g,0,none⟩) zs.length c] w λe w'=>e=.returned (.slice (some ⟨g,0,none⟩) (Go.Lib.compact zs).length c)/\RdS w' w'.heap.size (.slice (some ⟨g,0,none⟩) (Go.Lib.compact zs).length c) (Go.Lib.compact zs)/\Below base w w':=by
 refine(Tryz.slices_Compact_string g 0 c zs w hH ω hc).mono ?_;rintro e w' ⟨rfl,q,rfl⟩;have hle:=xOq zs;have hsz:(Go.Lib.compact zs++List.replicate (zs.length- (Go.Lib.compact zs).length) ([]:Bs)).length=zs.length:=by simp;omega
 have hH2:=Sort.holds_putRow encStr (Sort.ahead w q) g 0 zs.toArray (Go.Lib.compact zs++List.replicate (zs.length- (Go.Lib.compact zs).length) ([]:Bs)).toArray (Sort.holds_ahead _ _ q _ _ _ hH) (by simpa using hsz)
 refine⟨rfl,xZx (λj hj=>?_) (by simpa using hg) rfl ω,xTg (Below.refl _ _) hb hg⟩;have:=(hH2 j (by simp;omega)).1;rw[this]
 congr 2
 rw[getElem!_pos _ j (by simp;omega),getElem!_pos _ j (by simpa using hj)];simp[List.getElem_append_left hj]
end Go.Proofs.ST
namespace Mailsack
structure uH where
 uid:Int
 flags:Int
 object:Int
 size:Int
structure jV where
 name:Bs
 validity:Int
 next:Int
 yB:List uH
structure yD where
 boxes:List jV
 subs:List Bs
 given:Int
end Mailsack
namespace Go.Proofs.IX
open Go.RowKit Mailsack MM
def vG (w:World) (B:Nat) (v:Value) (L:List uH):Prop:=
 ∃A c,v=.slice A L.length c/\L.length<=c/\(0<L.length->∃b off,A=some ⟨b,off,none⟩/\b<B/\∀(j:Nat) m,L[j]?=some m->
  w.cell? ⟨b,off+j*4,none⟩=some (.int .i64 m.uid)/\w.cell? ⟨b,off+j*4+1,none⟩=some (.int .i64 m.flags)/\w.cell? ⟨b,off+j*4+2,none⟩=some (.int .i64 m.object)/\w.cell? ⟨b,off+j*4+3,none⟩=some (.int .i64 m.size))
theorem vG.keep {w w':World} {B:Nat} {v:Value} {L:List uH} (h:vG w B v L) (hk:∀p:Addr,p.block<B->w'.cell? p=w.cell? p):vG w' B v L:=by
 obtain⟨A,c,h1,h2,h3⟩:=h;refine⟨A,c,h1,h2,λhn=>?_⟩;obtain⟨b,off,h4,h5,h6⟩:=h3 hn;refine⟨b,off,h4,h5,λj m hm=>?_⟩;obtain⟨k1,k2,k3,k4⟩:=h6 j m hm;exact⟨(hk _ h5).trans k1,(hk _ h5).trans k2,(hk _ h5).trans k3,(hk _ h5).trans k4⟩
theorem vG.more {w:World} {B B':Nat} {v:Value} {L:List uH} (h:vG w B v L) (hB:B<=B'):vG w B' v L:=by
 obtain⟨A,c,h1,h2,h3⟩:=h;refine⟨A,c,h1,h2,λhn=>?_⟩;obtain⟨b,off,h4,h5,h6⟩:=h3 hn;exact⟨b,off,h4,ω,h6⟩
def jU (w:World) (B:Nat) (v:Value) (L:List jV):Prop:=
 ∃A c,v=.slice A L.length c/\L.length<=c/\(0<L.length->∃b off,A=some ⟨b,off,none⟩/\b<B/\∀(j:Nat) x,L[j]?=some x->∃mv,
  w.cell? ⟨b,off+j*4,none⟩=some (xO x.name)/\w.cell? ⟨b,off+j*4+1,none⟩=some (.int .i64 x.validity)/\w.cell? ⟨b,off+j*4+2,none⟩=some (.int .i64 x.next)/\w.cell? ⟨b,off+j*4+3,none⟩=some mv/\vG w B mv x.yB)
theorem jU.keep {w w':World} {B:Nat} {v:Value} {L:List jV} (h:jU w B v L) (hk:∀p:Addr,p.block<B->w'.cell? p=w.cell? p):jU w' B v L:=by
 obtain⟨A,c,h1,h2,h3⟩:=h;refine⟨A,c,h1,h2,λhn=>?_⟩;obtain⟨b,off,h4,h5,h6⟩:=h3 hn;refine⟨b,off,h4,h5,λj m hm=>?_⟩;obtain⟨mv,k1,k2,k3,k4,k5⟩:=h6 j m hm;exact⟨mv,(hk _ h5).trans k1,(hk _ h5).trans k2,(hk _ h5).trans k3,(hk _ h5).trans k4,k5.keep hk⟩
theorem jU.more {w:World} {B B':Nat} {v:Value} {L:List jV} (h:jU w B v L) (hB:B<=B'):jU w B' v L:=by
 obtain⟨A,c,h1,h2,h3⟩:=h;refine⟨A,c,h1,h2,λhn=>?_⟩;obtain⟨b,off,h4,h5,h6⟩:=h3 hn;refine⟨b,off,h4,ω,λj m hm=>?_⟩;obtain⟨mv,k1,k2,k3,k4,k5⟩:=h6 j m hm;exact⟨mv,k1,k2,k3,k4,k5.more hB⟩
theorem jU.below {w w':World} {B B':Nat} {v:Value} {L:List jV} (h:jU w B v L) (hb:Below B' w w') (hB:B<=B'):jU w' B v L:=h.keep λ_ hp=>hb.cell ω
theorem vG.below {w w':World} {B B':Nat} {v:Value} {L:List uH} (h:vG w B v L) (hb:Below B' w w') (hB:B<=B'):vG w' B v L:=h.keep λ_ hp=>hb.cell ω
structure xHk (w:World) (B:Nat) (bv sv:Value) (x:yD):Prop where
 boxes:jU w B bv x.boxes
 subs:RdS w B sv x.subs
theorem xHk.below {w w':World} {B B':Nat} {bv sv:Value} {x:yD} (h:xHk w B bv sv x) (hb:Below B' w w') (hB:B<=B'):xHk w' B bv sv x:=⟨h.boxes.below hb hB,h.subs.below hb hB⟩
theorem xHk.more {w:World} {B B':Nat} {bv sv:Value} {x:yD} (h:xHk w B bv sv x) (hB:B<=B'):xHk w B' bv sv x:=⟨h.boxes.more hB,h.subs.more hB⟩
end Go.Proofs.IX
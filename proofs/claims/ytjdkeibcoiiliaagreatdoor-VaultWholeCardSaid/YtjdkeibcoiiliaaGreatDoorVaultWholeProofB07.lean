/- Contracts of functions. Conditions: as stated. -/
import Derived.Test.YtjdkeibcoiiliaaGreatDoorVaultWholeProofB06
open Go.Proofs.Tryz
set_option maxHeartbeats 8000000
set_option maxRecDepth 100000
namespace Mailsack
def xJu (c:List Int):List Int:=c.set 0 (Go.IntKind.u64.wrap (c.getD 0 0+5))
def xM6 (c d:List Int) (o:Int):List Int:=if 0<o then d else c
def xBu (h:List Int):List Int:=xM6 (kW (kW h)) (yZ (xJu (kW (kW h))) 5).1 (yZ (xJu (kW (kW h))) 5).2
theorem xXy (h:List Int):(xBu h).length=h.length:=by
 unfold xBu xM6;split
 ·rw[xBz,xJu,Bf,qJ,qJ]
 ·rw[qJ,qJ]
theorem yH1 {h:List Int} (hh:yT h):yT (xBu h):=by
 unfold xBu xM6;split
 ·exact xGd ((xB8 (xB8 hh)).set 0 (wrap_u64 _)) 5
 ·exact xB8 (xB8 hh)
end Mailsack
namespace Go.Proofs.SH
open Go.RowKit Mailsack MM BB
structure xZ3 (w:World) (c:List Int) (g:Nat) (d:List Int) (W:World):Prop where
 bh:wB W w.heap.size c
 bz:wB W (w.heap.size+1) (List.replicate 5 0)
 bd:wB W g d
 ge:w.heap.size+2<=g
 bel:ψ w W
theorem xZ3.put {w:World} {c:List Int} {g:Nat} {d:List Int} {W:World} (h:xZ3 w c g d W) (i:Nat) (x:Int):xZ3 w c g (d.set i x) (W.setCell (θ g i) (.int .u64 x)):=by
 have hg:=h.ge;exact⟨h.bh.far (p:=θ g i) (by simp only[];omega) _,h.bz.far (p:=θ g i) (by simp only[];omega) _,h.bd.put i x,hg,h.bel.setCell (p:=θ g i) (by simp only[];omega) _⟩
theorem yCb (hs:List Int) (w:World) (hl:hs.length=5) (hu:yT hs):
  Calls prog 206 #[.agg (xI hs)] w (pv (.agg (xI (xBu hs))) w):=by
 have H0:Hid (xP7 w hs ((w.alloc (.cells (xI hs) 273)).alloc (.cells (xI (List.replicate 5 0)) 273))):=ι ⟨zM _ _ _,zI _ _ _,(φ w _).alloc σ _⟩;have HI:Hid ((prog.info? 273).map (·.size)=some (xI hs).size):=ι (xEh hl);have HC1:=ι (λW=>xKh hs W hl hu)
 have HP:Hid (∀n,n=5->xBu hs=xM6 (kW (kW hs)) (yZ (xJu (kW (kW hs))) n).1 (yZ (xJu (kW (kW hs))) n).2):=ι (λn hn=>by rw[hn];rfl);obtain⟨c1,hc1⟩:=eX (kW hs);have h1l:c1.length=5:=by rw[<-hc1,qJ,hl]
 have h1u:yT c1:=hc1▸xB8 hu;rw[hc1] at HC1 HP;have HC2:=ι (λW=>xKh c1 W h1l h1u);obtain⟨c,hc⟩:=eX (kW c1);have hcl:c.length=5:=by rw[<-hc,qJ,h1l]
 have hcu:yT c:=hc▸xB8 h1u;rw[hc] at HC2 HP;have HIc:Hid ((prog.info? 273).map (·.size)=some (xI c).size):=ι (xEh hcl);have HZ1:Hid ((xI hs).size=(xI c).size):=ι (by rw[yB,yB,hl,hcl]);have HZ0:Hid ((xI (List.replicate 5 0)).size=(xI c).size):=ι (by rw[yB,yB,hcl];rfl)
 clear hc hc1 h1l h1u;go_enter func206,ntmps206;go_upto_region 1 with fail
 refine(λ(h:∀W3,Hid (xP7 w hs W3)->Code.wp _ _ _ _ W3)=>h _ H0) ?_;clear H0;intro w3 hw3;refine Bi ?_;refine Ao rfl _ _ rfl w.heap.size rfl _ (xI hs) (0,0) _ hw3.o.st underlying273 rfl HI.o ?_;repeat go_step
 refine cM (HC1.o _) λw4 hb=>?_;have hw4:Hid (xP7 w hs w4):=ι ⟨xC hw3.o.st hb (xH hw3.o.st),xC hw3.o.res hb (xH hw3.o.res),bT hw3.o.bel hb⟩;clear hw3 hb;simp only[]
 rename ∀(a:Act) (w:World),wpList _ _ _ _ a w->_=>hk
 refine hk _ _ ?_;clear hk;repeat go_step
 refine cM (HC2.o _) λw5 hb=>?_;have hw5:Hid (xP7 w hs w5):=ι ⟨xC hw4.o.st hb (xH hw4.o.st),xC hw4.o.res hb (xH hw4.o.res),bT hw4.o.bel hb⟩;clear hw4 hb;simp only[]
 rename ∀(a:Act) (w:World),wpList _ _ _ _ a w->_=>hk
 refine hk _ _ ?_;clear hk;refine Av rfl _ _ _ rfl w.heap.size (xI c) rfl rfl _ _ hw5.o.st HIc.o HZ1.o (yM _) ?_
 have hw6:Hid (xP7 w c (w5.setRow w.heap.size (xI c))):=ι ⟨Bp _ _ _ _ _ _ hw5.o.st,by unfold wB;rw[Bj _ _ _ _ ω];exact hw5.o.res,Bn hw5.o.bel ν _⟩;refine(λ(h:∀W3,Hid (xP7 w c W3)->wpList _ _ _ _ _ W3)=>h _ hw6) ?_;clear hw5 hw6 HC1 HC2 HZ1
 intro w7 hw7;go_upto_region 2 with fail
 refine Bi ?_;refine Ao rfl _ _ rfl w.heap.size rfl _ (xI c) (0,0) _ hw7.o.st underlying273 rfl HIc.o ?_;iterate 3 go_step
 refine Av rfl _ _ _ rfl w7.heap.size (xI c) rfl rfl _ (xI (List.replicate 5 0)) (xJ _ _) HIc.o HZ0.o (yM _) ?_;have hz7:=xH hw7.o.res
 have hw8:Hid (xZ3 w c w7.heap.size c ((w7.alloc (.cells (xI (List.replicate 5 0)) 273)).setRow w7.heap.size (xI c))):=ι ⟨by unfold wB;rw[Bj _ _ _ _ ω];exact xN hw7.o.st _,by unfold wB;rw[Bj _ _ _ _ ω];exact xN hw7.o.res _,Bp _ _ _ _ _ _ (xJ _ _),ω,Bn (hw7.o.bel.alloc hw7.o.bel.size _) ω _⟩
 refine(λ(h:∀W3,Hid (xZ3 w c w7.heap.size c W3)->wpList _ _ _ _ _ W3)=>h _ hw8) ?_;clear hw8;generalize w7.heap.size=g at hz7⊢;clear hw7;intro w8 hw8;obtain⟨a0,a1⟩:=hcu 0;obtain⟨a,ha⟩:=eX (c.getD 0 0);have q0:=hw8.o.bd.cell (i:=0) ω;have y0:=hw8.o.bd.free 0
 obtain⟨t,ht⟩:=eX (xJu c);have HA:Hid (xZ3 w c g (yZ t 0).1 (w8.setCell (θ g 0) (.int .u64 (IntKind.u64.wrap (c.getD 0 0+5))))):=ι (by rw[<-ht];exact hw8.o.put 0 _);have htl:t.length=5:=by rw[<-ht,xJu,Bf,hcl]
 have htu:yT t:=ht▸hcu.set 0 (wrap_u64 _);have HO0:Hid ((yZ t 0).2=0):=ι rfl;rw[ha] at a0 a1 q0 HA;rw[ht] at HP;have HL:Hid (∀i,(yZ t i).1.length=5):=ι (λi=>by rw[xBz,htl]);have HU:=ι (λi=>xGd htu i);have HV:=ι (λi=>xKi t i)
 have HS:Hid (∀i,(yZ t (i+1)).1=(yZ t i).1.set i (bits .and .u64 (IntKind.u64.wrap ((yZ t i).1.getD i 0+(yZ t i).2)) 67108863)/\(yZ t (i+1)).2=IntKind.u64.wrap ((yZ t i).1.getD i 0+(yZ t i).2) / 67108864):=ι (λi=>⟨rfl,rfl⟩);clear ha ht htl htu hw8 hcu hl hu
 go_upto_region 5 with fail
 clear q0 y0 a0 a1;refine(λ(h:∀W3,Hid (xZ3 w c g (yZ t 0).1 W3)->Code.wp _ _ _ _ W3)=>h _ HA) ?_;clear HA;intro w9 hw9;go_wp2_with fail
 go_loopw [4,14] (λov iv wr=>∃i:Nat,i<=5/\iv=.int .i64 i/\ov=.int .u64 (yZ t i).2/\Hid (xZ3 w c g (yZ t i).1 wr)) (λ_ iv _=>5- (intOf iv).toNat)
 case atStart=>exact⟨0,δ,rfl,by rw[HO0.o],hw9⟩
 case round=>
  clear hw9 HO0;obtain⟨i,hi,rfl,rfl,hr⟩:=hrel;obtain⟨v0,v1⟩:=HV.o i
  by_cases hlt:i<5
  ·have hl5:=HL.o i;obtain⟨u0,u1⟩:=HU.o i i;obtain⟨s1,s2⟩:=HS.o i;obtain⟨x1,hx1⟩:=eX ((yZ t (i+1)).1);obtain⟨o1,ho1⟩:=eX ((yZ t (i+1)).2);rw[hx1] at s1;rw[ho1] at s2;have HX1:=ι hx1;have HO1:=ι ho1;clear hx1 ho1;generalize (yZ t i).2=o at v0 v1 s1 s2⊢
   generalize (yZ t i).1=xs at hr hl5 u0 u1 s1 s2;have q0:=hr.o.bd.cell (i:=i) ω;have q1:=hr.o.bd.free i;obtain⟨x,hx⟩:=eX (xs.getD i 0);rw[hx] at q0 u0 u1 s1 s2;obtain⟨z,hz⟩:=eX (IntKind.u64.wrap (x+o));rw[hz] at s1 s2;have hzr:=wrap_u64 (x+o);rw[hz] at hzr
   obtain⟨z0,z1⟩:=hzr;have HZ:=ι hz;have HA:Hid (xZ3 w c g (xs.set i z) (wr.setCell (θ g i) (.int .u64 z))):=ι (hr.o.put i z)
   have HB:Hid (xZ3 w c g x1 ((wr.setCell (θ g i) (.int .u64 z)).setCell (θ g i) (.int .u64 (bits .and .u64 z 67108863)))):=ι (by
    have h:=HA.o.put i (bits .and .u64 z 67108863);rw[List.set_set,<-s1] at h;exact h)
   have HS2:=ι s2
   have HQ:Hid (∀W,Hid (xZ3 w c g (xs.set i z) W)->W.cell? (θ g i)=some (.int .u64 z)/\W.frozen? (θ g i)=false):=ι (λW h=>by
    have q:=h.o.bd.cell (i:=i) (by rw[Bf];omega);rw[Aa,Cw ω] at q;exact⟨q,h.o.bd.free i⟩)
   clear hx hz s1 s2 hr hl5;go_upto_region 9 with fail
   rw[HZ.o];clear q0 q1 u0 u1
   revert HB
   refine(λ(h:∀W3,Hid (xZ3 w c g (xs.set i z) W3)->Hid (xZ3 w c g x1 (W3.setCell (θ g i) (.int .u64 (bits .and .u64 z 67108863))))->Code.wp _ _ _ _ W3)=>h _ HA) ?_;clear HA;intro w3 hw3 HB;obtain⟨q0,q1⟩:=HQ.o w3 hw3;clear HQ;go_wp2;refine⟨⟨i+1,ω,?_,?_,?_⟩,?_⟩
   ·exact Ap (Value.int .i64) ω
   ·rw[HO1.o,HS2.o]
   ·rw[HX1.o];exact HB
   ·simp[intOf];omega
  ·have hi5:i=5:=ω;have hneg:¬((i:Int)<5):=ω;have HF:=ι (HP.o i hi5);have hl5:=HL.o i;generalize (yZ t i).2=o at v0 v1 HF⊢;generalize (yZ t i).1=xs at hr hl5 HF;have HIx:Hid ((prog.info? 273).map (·.size)=some (xI xs).size):=ι (xEh hl5)
   have HZx:Hid ((xI (List.replicate 5 0)).size=(xI xs).size):=ι (by rw[yB,yB,hl5];rfl);have ho:Hid ((0:Int)<o∨¬(0:Int)<o):=ι ω;clear hi5 hlt hi HP HL HU HV HS hl5;rcases ho.o with hp|hp
   ·have HG:Hid (xBu hs=xs):=ι (by rw[HF.o,xM6,Ah hp]);go_upto_region 13 with fail
    refine Bi ?_;refine Ao rfl _ _ rfl g rfl _ (xI xs) (0,0) _ hr.o.bd underlying273 rfl HIx.o ?_;refine Av rfl _ _ _ rfl (w.heap.size+1) (xI xs) rfl rfl _ _ hr.o.bz HIx.o HZx.o (yM _) ?_;go_wp2
    refine Ak (Dn rfl _ _ (w.heap.size+1) _ _ (0,0) _ rfl (Bp _ _ _ _ _ _ hr.o.bz) underlying273 rfl HIx.o) rfl ?_;rw[HG.o];exact⟨rfl,Bn hr.o.bel ω _⟩
   ·have HG:Hid (xBu hs=c):=ι (by rw[HF.o,xM6,Ag hp]);go_upto_region 14 with fail
    refine Bi ?_;refine Ao rfl _ _ rfl w.heap.size rfl _ (xI c) (0,0) _ hr.o.bh underlying273 rfl HIc.o ?_;refine Av rfl _ _ _ rfl (w.heap.size+1) (xI c) rfl rfl _ _ hr.o.bz HIc.o HZ0.o (yM _) ?_;go_wp2
    refine Ak (Dn rfl _ _ (w.heap.size+1) _ _ (0,0) _ rfl (Bp _ _ _ _ _ _ hr.o.bz) underlying273 rfl HIc.o) rfl ?_;rw[HG.o];exact⟨rfl,Bn hr.o.bel ω _⟩
end Go.Proofs.SH
namespace Mailsack
def padB (s:Bs):Bs:=(s++(xO 16).drop s.length).set s.length 1
def rX (s:ByteArray):ByteArray:=if s.size=16 then s else bsA (padB s.data.toList)
theorem yG8 (s:Bs) (h:s.length<=16):(padB s).length=16:=by
 unfold padB;rw[Bf,Aj,Eb,yR];omega
theorem yBj (s:ByteArray) (h:s.size<=16):(rX s).size=16:=by
 unfold rX;split
 ·assumption
 ·have:=yG8 s.data.toList (by simpa using h);simpa[bsA,ByteArray.size] using this
end Mailsack
namespace Go.Proofs.SH
open Go.RowKit Mailsack MM BB
theorem xYk {W:World} {g:Nat} {l:Bs} {t:TypeId} (h:W.heap[g]?=some (.cells (yO l) t (0,0))) (ty:TypeId) (dLen dCap:Nat) (s:ByteArray) (h1:s.size<=dLen) (h2:s.size<=l.length):
  (Builtin.copy_ #[96,9] ty #[.slice (some (θ g 0)) dLen dCap,.string s]).run prog W=.ok (goInt s.size) (W.setRow g (yO (s.data.toList++l.drop s.size))):=by
 have h3:=Lib.run_copy_row_string (P:=prog) W 96 9 ty 5 g 0 dLen dCap s (yO l) _ underlying96 κ h h1 (by rw[wJ];omega)
 have h4:((yO l).toList.take 0++Lib.byteCells s.data.toList++(yO l).toList.drop (0+s.size)).toArray=yO (s.data.toList++l.drop s.size):=by
  simp[yO,Lib.byteCells,List.map_drop]
 rw[h3,h4]
theorem xXk (s:ByteArray) (w:World) (hs:s.size<=16):
  Calls prog 203 #[.string s] w (pv (.string (rX s)) w):=by
 by_cases h16:s.size=16
 ·have HP:Hid (rX s=s):=ι (Ah h16);have h16i:(s.size:Int)=16:=ω;clear h16 hs;go_enter func203,ntmps203;go_wp2;go_ret;rw[HP.o];exact⟨rfl,Aq _ _⟩
 ·have hlt:s.size<16:=ω;have hsl:s.data.toList.length=s.size:=σ;have HP:Hid (rX s=bsA (padB s.data.toList)):=ι (Ag h16);have HB0:Hid ((w.alloc (.cells (yO (xO 16)) 289)).heap[w.heap.size]?=some (.cells (yO (xO 16)) 289 (0,0))):=ι (xJ _ _)
  have HW0:=ι (φ w (.cells (yO (xO 16)) 289));have HB1:=ι (Bp (w.alloc (.cells (yO (xO 16)) 289)) w.heap.size _ (yO (s.data.toList++(xO 16).drop s.size)) _ _ HB0.o);have HW1:=ι (Bn HW0.o ν (yO (s.data.toList++(xO 16).drop s.size)))
  have hll:(s.data.toList++(xO 16).drop s.size).length=16:=by rw[Aj,Eb,yR,hsl];omega
  have HPB:Hid (padB s.data.toList=(s.data.toList++(xO 16).drop s.size).set s.size 1):=ι (by unfold padB;rw[hsl]);have HCP:=ι (xYk HB0.o 3 16 16 s ω (by rw[yR];omega));have h16i:¬((s.size:Int)=16):=ω;clear hs h16;go_enter func203,ntmps203;go_upto_region 4 with fail
  refine Bi ?_;iterate 6 go_step
  refine Gi _ rfl _ _ _ _ rfl _ _ rfl rfl HCP.o ?_;clear HCP HB0 HW0;generalize (w.alloc (.cells (yO (xO 16)) 289)).setRow w.heap.size (yO (s.data.toList++(xO 16).drop s.size))=w1 at HB1 HW1⊢;generalize s.data.toList++(xO 16).drop s.size=l at HB1 hll HPB
  have q0:w1.cell? (θ w.heap.size s.size)=some (.int .u8 ((l.getD s.size 0).toNat:Int)):=by rw[xA HB1.o,xAp ω]
  have q1:=xG HB1.o s.size;generalize ((l.getD s.size 0).toNat:Int)=old at q0
  have HB2:Hid ((w1.setCell (θ w.heap.size s.size) (.int .u8 1)).heap[w.heap.size]?=some (.cells (yO (l.set s.size 1)) 289 (0,0))):=ι (by
   have h:=yD HB1.o s.size (.int .u8 1);rw[show(Value.int .u8 1)=.int .u8 (((1:UInt8)).toNat:Int) from rfl,xW3] at h;exact h)
  have HW2:=ι (HW1.o.setCell (p:=θ w.heap.size s.size) ν (.int .u8 1));have HL2:Hid ((l.set s.size 1).length=16):=ι (by rw[Bf];exact hll);clear HB1 HW1 hll hsl;go_upto_region 6 with fail
  clear q0 q1
  revert HW2
  refine(λ(h:∀W3,Hid (W3.heap[w.heap.size]?=some (.cells (yO (l.set s.size 1)) 289 (0,0)))->Hid (ψ w W3)->Code.wp _ _ _ _ W3)=>h _ HB2) ?_;clear HB2;intro w3 hw3 hb3;have HT:=xFg (t:=289) hw3.o 16 16 HL2.o;generalize l.set s.size 1=l2 at HPB hw3 HL2 HT;go_wp2;go_ret
  rw[HP.o,HPB.o];exact⟨rfl,hb3.o⟩
end Go.Proofs.SH
namespace Mailsack
def finA (l:List Int):Int:=Go.bits .or .u64 (Go.bits .or .u64 (l.getD 0 0) (Go.IntKind.u64.wrap (l.getD 1 0*67108864))) (Go.IntKind.u64.wrap (l.getD 2 0*4503599627370496))
def finB (l:List Int):Int:=Go.bits .or .u64 (Go.bits .or .u64 (l.getD 2 0 / 4096) (Go.IntKind.u64.wrap (l.getD 3 0*16384))) (Go.IntKind.u64.wrap (l.getD 4 0*1099511627776))
def yD3 (s:ByteArray):Int:=Go.bits .or .u64 (vT s 0) (Go.IntKind.u64.wrap (vT s 4*4294967296))
def halfB (s:ByteArray):Int:=Go.bits .or .u64 (vT s 8) (Go.IntKind.u64.wrap (vT s 12*4294967296))
def lowF (l:List Int) (s:ByteArray):Int:=(finA l+yD3 s) % 18446744073709551616
def yG9 (l:List Int) (s:ByteArray):Int:=(finA l+yD3 s) / 18446744073709551616
def yCz (l:List Int) (s:ByteArray):Int:=(finB l+halfB s+yG9 l s) % 18446744073709551616
def rY (lo hi:Int):Nat->Bs
 |0=>xO 16
 |i+1=>((rY lo hi i).set i (oct (lo / 2^(8*i)))).set (8+i) (oct (hi / 2^(8*i)))
theorem xNm (lo hi:Int):∀i,(rY lo hi i).length=16
 |0=>yR 16
 |i+1=>by rw[rY,Bf,Bf,xNm lo hi i]
def finP (l:List Int) (s:ByteArray):ByteArray:=bsA (rY (lowF l s) (yCz l s) 8)
theorem yDg (l:List Int) (s:ByteArray):(finP l s).size=16:=by
 have:=xNm (lowF l s) (yCz l s) 8;simpa[finP,bsA,ByteArray.size] using this
end Mailsack
namespace Go.Proofs.SH
open Go.RowKit Mailsack MM BB
theorem yMe (x y c:Int) (hx:0<=x) (hy:0<=y) (hc0:0<=c) (hc:c<=1) (w:World):
  (callFunc 171 #[.int .u64 x,.int .u64 y,.int .u64 c]).run prog w=
   .ok (.value (.tuple #[.int .u64 ((x+y+c) % 18446744073709551616),.int .u64 ((x+y+c) / 18446744073709551616)])) w:=by
 rw[run_callFunc_extern func171 κ κ κ (e:=add64Entry) κ,run_add64 x y c hx hy hc0 hc]
 rfl
structure FhM (w:World) (hs:List Int) (W:World):Prop where
 bh:wB W w.heap.size hs
 bel:ψ w W
theorem FhM.below {w:World} {hs:List Int} {W W':World} (h:FhM w hs W) (hb:ψ W W'):FhM w hs W':=
 ⟨xC h.bh hb (xH h.bh),bT h.bel hb⟩
theorem xTe (hs:List Int) (s:ByteArray) (w:World) (hl:hs.length=5) (hu:yT hs) (h16:s.size=16):
  Calls prog 205 #[.agg (xI hs),.string s] w (pv (.string (finP hs s)) w):=by
 have W0:Hid (∀W,Calls prog 217 #[.string s,.int .i64 0] W (pv (.int .u64 (vT s 0)) W)):=ι (λW=>xAk s 0 W ω ω);have W4:Hid (∀W,Calls prog 217 #[.string s,.int .i64 4] W (pv (.int .u64 (vT s 4)) W)):=ι (λW=>xAk s 4 W ω ω)
 have W8:Hid (∀W,Calls prog 217 #[.string s,.int .i64 8] W (pv (.int .u64 (vT s 8)) W)):=ι (λW=>xAk s 8 W ω ω);have W12:Hid (∀W,Calls prog 217 #[.string s,.int .i64 12] W (pv (.int .u64 (vT s 12)) W)):=ι (λW=>xAk s 12 W ω ω)
 have HF:Hid (∀n,n=8->finP hs s=bsA (rY (lowF hs s) (yCz hs s) n)):=ι (λn hn=>by rw[hn];rfl);obtain⟨lw,hlw⟩:=eX (lowF hs s);obtain⟨hw,hhw⟩:=eX (yCz hs s);obtain⟨ov,hov⟩:=eX (yG9 hs s);rw[hlw,hhw] at HF;unfold lowF finA yD3 at hlw;unfold yG9 finA yD3 at hov
 have xO5:=hhw;unfold yCz finB halfB at xO5;unfold yG9 finA yD3 at xO5;clear hhw;obtain⟨u00,u01⟩:=xBd s 0;obtain⟨u40,u41⟩:=xBd s 4;obtain⟨u80,u81⟩:=xBd s 8;obtain⟨uc0,uc1⟩:=xBd s 12;obtain⟨y0,hy0⟩:=eX (vT s 0);obtain⟨y4,hy4⟩:=eX (vT s 4)
 obtain⟨y8,hy8⟩:=eX (vT s 8);obtain⟨y12,hy12⟩:=eX (vT s 12);rw[hy0] at W0 u00 u01 hlw hov xO5;rw[hy4] at W4 u40 u41 hlw hov xO5;rw[hy8] at W8 u80 u81 xO5;rw[hy12] at W12 uc0 uc1 xO5;have HM:Hid (FhM w hs (w.alloc (.cells (xI hs) 273))):=ι ⟨xJ _ _,φ w _⟩
 have HM2:Hid (FhM w hs (w.alloc (.cells (xI hs) 273)).drew):=ι ⟨HM.o.bh,HM.o.bel.drew⟩;obtain⟨a,ha⟩:=eX (hs.getD 0 0);obtain⟨b,hb⟩:=eX (hs.getD 1 0);obtain⟨c,hc⟩:=eX (hs.getD 2 0);obtain⟨d,hd⟩:=eX (hs.getD 3 0)
 obtain⟨e,he⟩:=eX (hs.getD 4 0);obtain⟨a0,a1⟩:=ha▸hu 0;obtain⟨b0,b1⟩:=hb▸hu 1;obtain⟨c0,c1⟩:=hc▸hu 2;obtain⟨d0,d1⟩:=hd▸hu 3;obtain⟨e0,e1⟩:=he▸hu 4
 have HQ:Hid (∀W,Hid (FhM w hs W)->W.cell? (θ w.heap.size 0)=some (.int .u64 a)/\W.cell? (θ w.heap.size 1)=some (.int .u64 b)/\W.cell? (θ w.heap.size 2)=some (.int .u64 c)/\W.cell? (θ w.heap.size 3)=some (.int .u64 d)/\W.cell? (θ w.heap.size 4)=some (.int .u64 e)):=ι (λW h=>by
  refine⟨?_,?_,?_,?_,?_⟩
  ·rw[h.o.bh.cell (i:=0) ω,ha]
  ·rw[h.o.bh.cell (i:=1) ω,hb]
  ·rw[h.o.bh.cell (i:=2) ω,hc]
  ·rw[h.o.bh.cell (i:=3) ω,hd]
  ·rw[h.o.bh.cell (i:=4) ω,he])
 rw[ha,hb,hc] at hlw hov;rw[hc,hd,he,ha,hb] at xO5;have HLW:=ι hlw;have HOV:=ι hov;have HHW:=ι xO5;clear hlw hov xO5;clear hu hl h16 ha hb hc hd he hy0 hy4 hy8 hy12;go_enter func205,ntmps205;go_upto_region 1 with fail
 refine RG.xU (λW=>Hid (FhM w hs W)) κ κ HM2 ?_;clear HM HM2
 iterate 11
  apply RG.xL
  ·intro w9 hw9;obtain⟨q0,q1,q2,q3,q4⟩:=HQ.o w9 hw9;repeat go_step
   exact RG.xE hw9
  ·rfl
 apply RG.xL
 ·intro w9 hw9;repeat go_step
  refine(W0.o _).mono ?_;rintro e w10 ⟨rfl,zO⟩;simp only[];repeat go_step
  refine RG.xE ?_;exact ι (hw9.o.below zO)
 ·rfl
 refine RG.dS ?_;apply RG.xL
 ·intro w9 hw9;repeat go_step
  refine(W4.o _).mono ?_;rintro e w10 ⟨rfl,zO⟩;simp only[];repeat go_step
  refine RG.xE ?_;exact ι (hw9.o.below zO)
 ·rfl
 iterate 2 refine RG.dS ?_
 obtain⟨lo,hlo⟩:=eX (bits .or .u64 (bits .or .u64 a (IntKind.u64.wrap (b*67108864))) (IntKind.u64.wrap (c*4503599627370496)));obtain⟨lo0,lo1⟩:=hlo▸zP .or (bits .or .u64 a (IntKind.u64.wrap (b*67108864))) (IntKind.u64.wrap (c*4503599627370496))
 obtain⟨ha,hha⟩:=eX (bits .or .u64 y0 (IntKind.u64.wrap (y4*4294967296)));obtain⟨ha0,ha1⟩:=hha▸zP .or y0 (IntKind.u64.wrap (y4*4294967296));rw[hlo,hha];have HLO:=ι hlo;have HHA:=ι hha;clear hlo hha;have hlw:=HLW.o;have hov:=HOV.o;have xO5:=HHW.o
 rw[HLO.o,HHA.o] at hlw hov xO5;rw[hov] at xO5;clear HLW HOV HHW HLO HHA;have HHW:=ι xO5;have hl0:=xGv (lo+ha);rw[hlw] at hl0;obtain⟨l0,l1⟩:=hl0;have ho0:0<=ov:=ω;have ho1:ov<=1:=ω
 have A1:Hid (∀W,(callFunc 171 #[.int .u64 lo,.int .u64 ha,.int .u64 0]).run prog W=.ok (.value (.tuple #[.int .u64 lw,.int .u64 ov])) W):=ι (λW=>by
  have h:=yMe lo ha 0 lo0 ha0 δ δ W;rw[Int.add_zero,hlw,hov] at h;exact h)
 clear xO5 hlw hov;apply RG.xL
 ·intro w9 hw9;have q9:=A1.o w9;repeat go_step
  exact RG.xE hw9
 ·rfl
 iterate 5 refine RG.dS ?_
 refine RG.xX (λw9 hw9=>?_);clear W0 W4 A1 lo0 lo1 ha0 ha1 a0 a1 b0 b1 u00 u01 u40 u41;go_upto_region 2 with fail
 have HM2:Hid (FhM w hs w9.drew):=ι ⟨hw9.o.bh,hw9.o.bel.drew⟩;refine RG.xU (λW=>Hid (FhM w hs W)) κ κ HM2 ?_;clear HM2 hw9
 iterate 12
  apply RG.xL
  ·intro w9 hw9;obtain⟨q0,q1,q2,q3,q4⟩:=HQ.o w9 hw9;repeat go_step
   exact RG.xE hw9
  ·rfl
 apply RG.xL
 ·intro w9 hw9;repeat go_step
  refine(W8.o _).mono ?_;rintro e w10 ⟨rfl,zO⟩;simp only[];repeat go_step
  refine RG.xE ?_;exact ι (hw9.o.below zO)
 ·rfl
 refine RG.dS ?_;apply RG.xL
 ·intro w9 hw9;repeat go_step
  refine(W12.o _).mono ?_;rintro e w10 ⟨rfl,zO⟩;simp only[];repeat go_step
  refine RG.xE ?_;exact ι (hw9.o.below zO)
 ·rfl
 iterate 3 refine RG.dS ?_
 obtain⟨lo2,hlo⟩:=eX (bits .or .u64 (bits .or .u64 (c / 4096) (IntKind.u64.wrap (d*16384))) (IntKind.u64.wrap (e*1099511627776)));obtain⟨lo0,lo1⟩:=hlo▸zP .or (bits .or .u64 (c / 4096) (IntKind.u64.wrap (d*16384))) (IntKind.u64.wrap (e*1099511627776))
 obtain⟨hb,hhb⟩:=eX (bits .or .u64 y8 (IntKind.u64.wrap (y12*4294967296)));obtain⟨hb0,hb1⟩:=hhb▸zP .or y8 (IntKind.u64.wrap (y12*4294967296));rw[hlo,hhb];have xO5:=HHW.o;rw[hlo,hhb] at xO5;clear hlo hhb HHW;have hh0:=xGv (lo2+hb+ov);rw[xO5] at hh0;obtain⟨h0,h1⟩:=hh0
 obtain⟨ov2,hov2⟩:=eX ((lo2+hb+ov) / 18446744073709551616)
 have A2:Hid (∀W,(callFunc 171 #[.int .u64 lo2,.int .u64 hb,.int .u64 ov]).run prog W=.ok (.value (.tuple #[.int .u64 hw,.int .u64 ov2])) W):=ι (λW=>by
  have h:=yMe lo2 hb ov lo0 hb0 ho0 ho1 W;rw[xO5,hov2] at h;exact h)
 clear xO5 hov2;apply RG.xL
 ·intro w9 hw9;have q9:=A2.o w9;repeat go_step
  exact RG.xE hw9
 ·rfl
 iterate 5 refine RG.dS ?_
 refine RG.xX (λw9 hw9=>?_);clear W8 W12 A2 lo0 lo1 hb0 hb1 c0 c1 d0 d1 e0 e1 u80 u81 uc0 uc1 HQ ho0 ho1
 have HO0:Hid (FhM w hs (w9.alloc (.cells (yO (xO 16)) 289))/\(w9.alloc (.cells (yO (xO 16)) 289)).heap[w9.heap.size]?=some (.cells (yO (rY lw hw 0)) 289 (0,0))/\w.heap.size<w9.heap.size):=ι ⟨⟨xN hw9.o.bh _,hw9.o.bel.alloc hw9.o.bel.size _⟩,xJ _ _,xH hw9.o.bh⟩
 have HOS:Hid (∀i,rY lw hw (i+1)=((rY lw hw i).set i (oct (lw / 2^(8*i)))).set (8+i) (oct (hw / 2^(8*i)))):=ι (λi=>rfl);have HOL:=ι (λi=>xNm lw hw i);go_upto_region 4 with fail
 refine(λ(h:∀W3,Hid (FhM w hs W3/\W3.heap[w9.heap.size]?=some (.cells (yO (rY lw hw 0)) 289 (0,0))/\w.heap.size<w9.heap.size)->Code.wp _ _ _ _ W3)=>h _ HO0) ?_;clear HO0 hw9;generalize w9.heap.size=g;intro w3 hw3;go_wp2_with fail
 go_loopw [53] (λiv W=>∃i:Nat,i<=8/\iv=.int .i64 i/\Hid (FhM w hs W/\W.heap[g]?=some (.cells (yO (rY lw hw i)) 289 (0,0))/\w.heap.size<g)) (λiv _=>8- (intOf iv).toNat)
 case atStart=>exact⟨0,δ,rfl,hw3⟩
 case round=>
  clear hw3
  rename World=>wi
  obtain⟨i,hi,rfl,hr⟩:=hrel
  by_cases hlt:i<8
  ·have HS1:=ι (HOS.o i);have hol:=HOL.o i;generalize rY lw hw i=l at hr HS1 hol;have hg:=hr.o.2.2;have q0:=xA hr.o.2.1 i;rw[xAp ω] at q0;have q1:=xG hr.o.2.1 i;generalize ((l.getD i 0).toNat:Int)=old at q0
   have HA:Hid (FhM w hs (wi.setCell (θ g i) (.int .u8 (lw / 2^(8*i) % 256)))/\(wi.setCell (θ g i) (.int .u8 (lw / 2^(8*i) % 256))).heap[g]?=some (.cells (yO (l.set i (oct (lw / 2^(8*i))))) 289 (0,0))):=ι (by
    refine⟨⟨hr.o.1.bh.far (p:=θ g i) (by simp only[];omega) _,hr.o.1.bel.setCell (p:=θ g i) (by simp only[];omega) _⟩,?_⟩;have h:=yD hr.o.2.1 i (.int .u8 (lw / 2^(8*i) % 256));rw[xG7] at h;exact h)
   have HG:=ι hg;have HL1:Hid ((l.set i (oct (lw / 2^(8*i)))).length=16):=ι (by rw[Bf];exact hol);clear hr hol hg;generalize l.set i (oct (lw / 2^(8*i)))=l1 at HA HS1 HL1;go_upto_region 8 with fail
   clear q0 q1;refine(λ(h:∀W3,Hid (FhM w hs W3/\W3.heap[g]?=some (.cells (yO l1) 289 (0,0)))->Code.wp _ _ _ _ W3)=>h _ HA) ?_;clear HA;intro wk hk;have q0:=xA hk.o.2 (8+i);rw[xAp (by rw[HL1.o];omega)] at q0;have q1:=xG hk.o.2 (8+i)
   generalize ((l1.getD (8+i) 0).toNat:Int)=old at q0
   have HB:Hid (FhM w hs (wk.setCell (θ g (8+i)) (.int .u8 (hw / 2^(8*i) % 256)))/\(wk.setCell (θ g (8+i)) (.int .u8 (hw / 2^(8*i) % 256))).heap[g]?=some (.cells (yO (rY lw hw (i+1))) 289 (0,0))/\w.heap.size<g):=ι (by
    have hg:=HG.o;refine⟨⟨hk.o.1.bh.far (p:=(θ g (8+i))) (by simp only[];omega) _,hk.o.1.bel.setCell (p:=(θ g (8+i))) (by simp only[];omega) _⟩,?_,hg⟩;have h:=yD hk.o.2 (8+i) (.int .u8 (hw / 2^(8*i) % 256));rw[xG7] at h;rw[HS1.o];exact h)
   clear hk HL1;go_wp2;exact⟨⟨i+1,ω,by go_num,HB⟩,by simp[intOf];omega⟩
  ·have hie:i=8:=ω;have HFi:=ι (HF.o i hie);have hneg:¬((i:Int)<8):=ω;have HT:=xFg (t:=289) hr.o.2.1 16 16 (HOL.o i);clear HF HOS HOL hlt hi hie;generalize rY lw hw i=l at hr HFi HT;go_wp2;go_ret;rw[HFi.o];exact⟨rfl,hr.o.1.bel⟩
end Go.Proofs.SH
namespace Mailsack
def xC1 (s:ByteArray):List Int:=if s.size=16 then(uN (rX s)).list.set 4 (Go.IntKind.u64.wrap ((uN (rX s)).e+16777216)) else(uN (rX s)).list
def jQ (h b:List Int):Nat->List Int
 |0=>h
 |i+1=>(jQ h b i).set i (Go.IntKind.u64.wrap ((jQ h b i).getD i 0+b.getD i 0))
theorem xGh (h b:List Int):∀i,(jQ h b i).length=h.length
 |0=>rfl
 |i+1=>by rw[jQ,Bf,xGh h b i]
theorem xRi {h:List Int} (b:List Int) (hh:yT h):∀i,yT (jQ h b i)
 |0=>hh
 |i+1=>(xRi b hh i).set i (wrap_u64 _)
theorem xMs (s:ByteArray):(xC1 s).length=5:=by
 unfold xC1;split<;>simp[L5.list]
theorem xWb (s:ByteArray):yT (xC1 s):=by
 unfold xC1;split
 ·exact(L5.all (xCv _)).set 4 (wrap_u64 _)
 ·exact L5.all (xCv _)
def xAd (n k:Nat):Nat:=if 16*k<=n then 16*k else n
def yIf (n k:Nat):Nat:=if 16<=n-xAd n k then 16 else n-xAd n k
theorem yBq (n k:Nat):xAd n (k+1)=xAd n k+yIf n k:=by
 unfold yIf xAd
 repeat' split
 all_goals omega
theorem yKn (n k:Nat):xAd n k<=n:=by
 unfold xAd;split<;>omega
def xRp (r:List Int) (s:ByteArray):Nat->List Int
 |0=>List.replicate 5 0
 |k+1=>yGs (jQ (xRp r s k) (xC1 (s.extract (xAd s.size k) (xAd s.size k+yIf s.size k))) 5) r
theorem yFp (r:List Int) (s:ByteArray):∀k,(xRp r s k).length=5
 |0=>by simp[xRp]
 |k+1=>by rw[xRp,xNr]
theorem tagI_u (r:List Int) (s:ByteArray):∀k,yT (xRp r s k)
 |0=>xCr 5
 |_+1=>mulP_u _ _
def tagP (key s:ByteArray):ByteArray:=finP (xBu (xRp (tF (key.extract 0 16)).list s ((s.size+15) / 16))) (key.extract 16 32)
theorem yAj (key s:ByteArray):(tagP key s).size=16:=yDg _ _
end Mailsack
namespace Go.Proofs.SH
open Go.RowKit Mailsack MM BB
structure qL (w:World) (g:Nat) (rs hs:List Int) (W:World):Prop where
 br:wB W g rs
 bh:wB W (g+1) hs
 ge:w.heap.size<=g
 bel:ψ w W
theorem qL.below {w:World} {g:Nat} {rs hs:List Int} {W W':World} (h:qL w g rs hs W) (hb:ψ W W'):qL w g rs hs W':=
 ⟨xC h.br hb (xH h.br),xC h.bh hb (xH h.bh),h.ge,bT h.bel hb⟩
theorem qL.put {w:World} {g:Nat} {rs hs:List Int} {W:World} (h:qL w g rs hs W) (i:Nat) (x:Int):qL w g rs (hs.set i x) (W.setCell (θ (g+1) i) (.int .u64 x)):=by
 have hg:=h.ge;exact⟨h.br.far (p:=(θ (g+1) i)) (by simp only[];omega) _,h.bh.put i x,hg,h.bel.setCell (p:=(θ (g+1) i)) (by simp only[];omega) _⟩
theorem yJw (key s:ByteArray) (w:World) (hk:key.size=32) (hs:s.size<=1099511627776):
  Calls prog 162 #[.string key,.string s] w (pv (.tuple #[.string (tagP key s),.bool true]) w):=by
 have hki:(key.size:Int)=32:=ω;have h16:(key.extract 0 16).size=16:=by simp;omega
 have HCL:=ι (λW=>xGb (key.extract 0 16) W h16);have hrl:(tF (key.extract 0 16)).list.length=5:=rfl;have hru:=L5.all (yE4 (key.extract 0 16))
 have HA:Hid (#[Value.int .u64 (tF (key.extract 0 16)).a,Value.int .u64 (tF (key.extract 0 16)).b,Value.int .u64 (tF (key.extract 0 16)).c,Value.int .u64 (tF (key.extract 0 16)).d,Value.int .u64 (tF (key.extract 0 16)).e]=xI (tF (key.extract 0 16)).list):=ι rfl
 have HP:Hid (∀n,n=(s.size+15) / 16->tagP key s=finP (xBu (xRp (tF (key.extract 0 16)).list s n)) (key.extract 16 32)):=ι (λn hn=>by rw[hn];rfl);rw[HA.o] at HCL;clear HA;generalize (tF (key.extract 0 16)).list=rs at HCL hrl hru HP
 have HIr:Hid ((prog.info? 273).map (·.size)=some (xI rs).size):=ι (xEh hrl);have HZr:Hid ((xI (List.replicate 5 0)).size=(xI rs).size):=ι (by rw[yB,yB,hrl];rfl);have HK16:=ι h16;clear h16 hk;go_enter func162,ntmps162;go_upto_region 3 with fail
 refine Bi ?_;repeat go_step
 refine cM (HCL.o _) λw5 hb=>?_;simp only[]
 rename ∀(a:Act) (w:World),wpList _ _ _ _ a w->_=>hk
 refine hk _ _ ?_;clear hk;iterate 3 go_step
 refine Av rfl _ _ _ rfl w5.heap.size (xI rs) rfl rfl _ (xI (List.replicate 5 0)) (xJ _ _) HIr.o HZr.o (yM _) ?_
 have H6:Hid (wB ((w5.alloc (.cells (xI (List.replicate 5 0)) 273)).setRow w5.heap.size (xI rs)) w5.heap.size rs/\w.heap.size<=w5.heap.size/\ψ w ((w5.alloc (.cells (xI (List.replicate 5 0)) 273)).setRow w5.heap.size (xI rs))/\((w5.alloc (.cells (xI (List.replicate 5 0)) 273)).setRow w5.heap.size (xI rs)).heap.size=w5.heap.size+1):=ι ⟨Bp _ _ _ _ _ _ (xJ _ _),hb.size,Bn (hb.alloc hb.size _) hb.size _,by rw[setRow_size,wY]⟩
 refine(λ(h:∀W3,Hid (wB W3 w5.heap.size rs/\w.heap.size<=w5.heap.size/\ψ w W3/\W3.heap.size=w5.heap.size+1)->wpList _ _ _ _ _ W3)=>h _ H6) ?_;clear H6 hb;generalize w5.heap.size=g;intro w6 h6;have hsz:=h6.o.2.2.2
 have H7:Hid (qL w g rs (xRp rs s 0) (w6.alloc (.cells (xI (List.replicate 5 0)) 273))):=ι ⟨xN h6.o.1 _,by have h:=xJ w6 (.cells (xI (List.replicate 5 0)) 273);rw[hsz] at h;exact h,h6.o.2.1,h6.o.2.2.1.alloc h6.o.2.2.1.size _⟩;clear h6;go_wp2_with fail
 clear hsz;refine(λ(h:∀W3,Hid (qL w g rs (xRp rs s 0) W3)->Code.wp _ _ _ _ W3)=>h _ H7) ?_;clear H7;intro w7 h7;have HTS:Hid (∀k n,n=5->xRp rs s (k+1)=yGs (jQ (xRp rs s k) (xC1 (s.extract (xAd s.size k) (xAd s.size k+yIf s.size k))) n) rs):=ι (λk n hn=>by rw[hn];rfl)
 have HTL:=ι (λk=>yFp rs s k);have HTU:=ι (λk=>tagI_u rs s k)
 go_loopw [1] (λtv W=>∃k:Nat,k<=(s.size+15) / 16/\tv=.string (s.extract (xAd s.size k) s.size)/\Hid (qL w g rs (xRp rs s k) W)) (λtv _=>lenOf tv)
 case atStart=>exact⟨0,ω,by simp[xAd],h7⟩
 case round=>
  clear h7
  rename World=>wk
  obtain⟨k,hk,rfl,hr⟩:=hrel;have hoff:=yKn s.size k;have hts:(s.extract (xAd s.size k) s.size).size=s.size-xAd s.size k:=σ
  by_cases hlt:xAd s.size k<s.size
  ·have hz:yIf s.size k=16/\16<=s.size-xAd s.size k∨yIf s.size k=s.size-xAd s.size k/\s.size-xAd s.size k<16:=by unfold yIf;split<;>omega
   have hoz:=yBq s.size k;have HSK:=ι (HTS.o k);have HKB:Hid (k+1<=(s.size+15) / 16):=ι (by unfold xAd at hlt;split at hlt<;>omega);generalize xAd s.size k=o at hoff hts hlt hz hoz HSK⊢;generalize yIf s.size k=z at hz hoz HSK;obtain⟨m,hm⟩:=eX (s.size-o);rw[hm] at hts hz
   have h1:(s.extract o s.size).extract 0 z=s.extract o (o+z):=by
    rw[Eg]
    congr 1
    omega
   have h2:(s.extract o s.size).extract z m=s.extract (o+z) s.size:=by
    rw[Eg]
    congr 1
    omega
   have hcz:(s.extract o (o+z)).size=z:=by simp;omega
   have hzm:Hid (min (16:Int) m=z):=ι ω;have hz16:z<=16:=ω;have hzm2:z<=m:=ω;have hm0:(0:Int)<m:=ω;have HNX:Hid (s.extract (xAd s.size (k+1)) s.size=s.extract (o+z) s.size):=ι (by rw[hoz])
   have HNS:Hid ((s.extract (o+z) s.size).size+z=m/\0<z):=ι (by rw[Az];omega);generalize s.extract (o+z) s.size=nx at h2 HNX HNS;generalize s.extract o (o+z)=ck at h1 hcz HSK;generalize s.extract o s.size=t at hts h1 h2⊢;clear hoff hlt hz hm
   go_upto_region 7 with fail
   rw[hzm.o];clear hzm;have HPD:=ι (λW=>xXk ck W ω);have HSP:=ι (λW=>xPi (rX ck) W (yBj ck ω))
   have HB:Hid (#[Value.int .u64 (uN (rX ck)).a,Value.int .u64 (uN (rX ck)).b,Value.int .u64 (uN (rX ck)).c,Value.int .u64 (uN (rX ck)).d,Value.int .u64 (uN (rX ck)).e]=xI (uN (rX ck)).list):=ι rfl;rw[HB.o] at HSP;clear HB;have hbl:(uN (rX ck)).list.length=5:=rfl
   obtain⟨e0,e1⟩:U64 (uN (rX ck)).e:=(xCv (rX ck)).2.2.2.2;have HE4:Hid ((uN (rX ck)).list.getD 4 0=(uN (rX ck)).e):=ι rfl;have HBK:Hid (xC1 ck=if ck.size=16 then(uN (rX ck)).list.set 4 (IntKind.u64.wrap ((uN (rX ck)).e+16777216)) else(uN (rX ck)).list):=ι rfl
   have hbu:=L5.all (xCv (rX ck));generalize (uN (rX ck)).e=e4 at e0 e1 HE4 HBK;generalize (uN (rX ck)).list=bs at HSP hbl HE4 HBK hbu;have HIb:Hid ((prog.info? 273).map (·.size)=some (xI bs).size):=ι (xEh hbl)
   have HZb:Hid ((xI (List.replicate 5 0)).size=(xI bs).size):=ι (by rw[yB,yB,hbl];rfl);refine Bi ?_;repeat go_step
   refine cM (HPD.o _) λwp1 hb=>?_;have hr1:=ι (hr.o.below hb);clear hr hb HPD;simp only[]
   rename ∀(a:Act) (w:World),wpList _ _ _ _ a w->_=>hkk
   refine hkk _ _ ?_;clear hkk;repeat go_step
   refine cM (HSP.o _) λwp2 hb=>?_;have hr2:=ι (hr1.o.below hb);clear hr1 hb HSP;simp only[]
   rename ∀(a:Act) (w:World),wpList _ _ _ _ a w->_=>hkk
   refine hkk _ _ ?_;clear hkk;iterate 3 go_step
   refine Av rfl _ _ _ rfl wp2.heap.size (xI bs) rfl rfl _ (xI (List.replicate 5 0)) (xJ _ _) HIb.o HZb.o (yM _) ?_;have hgl:=xH hr2.o.bh;have hge:=hr2.o.ge
   have H8:Hid (qL w g rs (xRp rs s k) ((wp2.alloc (.cells (xI (List.replicate 5 0)) 273)).setRow wp2.heap.size (xI bs))/\wB ((wp2.alloc (.cells (xI (List.replicate 5 0)) 273)).setRow wp2.heap.size (xI bs)) wp2.heap.size bs/\g+1<wp2.heap.size):=ι ⟨⟨by unfold wB;rw[Bj _ _ _ _ ω];exact xN hr2.o.br _,by unfold wB;rw[Bj _ _ _ _ ω];exact xN hr2.o.bh _,hge,Bn (hr2.o.bel.alloc hr2.o.bel.size _) ω _⟩,Bp _ _ _ _ _ _ (xJ _ _),hgl⟩
   refine(λ(h:∀W3,Hid (qL w g rs (xRp rs s k) W3/\wB W3 wp2.heap.size bs/\g+1<wp2.heap.size)->wpList _ _ _ _ _ W3)=>h _ H8) ?_;clear H8 hgl hge hr2 HIb HZb;generalize wp2.heap.size=g2;intro w8 h8;have h0l:=HTL.o k;have h0u:=HTU.o k;generalize xRp rs s k=hs0 at h8 HSK h0l h0u
   have q4:=h8.o.2.1.cell (i:=4) ω;have y4:=h8.o.2.1.free 4;rw[HE4.o] at q4
   by_cases h16:z=16
   ·have H9:Hid (qL w g rs hs0 (w8.setCell (θ g2 4) (.int .u64 (IntKind.u64.wrap (e4+16777216))))/\wB (w8.setCell (θ g2 4) (.int .u64 (IntKind.u64.wrap (e4+16777216)))) g2 (xC1 ck)/\g+1<g2):=ι (by
     obtain⟨t1,t2,t3⟩:=h8.o;have t4:=t1.ge;refine⟨⟨t1.br.far (p:=θ g2 4) (by simp only[];omega) _,t1.bh.far (p:=θ g2 4) (by simp only[];omega) _,t4,t1.bel.setCell (p:=θ g2 4) (by simp only[];omega) _⟩,?_,t3⟩;rw[HBK.o,Ah ω];exact t2.put 4 _)
    have hzi:(z:Int)=16:=ω;clear HBK HE4;clear h8;go_upto_region 10 with fail
    refine(λ(h:∀W3,Hid (qL w g rs hs0 W3/\wB W3 g2 (xC1 ck)/\g+1<g2)->Code.wp _ _ _ _ W3)=>h _ H9) ?_;clear H9;intro w9 h9;have hbkl:=xMs ck;have hbku:=xWb ck;generalize xC1 ck=bk at HSK h9 hbkl hbku;have HA0:Hid (qL w g rs (jQ hs0 bk 0) w9/\wB w9 g2 bk/\g+1<g2):=ι h9.o
    have HAS:Hid (∀i,jQ hs0 bk (i+1)=(jQ hs0 bk i).set i (IntKind.u64.wrap ((jQ hs0 bk i).getD i 0+bk.getD i 0))):=ι (λi=>rfl);have HAL:Hid (∀i,(jQ hs0 bk i).length=5):=ι (λi=>by rw[xGh,h0l]);have HAU:=ι (λi=>xRi bk h0u i);have HBU:=ι hbku;clear h9;go_wp2_with fail
    go_loopw [34] (λiv W=>∃i:Nat,i<=5/\iv=.int .i64 i/\Hid (qL w g rs (jQ hs0 bk i) W/\wB W g2 bk/\g+1<g2)) (λiv _=>5- (intOf iv).toNat)
    case atStart=>exact⟨0,δ,rfl,HA0⟩
    case round=>
     clear HA0
     rename World=>wi
     obtain⟨i,hi,rfl,hri⟩:=hrel
     by_cases hlt:i<5
     ·have HS1:=ι (HAS.o i);have hol:=HAL.o i;have hou:=HAU.o i i;have hbi:=HBU.o i;generalize jQ hs0 bk i=l at hri HS1 hol hou;obtain⟨x,hx⟩:=eX (l.getD i 0);obtain⟨y,hy⟩:=eX (bk.getD i 0);rw[hx] at HS1 hou;rw[hy] at HS1 hbi;obtain⟨x0,x1⟩:=hou
      obtain⟨y0,y1⟩:=hbi
      have HQ:Hid (∀W,Hid (qL w g rs l W/\wB W g2 bk/\g+1<g2)->W.cell? (θ (g+1) i)=some (.int .u64 x)/\W.cell? (θ g2 i)=some (.int .u64 y)/\W.frozen? (θ (g+1) i)=false):=ι (λW h=>by
       refine⟨?_,?_,h.o.1.bh.free i⟩
       ·rw[h.o.1.bh.cell (i:=i) ω,hx]
       ·rw[h.o.2.1.cell (i:=i) ω,hy])
      have HPT:Hid (∀W,Hid (qL w g rs l W/\wB W g2 bk/\g+1<g2)->Hid (qL w g rs (jQ hs0 bk (i+1)) (W.setCell (θ (g+1) i) (.int .u64 (IntKind.u64.wrap (x+y))))/\wB (W.setCell (θ (g+1) i) (.int .u64 (IntKind.u64.wrap (x+y)))) g2 bk/\g+1<g2)):=ι (λW h=>ι (by
       refine⟨by rw[HS1.o];exact h.o.1.put i _,h.o.2.1.far (p:=(θ (g+1) i)) (by have:=h.o.2.2;simp only[];omega) _,h.o.2.2⟩))
      have hii:(i:Int)<5:=ω;have HBI:Hid (i<bk.length):=ι ω;have HY:=ι hy;clear hx hy hol;obtain⟨l1,hl1⟩:=eX (jQ hs0 bk (i+1));rw[hl1] at HPT;have HL1:=ι hl1;clear hl1 HS1;go_upto_region 13 with fail
      refine RG.zA 9 (λL W=>Hid (qL w g rs (if L 8 then l1 else l) W/\wB W g2 bk/\g+1<g2)) (λL L' W h hI=>by rw[<-h 8 δ];exact hI) κ κ rfl (ι ⟨⟨hri.o.1.br,hri.o.1.bh,hri.o.1.ge,hri.o.1.bel.drew⟩,hri.o.2⟩) ?_;iterate 2 refine RG.cS ?_
      apply RG.xS
      ·rfl
      ·rfl
      ·intro L w9 h0 hcl xQ hw9;have e1:=hcl.not 6 (i:=8) h0 κ;have hs9:=hw9;rw[e1,Ag σ] at hs9;have q:=(HQ.o w9 hs9).1;clear e1 hs9;repeat go_step
       refine RG.xE ?_;exact⟨xQ,hw9⟩
      ·rfl
      iterate 2 refine RG.cS ?_
      apply RG.xS
      ·rfl
      ·rfl
      ·intro L w9 h0 hcl xQ hw9;have q:w9.cell? (θ g2 i)=some (.int .u64 y):=by rw[hw9.o.2.1.cell (i:=i) HBI.o,HY.o]
       repeat go_step
       refine RG.xE ?_;exact⟨xQ,hw9⟩
      ·rfl
      iterate 2 refine RG.cS ?_
      apply RG.xS
      ·rfl
      ·rfl
      ·intro L w9 h0 hcl xQ hw9;have hs9:=hw9;rw[h0,Ag σ] at hs9;obtain⟨q1,q2,q3⟩:=HQ.o w9 hs9;have hp:=HPT.o w9 hs9;repeat go_step
       refine RG.xE ?_;refine⟨xQ,?_⟩;show Hid (qL w g rs (if (true:Bool)=true then l1 else l) _/\wB _ g2 bk/\g+1<g2);rw[Ah rfl];with_reducible exact hp
      ·rfl
      refine RG.yY (λw9 hw9=>?_);go_wp2;exact⟨⟨i+1,ω,by go_num,by rw[HL1.o];exact hw9⟩,by simp[intOf];omega⟩
     ·have hie:i=5:=ω;have hneg:¬((i:Int)<5):=ω;have HSi:=ι (HSK.o i hie);have hol:=HAL.o i;have hou:yT (jQ hs0 bk i):=HAU.o i;generalize jQ hs0 bk i=l at hri HSi hol hou;have HIl:Hid ((prog.info? 273).map (·.size)=some (xI l).size):=ι (xEh hol)
      have HML:=ι (λW=>yC1 l rs W hol hou hrl hru);obtain⟨l2,hl2⟩:=eX (yGs l rs);have yIx:l2.length=5:=hl2▸xNr l rs;rw[hl2] at HML HSi;have HI2:Hid ((prog.info? 273).map (·.size)=some (xI l2).size):=ι (xEh yIx)
      have HZ2:Hid ((xI l).size=(xI l2).size):=ι (by rw[yB,yB,hol,yIx]);clear hl2 hol hou HSK HAS HAL HAU HBU hie hi hlt;go_upto_region 15 with fail
      refine Bi ?_;refine Ao rfl _ _ rfl (g+1) rfl _ (xI l) (0,0) _ hri.o.1.bh underlying273 rfl HIl.o ?_;refine Ao rfl _ _ rfl g rfl _ (xI rs) (0,0) _ hri.o.1.br underlying273 rfl HIr.o ?_;repeat go_step
      refine cM (HML.o _) λwm hb=>?_;have hm:=ι (hri.o.1.below hb);clear hri hb HML;simp only[]
      rename ∀(a:Act) (w:World),wpList _ _ _ _ a w->_=>hkk
      refine hkk _ _ ?_;clear hkk;refine Av rfl _ _ _ rfl (g+1) (xI l2) rfl rfl _ _ hm.o.bh HI2.o HZ2.o (yM _) ?_
      have hm2:Hid (qL w g rs l2 (wm.setRow (g+1) (xI l2))):=ι ⟨by unfold wB;rw[Bj _ _ _ _ ω];exact hm.o.br,Bp _ _ _ _ _ _ hm.o.bh,hm.o.ge,Bn hm.o.bel (by have:=hm.o.ge;omega) _⟩
      refine(λ(h:∀W3,Hid (qL w g rs l2 W3)->wpList _ _ _ _ _ W3)=>h _ hm2) ?_;clear hm hm2;intro wn hwn;go_wp2;refine⟨⟨k+1,HKB.o,by first|(rw[HNX.o];done)|rw[HNX.o,<-h2,h16],by rw[HSi.o];exact hwn⟩,?_⟩;have hns:=HNS.o;simp[lenOf];omega
   ·have H9:Hid (qL w g rs hs0 w8/\wB w8 g2 (xC1 ck)/\g+1<g2):=ι (by
     rw[HBK.o,Ag ω];exact h8.o)
    have hzi:¬((z:Int)=16):=ω;clear HBK HE4;clear h8;go_upto_region 10 with fail
    refine(λ(h:∀W3,Hid (qL w g rs hs0 W3/\wB W3 g2 (xC1 ck)/\g+1<g2)->Code.wp _ _ _ _ W3)=>h _ H9) ?_;clear H9;intro w9 h9;have hbkl:=xMs ck;have hbku:=xWb ck;generalize xC1 ck=bk at HSK h9 hbkl hbku;have HA0:Hid (qL w g rs (jQ hs0 bk 0) w9/\wB w9 g2 bk/\g+1<g2):=ι h9.o
    have HAS:Hid (∀i,jQ hs0 bk (i+1)=(jQ hs0 bk i).set i (IntKind.u64.wrap ((jQ hs0 bk i).getD i 0+bk.getD i 0))):=ι (λi=>rfl);have HAL:Hid (∀i,(jQ hs0 bk i).length=5):=ι (λi=>by rw[xGh,h0l]);have HAU:=ι (λi=>xRi bk h0u i);have HBU:=ι hbku;clear h9;go_wp2_with fail
    go_loopw [34] (λiv W=>∃i:Nat,i<=5/\iv=.int .i64 i/\Hid (qL w g rs (jQ hs0 bk i) W/\wB W g2 bk/\g+1<g2)) (λiv _=>5- (intOf iv).toNat)
    case atStart=>exact⟨0,δ,rfl,HA0⟩
    case round=>
     clear HA0
     rename World=>wi
     obtain⟨i,hi,rfl,hri⟩:=hrel
     by_cases hlt:i<5
     ·have HS1:=ι (HAS.o i);have hol:=HAL.o i;have hou:=HAU.o i i;have hbi:=HBU.o i;generalize jQ hs0 bk i=l at hri HS1 hol hou;obtain⟨x,hx⟩:=eX (l.getD i 0);obtain⟨y,hy⟩:=eX (bk.getD i 0);rw[hx] at HS1 hou;rw[hy] at HS1 hbi;obtain⟨x0,x1⟩:=hou
      obtain⟨y0,y1⟩:=hbi
      have HQ:Hid (∀W,Hid (qL w g rs l W/\wB W g2 bk/\g+1<g2)->W.cell? (θ (g+1) i)=some (.int .u64 x)/\W.cell? (θ g2 i)=some (.int .u64 y)/\W.frozen? (θ (g+1) i)=false):=ι (λW h=>by
       refine⟨?_,?_,h.o.1.bh.free i⟩
       ·rw[h.o.1.bh.cell (i:=i) ω,hx]
       ·rw[h.o.2.1.cell (i:=i) ω,hy])
      have HPT:Hid (∀W,Hid (qL w g rs l W/\wB W g2 bk/\g+1<g2)->Hid (qL w g rs (jQ hs0 bk (i+1)) (W.setCell (θ (g+1) i) (.int .u64 (IntKind.u64.wrap (x+y))))/\wB (W.setCell (θ (g+1) i) (.int .u64 (IntKind.u64.wrap (x+y)))) g2 bk/\g+1<g2)):=ι (λW h=>ι (by
       refine⟨by rw[HS1.o];exact h.o.1.put i _,h.o.2.1.far (p:=(θ (g+1) i)) (by have:=h.o.2.2;simp only[];omega) _,h.o.2.2⟩))
      have hii:(i:Int)<5:=ω;have HBI:Hid (i<bk.length):=ι ω;have HY:=ι hy;clear hx hy hol;obtain⟨l1,hl1⟩:=eX (jQ hs0 bk (i+1));rw[hl1] at HPT;have HL1:=ι hl1;clear hl1 HS1;go_upto_region 13 with fail
      refine RG.zA 9 (λL W=>Hid (qL w g rs (if L 8 then l1 else l) W/\wB W g2 bk/\g+1<g2)) (λL L' W h hI=>by rw[<-h 8 δ];exact hI) κ κ rfl (ι ⟨⟨hri.o.1.br,hri.o.1.bh,hri.o.1.ge,hri.o.1.bel.drew⟩,hri.o.2⟩) ?_;iterate 2 refine RG.cS ?_
      apply RG.xS
      ·rfl
      ·rfl
      ·intro L w9 h0 hcl xQ hw9;have e1:=hcl.not 6 (i:=8) h0 κ;have hs9:=hw9;rw[e1,Ag σ] at hs9;have q:=(HQ.o w9 hs9).1;clear e1 hs9;repeat go_step
       refine RG.xE ?_;exact⟨xQ,hw9⟩
      ·rfl
      iterate 2 refine RG.cS ?_
      apply RG.xS
      ·rfl
      ·rfl
      ·intro L w9 h0 hcl xQ hw9;have q:w9.cell? (θ g2 i)=some (.int .u64 y):=by rw[hw9.o.2.1.cell (i:=i) HBI.o,HY.o]
       repeat go_step
       refine RG.xE ?_;exact⟨xQ,hw9⟩
      ·rfl
      iterate 2 refine RG.cS ?_
      apply RG.xS
      ·rfl
      ·rfl
      ·intro L w9 h0 hcl xQ hw9;have hs9:=hw9;rw[h0,Ag σ] at hs9;obtain⟨q1,q2,q3⟩:=HQ.o w9 hs9;have hp:=HPT.o w9 hs9;repeat go_step
       refine RG.xE ?_;refine⟨xQ,?_⟩;show Hid (qL w g rs (if (true:Bool)=true then l1 else l) _/\wB _ g2 bk/\g+1<g2);rw[Ah rfl];with_reducible exact hp
      ·rfl
      refine RG.yY (λw9 hw9=>?_);go_wp2;exact⟨⟨i+1,ω,by go_num,by rw[HL1.o];exact hw9⟩,by simp[intOf];omega⟩
     ·have hie:i=5:=ω;have hneg:¬((i:Int)<5):=ω;have HSi:=ι (HSK.o i hie);have hol:=HAL.o i;have hou:yT (jQ hs0 bk i):=HAU.o i;generalize jQ hs0 bk i=l at hri HSi hol hou;have HIl:Hid ((prog.info? 273).map (·.size)=some (xI l).size):=ι (xEh hol)
      have HML:=ι (λW=>yC1 l rs W hol hou hrl hru);obtain⟨l2,hl2⟩:=eX (yGs l rs);have yIx:l2.length=5:=hl2▸xNr l rs;rw[hl2] at HML HSi;have HI2:Hid ((prog.info? 273).map (·.size)=some (xI l2).size):=ι (xEh yIx)
      have HZ2:Hid ((xI l).size=(xI l2).size):=ι (by rw[yB,yB,hol,yIx]);clear hl2 hol hou HSK HAS HAL HAU HBU hie hi hlt;go_upto_region 15 with fail
      refine Bi ?_;refine Ao rfl _ _ rfl (g+1) rfl _ (xI l) (0,0) _ hri.o.1.bh underlying273 rfl HIl.o ?_;refine Ao rfl _ _ rfl g rfl _ (xI rs) (0,0) _ hri.o.1.br underlying273 rfl HIr.o ?_;repeat go_step
      refine cM (HML.o _) λwm hb=>?_;have hm:=ι (hri.o.1.below hb);clear hri hb HML;simp only[]
      rename ∀(a:Act) (w:World),wpList _ _ _ _ a w->_=>hkk
      refine hkk _ _ ?_;clear hkk;refine Av rfl _ _ _ rfl (g+1) (xI l2) rfl rfl _ _ hm.o.bh HI2.o HZ2.o (yM _) ?_
      have hm2:Hid (qL w g rs l2 (wm.setRow (g+1) (xI l2))):=ι ⟨by unfold wB;rw[Bj _ _ _ _ ω];exact hm.o.br,Bp _ _ _ _ _ _ hm.o.bh,hm.o.ge,Bn hm.o.bel (by have:=hm.o.ge;omega) _⟩
      refine(λ(h:∀W3,Hid (qL w g rs l2 W3)->wpList _ _ _ _ _ W3)=>h _ hm2) ?_;clear hm hm2;intro wn hwn;go_wp2;refine⟨⟨k+1,HKB.o,by first|(rw[HNX.o];done)|rw[HNX.o,<-h2,h16],by rw[HSi.o];exact hwn⟩,?_⟩;have hns:=HNS.o;simp[lenOf];omega
  ·have hke:k=(s.size+15) / 16:=by unfold xAd at hlt hoff;split at hlt<;>split at hoff<;>omega
   have HF:=ι (HP.o k hke);have hol:=HTL.o k;have hou:=HTU.o k;have h0:s.size-xAd s.size k=0:=ω;rw[h0] at hts;generalize s.extract (xAd s.size k) s.size=t at hts⊢;generalize xRp rs s k=l at hr HF hol hou
   have HIl:Hid ((prog.info? 273).map (·.size)=some (xI l).size):=ι (xEh hol);have HLE:=ι (λW=>yCb l W hol hou);have yIx:(xBu l).length=5:=by rw[xXy,hol]
   have hl2u:=yH1 hou;have hk2:(key.extract 16 32).size=16:=by simp;omega
   have hk3:key.extract 16 32=key.extract 16 key.size:=by
    congr 1
    omega
   rw[hk3] at hk2 HF;have HFI:=ι (λW=>xTe (xBu l) (key.extract 16 key.size) W yIx hl2u hk2);generalize xBu l=l2 at HLE HFI HF;clear HP HTS HTL HTU HCL hke hk hoff hlt h0 hol hou yIx hl2u hk2 hk3;go_upto_region 17 with fail
   refine RG.xU (λW=>Hid (qL w g rs l W)) κ κ (ι ⟨hr.o.br,hr.o.bh,hr.o.ge,hr.o.bel.drew⟩) ?_;apply RG.xL
   ·intro w9 hw9;refine Ao rfl _ _ rfl (g+1) rfl _ (xI l) (0,0) _ hw9.o.bh underlying273 rfl HIl.o ?_;repeat go_step
    exact RG.xE hw9
   ·rfl
   apply RG.xL
   ·intro w9 hw9;repeat go_step
    refine(HLE.o _).mono ?_;rintro e w10 ⟨rfl,zO⟩;simp only[];repeat go_step
    refine RG.xE ?_;exact ι (hw9.o.below zO)
   ·rfl
   iterate 2 refine RG.dS ?_
   apply RG.xL
   ·intro w9 hw9;repeat go_step
    refine(HFI.o _).mono ?_;rintro e w10 ⟨rfl,zO⟩;simp only[];repeat go_step
    refine RG.xE ?_;exact ι (hw9.o.below zO)
   ·rfl
   iterate 2 refine RG.dS ?_
   refine RG.xX (λw9 hw9=>?_);go_wp2;go_ret2;rw[HF.o];exact⟨rfl,hw9.o.bel⟩
end Go.Proofs.SH
namespace Mailsack
def yIn (n:Nat):Nat:=(16-n % 16) % 16
def xAz (l:Bs):Bs:=l++xO (yIn l.length)
def kN (n:Int) (c:Nat):Bs:=(List.range c).map λi=>oct (Go.IntKind.u64.wrap n / 2^(8*i))
theorem xX9 (n:Int) (c:Nat):kN n (c+1)=kN n c++[oct (Go.IntKind.u64.wrap n / 2^(8*c))]:=by
 unfold kN;rw[List.range_succ,Da];rfl
theorem xFk (n:Int) (c:Nat):(kN n c).length=c:=by unfold kN;simp
end Mailsack
namespace Go.Proofs.SH
open Go.RowKit Mailsack MM BB
structure xP6 (w:World) (v:Value) (w':World) (v':Value):Prop where
 grown:w.grownBy w' v.ownBlock
 own:∀k,v'.ownBlock=some k->v.ownBlock=some k∨w.heap.size<=k
theorem xP6.refl (w:World) (v:Value):xP6 w v w v:=⟨⟨rfl,rfl,rfl,Bd _,λ_ _ _=>rfl⟩,λ_ h=>.inl h⟩
theorem xP6.trans {w w1 w2:World} {v v1 v2:Value} (h:xP6 w v w1 v1) (k:xP6 w1 v1 w2 v2):xP6 w v w2 v2:=by
 refine⟨⟨k.grown.os.trans h.grown.os,k.grown.tape.trans h.grown.tape,k.grown.output.trans h.grown.output,Bg h.grown.size k.grown.size,λb hb hne=>?_⟩,λb hb=>?_⟩
 ·refine(k.grown.block b (Bt hb h.grown.size) (λe=>?_)).trans (h.grown.block b hb hne);rcases h.own b e.symm with h1|h1
  ·exact hne h1.symm
  ·omega
 ·rcases k.own b hb with h1|h1
  ·exact h.own b h1
  ·exact .inr (Bg h.grown.size h1)
theorem xP6.push {w w1:World} {v:Value} {o:Obj} {g n cap:Nat} (hg:(w.alloc o).grownBy w1 v.ownBlock) (hl:v.ownBlock=some g∨g=w.heap.size+1):xP6 w v w1 (.slice (some (θ g 0)) n cap):=by
 refine⟨⟨hg.os,hg.tape,hg.output,Bg σ hg.size,λb hb hne=>?_⟩,λb hb=>?_⟩
 ·exact(hg.block b (by simp;omega) hne).trans (Below.heap_alloc w o b hb)
 ·have hb':g=b:=by simpa[Value.ownBlock] using hb
  subst hb';rcases hl with h|h
  ·exact .inl h
  ·exact .inr ω
theorem xP6.below {w w':World} {v v':Value} (h:xP6 w v w' v') {base:Nat} {l:Bs} (ho:vX w base v l) (hb:base<=w.heap.size):Below base w w':=
 ⟨h.grown.os,h.grown.tape,h.grown.output,h.grown.size,λk hk=>h.grown.block k ω (λe=>by
  have:=(Di ho k e.symm).1;omega)⟩
theorem one_y (z:Int):∀v∈[Value.int .u8 z],v.oneCell'=true:=by simp[Value.oneCell']
theorem xUk (n:Int) (v:Value) (l:Bs) (w:World) (base:Nat) (ho:vX w base v l) (hb:base<=w.heap.size) (hl:l.length<4294967281):
  Calls prog 161 #[v,.int .i64 n] w λe w'=>∃v',e=.returned v'/\vX w' base v' (l++kN n 8)/\xP6 w v w' v':=by
 obtain⟨i0,hi,hz0,hz1,hz2⟩:=jL xY6;have HO:=ι ho;have HU:=wrap_u64 n;have HSE:Hid (∀c,c=8->l++kN n c=l++kN n 8):=ι (λc hc=>by rw[hc]);have HS0:Hid (l++kN n 0=l):=ι (by simp[kN]);have HSS:=ι (λc=>xX9 n c);generalize hres:l++kN n 8=res at HSE⊢;clear ho hres
 go_enter func161,ntmps161;go_wp2_with fail
 go_loopw [0,6] (λlv iv wr=>∃k:Nat,k<=8/\iv=.int .i64 k/\Hid (vX wr base lv (l++kN n k))/\Hid (xP6 w v wr lv)) (λ_ iv _=>8- (intOf iv).toNat)
 case atStart=>exact⟨0,Bc _,rfl,ι (by rw[HS0.o];exact HO.o),ι (xP6.refl _ _)⟩
 case round=>
  obtain⟨k,hk,rfl,hown,yD0⟩:=hrel
  by_cases hlt:k<8
  ·have HL0:=(show(l++kN n k).length=l.length+k by rw[Aj,xFk]);have HLe:Hid (l++kN n (k+1)=(l++kN n k)++[oct (IntKind.u64.wrap n / 2^(8*k))]):=ι (by rw[HSS.o,Cy]);obtain⟨L1,hL1⟩:=eX (l++kN n (k+1));rw[hL1] at HLe;have HL1:=ι hL1;clear hL1
   generalize l++kN n k=L at hown HL0 HLe;have HL:=ι HL0;have HK:=ι hlt;obtain⟨u,hu⟩:=eX (IntKind.u64.wrap n);obtain⟨u0,u1⟩:=hu▸HU;rw[hu] at HLe;clear HL0
   go_wp2_with (at_builtin;refine Fw _ rfl _ _ 96 rfl base 5 i0 (.int .u8 0) 1 1 underlying96 hi hz0 hz1 hz2 rfl δ _ _ _ rfl (hown.o.alloc _) (θ wr.heap.size 0) 1 1 [.int .u8 (u / 2^(8*k) % 256)] rfl rfl (cell_one_new _ _ _) (one_y _) δ (by have:=HL.o;have:=HK.o;unfold maxLen;omega) (by have:=HL.o;have:=HK.o;omega) (by have:=yD0.o.grown.size;simp;omega) (wr.heap.size+1) σ ?_;intro g cap w1 hown1 hgrow hat hlt1)
   have he2:=yD0.o.trans (xP6.push (n:=L.length+1) (cap:=cap) hgrow hat);have ho2:=ι hown1;clear hown1 hgrow hat
   go_roundw
   case rel=>exact⟨k+1,ω,by go_num,ι (by
    rw[HL1.o,HLe.o];refine vX.of ?_;simp only[Du,Ht,wW];exact ho2.o),ι he2⟩
   case measure=>simp[intOf];omega
  ·have hke:k=8:=ω;have h8:=HSE.o k hke;rw[h8] at hown;have hneg:¬((k:Int)<8):=ω;clear h8 HSE HSS HS0;go_wp2;go_ret;exact⟨_,rfl,hown.o,yD0.o⟩
theorem xRg (v:Value) (l:Bs) (w:World) (base:Nat) (ho:vX w base v l) (hb:base<=w.heap.size) (hl:l.length<4294967281):
  Calls prog 160 #[v] w λe w'=>∃v',e=.returned v'/\vX w' base v' (xAz l)/\xP6 w v w' v':=by
 obtain⟨i0,hi,hz0,hz1,hz2⟩:=jL xY6;obtain⟨A0,c0,rfl,hc0⟩:=ho.form;have HO:=ι ho;have HPN:Hid (yIn l.length<16/\(l.length+yIn l.length) % 16=0):=ι (by unfold yIn;omega);have HSE:Hid (∀k,k=yIn l.length->l++xO k=xAz l):=ι (λk hk=>by rw[hk];rfl)
 have HS0:Hid (l++xO 0=l):=ι (by simp[xO]);have HSS:Hid (∀k,l++xO (k+1)=(l++xO k)++[0]):=ι (λk=>by rw[Cy];congr 1;unfold xO;rw[List.replicate_succ']);generalize xAz l=res at HSE⊢;generalize yIn l.length=pn at HPN HSE;clear ho;go_enter func160,ntmps160
 go_wp2_with fail
 go_loopw [0] (λlv wr=>∃(k:Nat) (A:Option Addr) (c:Nat),k<=pn/\lv=.slice A (l.length+k) c/\Hid (vX wr base lv (l++xO k))/\Hid (xP6 w (.slice A0 l.length c0) wr lv)) (λlv _=>match lv with|.slice _ m _=>l.length+pn-m|_=>0)
 case atStart=>exact⟨0,A0,c0,Bc _,rfl,ι (by rw[HS0.o];exact HO.o),ι (xP6.refl _ _)⟩
 case round=>
  obtain⟨k,A,c,hk,rfl,hown,yD0⟩:=hrel;obtain⟨p1,p2⟩:=HPN.o
  by_cases hlt:k<pn
  ·have hm:((l.length+k:Nat):Int) % 16≠0:=ω;have hmb:((((l.length+k:Nat):Int) % 16)!=0)=true:=by simp;omega
   have HL0:(l++xO k).length=l.length+k:=by rw[Aj,yR]
   have HROW:Hid (wr.ownsRow base 5 1 (.slice A (l.length+k) c) (l.length+k) ((l++xO k).map λc=>Value.int .u8 (c.toNat:Int))):=ι (by have h:=hown.o.row;rwa [HL0] at h);have HSk:=ι (HSS.o k);obtain⟨L1,hL1⟩:=eX (l++xO (k+1));rw[hL1] at HSk;have HL1:=ι hL1;clear hL1 hown
   generalize l++xO k=L at HROW HSk HL0;have HL:=ι HL0;have HK:=ι hlt;have HP1:=ι p1;have HLL:=ι hl;clear HL0 p1 p2 hlt hk
   go_wp2_with (at_builtin;refine Fw _ rfl _ _ 96 rfl base 5 i0 (.int .u8 0) 1 1 underlying96 hi hz0 hz1 hz2 rfl δ _ _ _ rfl (HROW.o.alloc _) (θ wr.heap.size 0) 1 1 [.int .u8 0] rfl rfl (cell_one_new _ _ _) (one_y _) δ (by have:=HLL.o;have:=HK.o;have:=HP1.o;unfold maxLen;omega) (by have:=HLL.o;have:=HK.o;have:=HP1.o;omega) (by have:=yD0.o.grown.size;simp;omega) (wr.heap.size+1) σ ?_;intro g cap w1 hown1 hgrow hat hlt1)
   have he2:=yD0.o.trans (xP6.push (n:=l.length+k+1) (cap:=cap) hgrow hat);have ho2:=ι hown1;clear hown1 hgrow hat
   go_roundw
   case rel=>exact⟨k+1,_,cap,by have:=HK.o;omega,rfl,ι (by
    rw[HL1.o,HSk.o];refine vX.of ?_;rw[HL.o];exact ho2.o),ι he2⟩
   case measure=>show l.length+pn- (l.length+k+1)<l.length+pn- (l.length+k);have:=HK.o;omega
  ·have hke:k=pn:=ω;have hm:((l.length+k:Nat):Int) % 16=0:=ω;have hmb:((((l.length+k:Nat):Int) % 16)!=0)=false:=by simp;omega
   have h8:=HSE.o k hke;rw[h8] at hown;clear h8 HSE HSS HS0 p1 p2;go_wp2;go_ret;exact⟨_,rfl,hown.o,yD0.o⟩
end Go.Proofs.SH
namespace Mailsack
def xZ2 (ad text:ByteArray):Bs:=xAz (xAz ad.data.toList++text.data.toList)++kN ad.size 8++kN text.size 8
def kF (key xB ad text:ByteArray):ByteArray:=tagP ((bsA (xGk key xB 0)).extract 0 32) (bsA (xZ2 ad text))
theorem xEd (key xB ad text:ByteArray):(kF key xB ad text).size=16:=yAj _ _
def wP (key xB ad s:ByteArray):ByteArray:=bsA (wS key xB 1 s)++kF key xB ad (bsA (wS key xB 1 s))
theorem kH (key xB ad s:ByteArray):(wP key xB ad s).size=s.size+16:=by rw[wP,Aw,xEd,yS,kP]
theorem yKe (n:Nat):yIn n<16:=by unfold yIn;omega
theorem xGg (l:Bs):(xAz l).length<=l.length+16:=by
 unfold xAz;rw[Aj,yR];have:=yKe l.length;omega
theorem yI6 (ad text:ByteArray):(xZ2 ad text).length<=ad.size+text.size+64:=by
 unfold xZ2;have h1:=xGg ad.data.toList;have h2:=xGg (xAz ad.data.toList++text.data.toList);have h3:ad.data.toList.length=ad.size:=σ;have h4:text.data.toList.length=text.size:=σ;rw[Aj] at h2;rw[Aj,Aj,xFk,xFk];omega
end Mailsack
namespace Go.Proofs.SH
open Go.RowKit Mailsack MM BB
theorem xIk {P:Program} {w:World} {ops:Array Oper} {rest:List Oper} {o:Oper} {a:Act} {Q:Exit->Act->World->Prop} (hgd:o.guard=none) (sl x:Operand) (t u:TypeId)
  (ho:o.op=.call {callee:=.builtin .append,args:=#[sl,x],argTypes:=#[t,u]})
  (base:Nat) (e:TypeId) (i:TypeInfo) (ht:P.underlying t=some (.slice e)) (hu:P.underlying u=some .string) (hi:P.info? e=some i) (hz:i.zero=some (.int .u8 0))
  (hsize:i.size=1) (hby:i.bytes=1)
  (v:Value) (n:Nat) (xs:List Value) (hs:a.eval sl=v) (hown:w.ownsRow base e 1 v n xs) (s:ByteArray) (hx:a.eval x=.string s)
  (h63:n+s.size<=maxLen) (hbytes:n+s.size<=140737488355328) (hbase:base<=w.heap.size)
  (h:∀v' w',w'.ownsRow base e 1 v' (n+s.size) (xs++Lib.strCells s)->w.grownBy w' v.ownBlock->wpList P ops Q rest (a.put o.dst v') w'):wpList P ops Q (o::rest) a w:=by
 refine Hr hgd λK hK=>?_;obtain⟨v',w',hr,h2,h3,_⟩:=Hu (P:=P) w base t u o.type e i ht hu hi hz hsize hby v n xs hown s h63 hbytes hbase;unfold Oper.wp execOp
 simp only[ho,resolve,invoke,builtin,Gu,Sem.run_pure,Gy,Gl,Du,Ht,hs,hx,hr];exact hK _ _ (h v' w' h2 h3)
theorem yAi (key xB ad text:ByteArray) (w:World) (hk:key.size=32) (hn:xB.size=12) (ha:ad.size<=1000000000) (ht:text.size<=1000000000):
  Calls prog 114 #[.string key,.string xB,.string ad,.string text] w (pv (.tuple #[.string (kF key xB ad text),.bool true]) w):=by
 obtain⟨i0,hi,hz0,hz1,hz2⟩:=jL xY6;have HC:=ι (xTu key xB 0 w hk hn ⟨δ,δ⟩);have hsz:(bsA (xGk key xB 0)).size=64:=by rw[yS];exact xF4 _
 have HT:Hid (∀W,Calls prog 162 #[.string ((bsA (xGk key xB 0)).extract 0 32),.string (bsA (xZ2 ad text))] W (pv (.tuple #[.string (kF key xB ad text),.bool true]) W)):=ι (λW=>yJw _ _ W (by rw[Az,hsz];rfl) (by rw[yS];have:=yI6 ad text;omega))
 generalize bsA (xGk key xB 0)=ks at HC HT hsz;have hD:Hid (xZ2 ad text=xAz (xAz ad.data.toList++text.data.toList)++kN ad.size 8++kN text.size 8):=ι rfl;have hL1:=xGg ad.data.toList;have hL2:=xGg (xAz ad.data.toList++text.data.toList);have hal:ad.data.toList.length=ad.size:=σ
 have htl:text.data.toList.length=text.size:=σ;rw[Aj] at hL2;have HMK:=ι (λW:World=>made W 0 (ad.size+text.size+48) ω ω)
 have HLS:Hid (ad.size<=1000000000/\text.size<=1000000000/\(xAz ad.data.toList).length<=2000000000/\(xAz (xAz ad.data.toList++text.data.toList)).length<=4000000000):=ι ⟨ha,ht,ω,ω⟩;generalize kF key xB ad text=res at HT⊢;generalize xZ2 ad text=dd at HT hD;clear hL1 hL2 hk hn
 go_enter func114,ntmps114;go_wp2_with fail
 refine HC.o.mono ?_;rintro e w1 ⟨rfl,hb1⟩;have B1:=ι hb1;clear hb1 HC
 have hmk:∀W:World,(Instr.makeSlice 96 (.int .i64 0) (.int .i64 ((ad.size:Int)+(text.size:Int)+48))).run prog W=.ok (.slice (some (θ W.heap.size 0)) 0 (ad.size+text.size+48)) (W.alloc (.cells (yO (xO (ad.size+text.size+48))) 5)):=HMK.o
 have HO0:=ι (vX.room w1 (ad.size+text.size+48) w.heap.size B1.o.size ω);have B2:=ι (B1.o.alloc B1.o.size (.cells (yO (xO (ad.size+text.size+48))) 5));go_upto_region 5 with fail
 clear hmk HMK;refine(λ(h:∀W3,Hid (vX W3 w.heap.size (.slice (some (θ w1.heap.size 0)) 0 (ad.size+text.size+48)) []/\ψ w W3)->Code.wp _ _ _ _ W3)=>h _ (ι ⟨HO0.o,B2.o⟩)) ?_;clear HO0 B2 B1;generalize w1.heap.size=g;intro W2 H2;refine Bi ?_;iterate 6 go_step
 refine xIk rfl _ _ 96 9 rfl w.heap.size 5 i0 underlying96 underlying9 hi hz0 hz1 hz2 _ 0 [] rfl H2.o.1 ad rfl (by unfold maxLen;omega) ω H2.o.2.size ?_;intro v3 w3 hown hgrow
 have HO3:Hid (vX w3 w.heap.size v3 ad.data.toList):=ι (by
  have h:=vX.of (l:=[]) (m:=ad.data.toList) (by rw[hal];exact hown);exact h)
 have HB3:=ι (H2.o.2.grown hgrow H2.o.2.size (λk hk=>(Di H2.o.1 k hk).1));have HA3:=ι (xRg v3 ad.data.toList w3 w.heap.size HO3.o HB3.o.size ω);clear hown hgrow H2;repeat go_step
 refine HA3.o.mono ?_;rintro e w4 ⟨v4,rfl,ho4,hx4⟩;have HO4:=ι ho4;have HB4:=ι (HB3.o.trans (hx4.below HO3.o HB3.o.size));clear ho4 hx4 HA3 HO3 HB3;go_upto_region 6 with fail
 refine Bi ?_;iterate 6 go_step
 refine xIk rfl _ _ 96 9 rfl w.heap.size 5 i0 underlying96 underlying9 hi hz0 hz1 hz2 v4 _ _ rfl HO4.o.row text rfl (by have:=HLS.o;unfold maxLen;omega) (by have:=HLS.o;omega) HB4.o.size ?_;intro v5 w5 hown hgrow
 have HO5:Hid (vX w5 w.heap.size v5 (xAz ad.data.toList++text.data.toList)):=ι (vX.of (by rw[htl];exact hown));have HB5:=ι (HB4.o.grown hgrow HB4.o.size (λk hk=>(Di HO4.o.row k hk).1))
 have HA5:=ι (xRg v5 _ w5 w.heap.size HO5.o HB5.o.size (by rw[Aj,htl];have:=HLS.o;omega));clear hown hgrow HO4 HB4;repeat go_step
 refine HA5.o.mono ?_;rintro e w6 ⟨v6,rfl,ho6,hx6⟩;have HO6:=ι ho6;have HB6:=ι (HB5.o.trans (hx6.below HO5.o HB5.o.size));clear ho6 hx6 HA5 HO5 HB5;have HS6:=ι (xUk ad.size v6 _ w6 w.heap.size HO6.o HB6.o.size (by have:=HLS.o;omega));go_wp2_with fail
 refine HS6.o.mono ?_;rintro e w7 ⟨v7,rfl,ho7,hx7⟩;have HO7:=ι ho7;have HB7:=ι (HB6.o.trans (hx7.below HO6.o HB6.o.size));clear ho7 hx7 HS6 HO6 HB6;have HS7:=ι (xUk text.size v7 _ w7 w.heap.size HO7.o HB7.o.size (by rw[Aj,xFk];have:=HLS.o;omega));go_wp2_with fail
 refine HS7.o.mono ?_;rintro e w8 ⟨v8,rfl,ho8,hx8⟩;have HO8:=ι ho8;have HB8:=ι (HB7.o.trans (hx8.below HO7.o HB7.o.size));clear ho8 hx8 HS7 HO7 HB7;rw[<-hD.o] at HO8;have hszi:(ks.size:Int)=64:=ω;clear hsz;go_upto_region 9 with fail
 refine RG.xU (λW=>Hid (vX W w.heap.size v8 dd/\ψ w W)) κ κ (ι ⟨HO8.o.drew,HB8.o.drew⟩) ?_;clear HO8 HB8;iterate 3 refine RG.dS ?_
 apply RG.xL
 ·intro w9 hw9;have q:(convert 96 9 v8).run prog w9=.ok (.string (bsA dd)) w9:=hw9.o.1.text;repeat go_step
  exact RG.xE hw9
 ·rfl
 apply RG.xL
 ·intro w9 hw9;repeat go_step
  refine(HT.o _).mono ?_;rintro e w10 ⟨rfl,zO⟩;simp only[];repeat go_step
  refine RG.xE ?_;exact ι ⟨vX.below hw9.o.1 zO,bT hw9.o.2 zO⟩
 ·rfl
 iterate 4 refine RG.dS ?_
 refine RG.xX (λw9 hw9=>?_);go_wp2;go_ret2;exact⟨rfl,hw9.o.2⟩
theorem xSf (key xB ad s:ByteArray) (w:World) (hk:key.size=32) (hn:xB.size=12) (ha:ad.size<=1000000000) (hs:s.size<=1000000000):
  Calls prog 71 #[.string key,.string xB,.string ad,.string s] w (pv (.tuple #[.string (wP key xB ad s),.int .i64 0]) w):=by
 have HC:=ι (xH4 key xB 1 s w hk hn ⟨δ,δ⟩ ω);have hcz:(bsA (wS key xB 1 s)).size=s.size:=by rw[yS,kP]
 have HT:=ι (λW=>yAi key xB ad (bsA (wS key xB 1 s)) W hk hn ha (by rw[hcz];exact hs));have htz:=xEd key xB ad (bsA (wS key xB 1 s));have HE:Hid (wP key xB ad s=bsA (wS key xB 1 s)++kF key xB ad (bsA (wS key xB 1 s))):=ι rfl
 generalize kF key xB ad (bsA (wS key xB 1 s))=tg at HT htz HE;generalize bsA (wS key xB 1 s)=ct at HC HT hcz HE;have nb:¬(9223372036854775807<ct.size+tg.size):=ω;clear hk hn hcz htz;go_enter func71,ntmps71;go_wp2_with fail
 refine HC.o.mono ?_;rintro e w1 ⟨rfl,hb1⟩;have B1:=ι hb1;clear hb1 HC;go_wp2_with fail
 refine cM (HT.o _) λw2 hb2=>?_;have B2:=ι (bT B1.o hb2);clear hb2 HT B1;go_wp2;go_ret2;rw[HE.o];exact⟨rfl,B2.o⟩
theorem xXp (key xB ad box:ByteArray) (w:World) (hk:key.size=32) (hn:xB.size=12) (hb:box.size<16):
  Calls prog 92 #[.string key,.string xB,.string ad,.string box] w λe w'=>e=.returned (.tuple #[.string ⟨#[]⟩,.int .i64 7])/\w'=w:=by
 have hki:(key.size:Int)=32:=ω;have hni:(xB.size:Int)=12:=ω;have hbi:(box.size:Int)<16:=ω;clear hk hn hb;go_enter func92,ntmps92;go_wp2;go_ret2;exact⟨rfl,rfl⟩
theorem xNn (key xB ad text given:ByteArray) (w:World) (hk:key.size=32) (hn:xB.size=12) (ha:ad.size<=1000000000) (ht:text.size<=1000000000) (hg:given.size=16) (hs:xBe (kF key xB ad text) given=true):
  Calls prog 92 #[.string key,.string xB,.string ad,.string (text++given)] w (pv (.tuple #[.string (bsA (wS key xB 1 text)),.int .i64 0]) w):=by
 have HC:=ι (λW=>xH4 key xB 1 text W hk hn ⟨δ,δ⟩ ω);have HT:=ι (λW=>yAi key xB ad text W hk hn ha ht);have htz:=xEd key xB ad text;have HM:=ι (λW=>xNa (kF key xB ad text) given W (by rw[htz];decide));rw[hs] at HM;generalize kF key xB ad text=tg at HT htz HM;clear hs
 generalize bsA (wS key xB 1 text)=pt at HC⊢;have hki:(key.size:Int)=32:=ω;have hni:(xB.size:Int)=12:=ω;have hbs:(text++given).size=text.size+16:=by rw[Aw,hg]
 have hx1:(text++given).extract 0 text.size=text:=by rw[ByteArray.extract_append_eq_left rfl]
 have hx2:(text++given).extract text.size (text.size+16)=given:=by rw[<-hg];rw[ByteArray.extract_append_eq_right rfl rfl]
 generalize text++given=box at hbs hx1 hx2⊢;obtain⟨n,hnn⟩:=eX text.size;rw[hnn] at hbs hx1 hx2;have hbi:(box.size:Int)=(n:Int)+16:=ω;have h16:¬((n:Int)+16<16):=ω;clear hk hn htz hg;go_enter func92,ntmps92;go_upto_region 5 with fail
 refine RG.xU (λW=>Hid (ψ w W)) κ κ (ι (Aq w.heap.size w).drew) ?_;iterate 12 refine RG.dS ?_
 refine RG.xX (λw1 hw1=>?_);clear h16 hbi hbs hki hni;go_wp2_with fail
 refine cM (HT.o _) λw2 hb2=>?_;have B2:=ι (bT hw1.o hb2);clear hb2 HT hw1;go_wp2_with fail
 refine cM (HM.o _) λw3 hb3=>?_;have B3:=ι (bT B2.o hb3);clear hb3 HM B2;go_wp2_with fail
 refine cM (HC.o _) λw4 hb4=>?_;have B4:=ι (bT B3.o hb4);clear hb4 HC B3;go_wp2;go_ret2;exact⟨rfl,B4.o⟩
theorem xSu (key xB ad text given:ByteArray) (w:World) (hk:key.size=32) (hn:xB.size=12) (ha:ad.size<=1000000000) (ht:text.size<=1000000000) (hg:given.size=16) (hs:xBe (kF key xB ad text) given=false):
  Calls prog 92 #[.string key,.string xB,.string ad,.string (text++given)] w (pv (.tuple #[.string ⟨#[]⟩,.int .i64 7]) w):=by
 have HC:=ι (λW=>xH4 key xB 1 text W hk hn ⟨δ,δ⟩ ω);have HT:=ι (λW=>yAi key xB ad text W hk hn ha ht);have htz:=xEd key xB ad text;have HM:=ι (λW=>xNa (kF key xB ad text) given W (by rw[htz];decide));rw[hs] at HM;generalize kF key xB ad text=tg at HT htz HM;clear hs
 generalize bsA (wS key xB 1 text)=pt at HC;have hki:(key.size:Int)=32:=ω;have hni:(xB.size:Int)=12:=ω;have hbs:(text++given).size=text.size+16:=by rw[Aw,hg]
 have hx1:(text++given).extract 0 text.size=text:=by rw[ByteArray.extract_append_eq_left rfl]
 have hx2:(text++given).extract text.size (text.size+16)=given:=by rw[<-hg];rw[ByteArray.extract_append_eq_right rfl rfl]
 generalize text++given=box at hbs hx1 hx2⊢;obtain⟨n,hnn⟩:=eX text.size;rw[hnn] at hbs hx1 hx2;have hbi:(box.size:Int)=(n:Int)+16:=ω;have h16:¬((n:Int)+16<16):=ω;clear hk hn htz hg;go_enter func92,ntmps92;go_upto_region 5 with fail
 refine RG.xU (λW=>Hid (ψ w W)) κ κ (ι (Aq w.heap.size w).drew) ?_;iterate 12 refine RG.dS ?_
 refine RG.xX (λw1 hw1=>?_);clear h16 hbi hbs hki hni;go_wp2_with fail
 refine cM (HT.o _) λw2 hb2=>?_;have B2:=ι (bT hw1.o hb2);clear hb2 HT hw1;go_wp2_with fail
 refine cM (HM.o _) λw3 hb3=>?_;have B3:=ι (bT B2.o hb3);clear hb3 HM B2;clear HC;go_wp2;go_ret2;exact⟨rfl,B3.o⟩
end Go.Proofs.SH
namespace Mailsack
theorem jX {ws:List Int} (h:ws.length=5):∃a b c d e,ws=[a,b,c,d,e]:=by
 match ws,h with
 |[a,b,c,d,e],_=>exact⟨a,b,c,d,e,rfl⟩
def nar (a b:Int):Int:=Go.IntKind.u64.wrap (Go.bits .and .u64 a 2251799813685247+b / 2251799813685248)
def nar0 (a b:Int):Int:=Go.IntKind.u64.wrap (Go.bits .and .u64 a 2251799813685247+19*(b / 2251799813685248))
def zQ (l:List Int):List Int:=[nar0 (l.getD 0 0) (l.getD 4 0),nar (l.getD 1 0) (l.getD 0 0),nar (l.getD 2 0) (l.getD 1 0),nar (l.getD 3 0) (l.getD 2 0),nar (l.getD 4 0) (l.getD 3 0)]
theorem zW (l:List Int):(zQ l).length=5:=rfl
theorem xDs {a b c d e:Int} (ha:U64 a) (hb:U64 b) (hc:U64 c) (hd:U64 d) (he:U64 e):yT [a,b,c,d,e]:=L5.all (l:=⟨a,b,c,d,e⟩) ⟨ha,hb,hc,hd,he⟩
theorem jO (l:List Int):yT (zQ l):=xDs (wrap_u64 _) (wrap_u64 _) (wrap_u64 _) (wrap_u64 _) (wrap_u64 _)
end Mailsack
namespace Go.Proofs.FE
open Go.RowKit Mailsack MM BB SH
def wL (t:TypeId) (W:World) (g:Nat) (ws:List Int):Prop:=W.heap[g]?=some (.cells (xI ws) t (0,0))
theorem wL.blk {t:TypeId} {W:World} {g:Nat} {ws:List Int} (h:wL t W g ws):W.heap[g]?=some (.cells (xI ws) t (0,0)):=h
theorem wL.put {t:TypeId} {W:World} {g:Nat} {ws:List Int} (h:wL t W g ws) (i:Nat) (x:Int):wL t (W.setCell (θ g i) (.int .u64 x)) g (ws.set i x):=by
 have:=yD h.blk i (.int .u64 x);rw[xW1] at this;exact this
theorem wL.far {t:TypeId} {W:World} {g:Nat} {ws:List Int} (h:wL t W g ws) {p:Addr} (hp:g≠p.block) (u:Value):wL t (W.setCell p u) g ws:=yA h.blk hp u
theorem wL.cell {t:TypeId} {W:World} {g:Nat} {ws:List Int} (h:wL t W g ws) {i:Nat} (hi:i<ws.length):W.cell? (θ g i)=some (.int .u64 (ws.getD i 0)):=by rw[xA h.blk,xEa hi]
theorem wL.free {t:TypeId} {W:World} {g:Nat} {ws:List Int} (h:wL t W g ws) (i:Nat):W.frozen? (θ g i)=false:=xG h.blk i
theorem wL.below {t:TypeId} {W W':World} {g:Nat} {ws:List Int} (h:wL t W g ws) (hb:ψ W W'):wL t W' g ws:=xC h.blk hb (xH h.blk)
theorem kI (ws:List Int) (w:World) (hl:ws.length=5) (hu:yT ws):
  Calls prog 170 #[.agg (xI ws)] w (pv (.agg (xI (zQ ws))) w):=by
 obtain⟨a,b,c,d,e,rfl⟩:=jX hl;have ha:=hu 0;have hb:=hu 1;have hc:=hu 2;have hd:=hu 3;have he:=hu 4;simp only[Cj,Cr] at ha hb hc hd he;obtain⟨a0,a1⟩:=ha;obtain⟨b0,b1⟩:=hb;obtain⟨c0,c1⟩:=hc;obtain⟨d0,d1⟩:=hd;obtain⟨e0,e1⟩:=he;clear hl hu
 show Calls prog 170 #[.agg #[.int .u64 a,.int .u64 b,.int .u64 c,.int .u64 d,.int .u64 e]] w _;go_enter func170,ntmps170;go_wp2
 refine Ak (Dn rfl _ _ (w.heap.size+1) _ _ (0,0) _ rfl (zI _ _ _) underlying188 rfl (show(prog.info? 188).map (·.size)=some 5 by kernel_rfl)) rfl ?_;exact⟨rfl,(φ w _).alloc σ _⟩
end Go.Proofs.FE
namespace Mailsack
def xHu (a b:List Int):List Int:=zQ (jQ (zQ a) (zQ b) 5)
def xOy (a b:List Int):Nat->List Int
 |0=>a.set 0 (Go.IntKind.u64.wrap (a.getD 0 0+Go.IntKind.u64.wrap (4503599627370458-b.getD 0 0)))
 |i+1=>(xOy a b i).set (i+1) (Go.IntKind.u64.wrap ((xOy a b i).getD (i+1) 0+Go.IntKind.u64.wrap (4503599627370494-b.getD (i+1) 0)))
theorem xN6 (a b:List Int):∀i,(xOy a b i).length=a.length
 |0=>by rw[xOy,Bf]
 |i+1=>by rw[xOy,Bf,xN6 a b i]
theorem yAp {a:List Int} (b:List Int) (h:yT a):∀i,yT (xOy a b i)
 |0=>h.set 0 (wrap_u64 _)
 |i+1=>(yAp b h i).set (i+1) (wrap_u64 _)
def xHt (a b:List Int):List Int:=zQ (xOy (zQ a) (zQ b) 4)
theorem xDk (a b:List Int):(xHu a b).length=5:=rfl
theorem xDj (a b:List Int):(xHt a b).length=5:=rfl
theorem xK5 (a b:List Int):yT (xHu a b):=jO _
theorem xK4 (a b:List Int):yT (xHt a b):=jO _
end Mailsack
namespace Go.Proofs.FE
open Go.RowKit Mailsack MM BB SH
theorem vW {ws:List Int} (h:ws.length=5):(prog.info? 188).map (·.size)=some (xI ws).size:=by rw[yB,h];kernel_rfl
theorem xCp {xs ys:List Int} (h:xs.length=5) (h2:ys.length=5):(xI xs).size=(xI ys).size:=by rw[yB,yB,h,h2]
structure jR (w:World) (ax bx:List Int) (W:World):Prop where
 ba:wL 188 W w.heap.size ax
 bb:wL 188 W (w.heap.size+1) bx
 bz:wL 188 W (w.heap.size+2) (List.replicate 5 0)
 bel:ψ w W
section
variable {w W W':World} {ax bx:List Int}
theorem jR.start (ax bx:List Int):jR w ax bx (((w.alloc (.cells (xI ax) 188)).alloc (.cells (xI bx) 188)).alloc (.cells (xI (List.replicate 5 0)) 188)):=
 ⟨xN (zM _ _ _) _,xN (zI _ _ _) _,by have h:=xJ ((w.alloc (.cells (xI ax) 188)).alloc (.cells (xI bx) 188)) (.cells (xI (List.replicate 5 0)) 188);rw[show((w.alloc (.cells (xI ax) 188)).alloc (.cells (xI bx) 188)).heap.size=w.heap.size+2 by simp] at h;exact h,((φ w _).alloc σ _).alloc (by simp;omega) _⟩
theorem jR.below (h:jR w ax bx W) (hb:ψ W W'):jR w ax bx W':=
 ⟨h.ba.below hb,h.bb.below hb,h.bz.below hb,bT h.bel hb⟩
theorem jR.drew (h:jR w ax bx W):jR w ax bx W.drew:=⟨h.ba,h.bb,h.bz,h.bel.drew⟩
theorem jR.put (h:jR w ax bx W) (i:Nat) (x:Int):jR w (ax.set i x) bx (W.setCell (θ w.heap.size i) (.int .u64 x)):=
 ⟨h.ba.put i x,h.bb.far (p:=θ w.heap.size i) σ _,h.bz.far (p:=θ w.heap.size i) σ _,h.bel.setCell (p:=θ w.heap.size i) ν _⟩
theorem jR.rowA (h:jR w ax bx W) (xs:List Int):jR w xs bx (W.setRow w.heap.size (xI xs)):=
 ⟨Bp _ _ _ _ _ _ h.ba,(Bj _ _ _ _ ω).trans h.bb,(Bj _ _ _ _ ω).trans h.bz,Bn h.bel ν _⟩
theorem jR.rowB (h:jR w ax bx W) (xs:List Int):jR w ax xs (W.setRow (w.heap.size+1) (xI xs)):=
 ⟨(Bj _ _ _ _ ω).trans h.ba,Bp _ _ _ _ _ _ h.bb,(Bj _ _ _ _ ω).trans h.bz,Bn h.bel ω _⟩
end
theorem yMc (ax bx:List Int) (w:World) (hl:ax.length=5) (hu:yT ax) (hl2:bx.length=5) (hu2:yT bx):
  Calls prog 166 #[.agg (xI ax),.agg (xI bx)] w (pv (.agg (xI (xHu ax bx))) w):=by
 have HNa:=ι (λW=>kI ax W hl hu);have HNb:=ι (λW=>kI bx W hl2 hu2);have HIa:=ι (vW hl);have HIb:=ι (vW hl2);have yIa:=ι (vW (zW ax));have yI9:=ι (vW (zW bx));have HZa:=ι (xCp hl (zW ax));have HZb:=ι (xCp hl2 (zW bx));have hna:=zW ax;have hnb:=zW bx;have hua:=jO ax;have hub:=jO bx
 have H0:=ι (jR.start (w:=w) ax bx);have HR:Hid (∀n,n=5->xHu ax bx=zQ (jQ (zQ ax) (zQ bx) n)):=ι (λn hn=>by rw[hn];rfl);obtain⟨res,hres⟩:=eX (xHu ax bx);have hrl:res.length=5:=by rw[<-hres];rfl
 rw[hres] at HR⊢;clear hres hl hu hl2 hu2;generalize zQ ax=na at HNa yIa HZa hna hua HR;generalize zQ bx=nb at HNb yI9 HZb hnb hub HR;go_enter func166,ntmps166;go_upto_region 1 with fail
 refine(λ(h:∀W3,Hid (jR w ax bx W3)->Code.wp _ _ _ _ W3)=>h _ H0) ?_;clear H0;intro W0 H0;refine RG.zA 6 (λL W=>Hid (jR w (if L 4 then na else ax) (if L 5 then nb else bx) W)) (λL L' W h hI=>by rw[<-h 4 δ,<-h 5 δ];exact hI) κ κ rfl (ι H0.o.drew) ?_;clear H0;apply RG.xS
 ·rfl
 ·rfl
 ·intro L w9 h0 hcl xQ hw9;have e1:=hcl.not 6 (i:=4) h0 κ;have hs9:=hw9.o.ba;rw[e1,Ag σ] at hs9;refine Ao rfl _ _ rfl w.heap.size rfl _ (xI ax) (0,0) _ hs9 underlying188 rfl HIa.o ?_;repeat go_step
  refine RG.xE ?_;exact⟨xQ,hw9⟩
 ·rfl
 apply RG.xS
 ·rfl
 ·rfl
 ·intro L w9 h0 hcl xQ hw9;repeat go_step
  refine(HNa.o _).mono ?_;rintro e w10 ⟨rfl,zO⟩;simp only[];repeat go_step
  refine RG.xE ?_;exact⟨xQ,ι (hw9.o.below zO)⟩
 ·rfl
 apply RG.xS
 ·rfl
 ·rfl
 ·intro L w9 h0 hcl xQ hw9;have e1:=hcl.not 6 (i:=5) h0 κ;have hs9:=hw9.o.bb;rw[e1,Ag σ] at hs9;refine Ao rfl _ _ rfl (w.heap.size+1) rfl _ (xI bx) (0,0) _ hs9 underlying188 rfl HIb.o ?_;repeat go_step
  refine RG.xE ?_;exact⟨xQ,hw9⟩
 ·rfl
 apply RG.xS
 ·rfl
 ·rfl
 ·intro L w9 h0 hcl xQ hw9;repeat go_step
  refine(HNb.o _).mono ?_;rintro e w10 ⟨rfl,zO⟩;simp only[];repeat go_step
  refine RG.xE ?_;exact⟨xQ,ι (hw9.o.below zO)⟩
 ·rfl
 apply RG.xS
 ·rfl
 ·rfl
 ·intro L w9 h0 hcl xQ hw9;have hs9:=hw9.o;rw[h0,Ag σ] at hs9;refine Av rfl _ _ _ rfl w.heap.size (xI na) rfl rfl _ _ hs9.ba yIa.o HZa.o (yM _) ?_;repeat go_step
  refine RG.xE ?_;exact⟨xQ,ι (hs9.rowA na)⟩
 ·rfl
 apply RG.xS
 ·rfl
 ·rfl
 ·intro L w9 h0 hcl xQ hw9;have hs9:=hw9.o;rw[h0,Ag (c:=false=true) σ] at hs9;refine Av rfl _ _ _ rfl (w.heap.size+1) (xI nb) rfl rfl _ _ hs9.bb yI9.o HZb.o (yM _) ?_;repeat go_step
  refine RG.xE ?_;exact⟨xQ,ι (hs9.rowB nb)⟩
 ·rfl
 refine RG.yY (λw9 hw9=>?_);rw[Ah rfl,Ah rfl] at hw9;go_wp2_with fail
 go_loopw [10] (λiv W=>∃i:Nat,i<=5/\iv=.int .i64 i/\Hid (jR w (jQ na nb i) nb W)) (λiv _=>5- (intOf iv).toNat)
 case atStart=>exact⟨0,δ,rfl,hw9⟩
 case round=>
  obtain⟨i,hi,rfl,hr⟩:=hrel;clear hw9;have hxl:(jQ na nb i).length=5:=by rw[xGh,hna]
  have hxu:=xRi nb hua i
  by_cases hlt:i<5
  ·have HS:Hid (jQ na nb (i+1)=(jQ na nb i).set i (IntKind.u64.wrap ((jQ na nb i).getD i 0+nb.getD i 0))):=ι rfl;obtain⟨s,hs⟩:=eX (jQ na nb (i+1));rw[hs] at HS;have HSE:=ι hs;clear hs;generalize jQ na nb i=xs at hr hxl hxu HS;obtain⟨x,hx⟩:=eX (xs.getD i 0)
   obtain⟨y,hy⟩:=eX (nb.getD i 0);obtain⟨x0,x1⟩:=hxu i;obtain⟨y0,y1⟩:=hub i;rw[hx] at x0 x1;rw[hy] at y0 y1;rw[hx,hy] at HS;have HX:=ι hx;obtain⟨z,hz⟩:=eX (IntKind.u64.wrap (x+y));rw[hz] at HS;have HZ:=ι hz;go_upto_region 5 with fail
   refine RG.zA 9 (λL W=>Hid (jR w (if L 8 then xs.set i z else xs) nb W)) (λL L' W h hI=>by rw[<-h 8 δ];exact hI) κ κ rfl (ι hr.o.drew) ?_;iterate 2 refine RG.cS ?_
   apply RG.xS
   ·rfl
   ·rfl
   ·intro L w9 h0 hcl xQ hw9;have e1:=hcl.not 9 (i:=8) h0 κ;have hs9:=hw9.o;rw[e1,Ag σ] at hs9;have q:=hs9.ba.cell (i:=i) ω;rw[hx] at q;clear e1 hs9;repeat go_step
    refine RG.xE ?_;exact⟨xQ,hw9⟩
   ·rfl
   iterate 2 refine RG.cS ?_
   apply RG.xS
   ·rfl
   ·rfl
   ·intro L w9 h0 hcl xQ hw9;have q:=hw9.o.bb.cell (i:=i) ω;rw[hy] at q;repeat go_step
    refine RG.xE ?_;exact⟨xQ,hw9⟩
   ·rfl
   refine RG.cS ?_;refine RG.cS ?_;apply RG.xS
   ·rfl
   ·rfl
   ·intro L w9 h0 hcl xQ hw9;have hs9:=hw9.o;rw[h0,Ag σ] at hs9;have q1:=hs9.ba.cell (i:=i) ω;have q2:=hs9.ba.free i;rw[hx] at q1;have hp:Hid (jR w (xs.set i z) nb (w9.setCell (θ w.heap.size i) (.int .u64 z))):=ι (hs9.put i z);clear hs9;repeat go_step
    refine RG.xE ?_;refine⟨xQ,?_⟩;show Hid (jR w (if (true:Bool)=true then xs.set i z else xs) nb _);rw[Ah rfl];with_reducible exact hp
   ·rfl
   refine RG.yY (λw9 hw9=>?_);rw[Ah rfl,<-HS.o] at hw9;clear hr;go_wp2;exact⟨⟨i+1,ω,by go_num,by rw[HSE.o];exact hw9⟩,by simp[intOf];omega⟩
  ·have HRi:=ι (HR.o i ω);generalize jQ na nb i=xs at hr hxl hxu HRi;have HIx:=ι (vW hxl);have HIr:=ι (vW hrl);have HZr:Hid ((xI (List.replicate 5 0)).size=(xI res).size):=ι (xCp σ hrl);have HNx:=ι (λW=>kI xs W hxl hxu);rw[<-HRi.o] at HNx;clear HNa HNb HRi hxu hxl
   go_upto_region 7 with fail
   refine Bi ?_;refine Ao rfl _ _ rfl w.heap.size rfl _ (xI xs) (0,0) _ hr.o.ba underlying188 rfl HIx.o ?_;repeat go_step
   refine cM (HNx.o _) λw7 hb7=>?_;have h7:=hr.o.below hb7;go_wp2_with (refine Av rfl _ _ _ rfl (w.heap.size+1+1) (xI res) rfl rfl _ _ h7.bz HIr.o HZr.o (yM _) ?_)
   refine Ak (Dn rfl _ _ (w.heap.size+1+1) _ _ (0,0) _ rfl (Bp _ _ _ _ _ _ h7.bz) underlying188 rfl HIr.o) rfl ?_;exact⟨rfl,Bn h7.bel ω _⟩
theorem yJy (ax bx:List Int) (w:World) (hl:ax.length=5) (hu:yT ax) (hl2:bx.length=5) (hu2:yT bx):
  Calls prog 167 #[.agg (xI ax),.agg (xI bx)] w (pv (.agg (xI (xHt ax bx))) w):=by
 have HNa:=ι (λW=>kI ax W hl hu);have HNb:=ι (λW=>kI bx W hl2 hu2);have HIa:=ι (vW hl);have HIb:=ι (vW hl2);have yIa:=ι (vW (zW ax));have yI9:=ι (vW (zW bx));have HZa:=ι (xCp hl (zW ax));have HZb:=ι (xCp hl2 (zW bx));have hna:=zW ax;have hnb:=zW bx;have hua:=jO ax;have hub:=jO bx
 have H0:=ι (jR.start (w:=w) ax bx);have HR:Hid (∀n,n=4->xHt ax bx=zQ (xOy (zQ ax) (zQ bx) n)):=ι (λn hn=>by rw[hn];rfl);obtain⟨res,hres⟩:=eX (xHt ax bx);have hrl:res.length=5:=by rw[<-hres];rfl
 rw[hres] at HR⊢;clear hres hl hu hl2 hu2;generalize zQ ax=na at HNa yIa HZa hna hua HR;generalize zQ bx=nb at HNb yI9 HZb hnb hub HR;go_enter func167,ntmps167;go_upto_region 1 with fail
 refine(λ(h:∀W3,Hid (jR w ax bx W3)->Code.wp _ _ _ _ W3)=>h _ H0) ?_;clear H0;intro W0 H0;refine RG.zA 6 (λL W=>Hid (jR w (if L 4 then na else ax) (if L 5 then nb else bx) W)) (λL L' W h hI=>by rw[<-h 4 δ,<-h 5 δ];exact hI) κ κ rfl (ι H0.o.drew) ?_;clear H0;apply RG.xS
 ·rfl
 ·rfl
 ·intro L w9 h0 hcl xQ hw9;have e1:=hcl.not 6 (i:=4) h0 κ;have hs9:=hw9.o.ba;rw[e1,Ag σ] at hs9;refine Ao rfl _ _ rfl w.heap.size rfl _ (xI ax) (0,0) _ hs9 underlying188 rfl HIa.o ?_;repeat go_step
  refine RG.xE ?_;exact⟨xQ,hw9⟩
 ·rfl
 apply RG.xS
 ·rfl
 ·rfl
 ·intro L w9 h0 hcl xQ hw9;repeat go_step
  refine(HNa.o _).mono ?_;rintro e w10 ⟨rfl,zO⟩;simp only[];repeat go_step
  refine RG.xE ?_;exact⟨xQ,ι (hw9.o.below zO)⟩
 ·rfl
 apply RG.xS
 ·rfl
 ·rfl
 ·intro L w9 h0 hcl xQ hw9;have e1:=hcl.not 6 (i:=5) h0 κ;have hs9:=hw9.o.bb;rw[e1,Ag σ] at hs9;refine Ao rfl _ _ rfl (w.heap.size+1) rfl _ (xI bx) (0,0) _ hs9 underlying188 rfl HIb.o ?_;repeat go_step
  refine RG.xE ?_;exact⟨xQ,hw9⟩
 ·rfl
 apply RG.xS
 ·rfl
 ·rfl
 ·intro L w9 h0 hcl xQ hw9;repeat go_step
  refine(HNb.o _).mono ?_;rintro e w10 ⟨rfl,zO⟩;simp only[];repeat go_step
  refine RG.xE ?_;exact⟨xQ,ι (hw9.o.below zO)⟩
 ·rfl
 apply RG.xS
 ·rfl
 ·rfl
 ·intro L w9 h0 hcl xQ hw9;have hs9:=hw9.o;rw[h0,Ag σ] at hs9;refine Av rfl _ _ _ rfl w.heap.size (xI na) rfl rfl _ _ hs9.ba yIa.o HZa.o (yM _) ?_;repeat go_step
  refine RG.xE ?_;exact⟨xQ,ι (hs9.rowA na)⟩
 ·rfl
 apply RG.xS
 ·rfl
 ·rfl
 ·intro L w9 h0 hcl xQ hw9;have hs9:=hw9.o;rw[h0,Ag (c:=false=true) σ] at hs9;refine Av rfl _ _ _ rfl (w.heap.size+1) (xI nb) rfl rfl _ _ hs9.bb yI9.o HZb.o (yM _) ?_;repeat go_step
  refine RG.xE ?_;exact⟨xQ,ι (hs9.rowB nb)⟩
 ·rfl
 refine RG.yY (λw9 hw9=>?_);rw[Ah rfl,Ah rfl] at hw9;have H1:Hid (jR w (xOy na nb 0) nb (w9.setCell (θ w.heap.size 0) (.int .u64 (IntKind.u64.wrap (na.getD 0 0+IntKind.u64.wrap (4503599627370458-nb.getD 0 0)))))):=ι (hw9.o.put 0 _);have q1:=hw9.o.ba.cell (i:=0) ω
 have q2:=hw9.o.bb.cell (i:=0) ω;have q3:=hw9.o.ba.free 0;obtain⟨x0,x1⟩:=hua 0;obtain⟨y0,y1⟩:=hub 0;generalize na.getD 0 0=x at q1 x0 x1 H1;generalize nb.getD 0 0=y at q2 y0 y1 H1;clear hw9;go_wp2_with fail
 clear q1 q2 q3 x0 x1 y0 y1
 go_loopw [5] (λiv W=>∃i k:Nat,i=k+1/\k<=4/\iv=.int .i64 i/\Hid (jR w (xOy na nb k) nb W)) (λiv _=>5- (intOf iv).toNat)
 case atStart=>exact⟨1,0,rfl,δ,rfl,H1⟩
 case round=>
  obtain⟨i,k,hik,hi,rfl,hr⟩:=hrel;clear H1;have hxl:(xOy na nb k).length=5:=by rw[xN6,hna]
  have hxu:=yAp nb hua k
  by_cases hlt:i<5
  ·have HS:Hid (∀j,j=k+1->xOy na nb (k+1)=(xOy na nb k).set j (IntKind.u64.wrap ((xOy na nb k).getD j 0+IntKind.u64.wrap (4503599627370494-nb.getD j 0)))):=ι (λj hj=>by rw[hj];rfl)
   replace HS:=ι (HS.o i hik)
   obtain⟨s,hs⟩:=eX (xOy na nb (k+1));rw[hs] at HS;have HSE:=ι hs;clear hs;generalize xOy na nb k=xs at hr hxl hxu HS;obtain⟨x,hx⟩:=eX (xs.getD i 0);obtain⟨y,hy⟩:=eX (nb.getD i 0);obtain⟨x0,x1⟩:=hxu i;obtain⟨y0,y1⟩:=hub i;rw[hx] at x0 x1;rw[hy] at y0 y1
   rw[hx,hy] at HS;have HX:=ι hx;obtain⟨z,hz⟩:=eX (IntKind.u64.wrap (x+IntKind.u64.wrap (4503599627370494-y)));rw[hz] at HS;have HZ:=ι hz;have HIK:=ι hik;clear hik;go_upto_region 6 with fail
   refine RG.zA 10 (λL W=>Hid (jR w (if L 9 then xs.set i z else xs) nb W)) (λL L' W h hI=>by rw[<-h 9 δ];exact hI) κ κ rfl (ι hr.o.drew) ?_;iterate 2 refine RG.cS ?_
   apply RG.xS
   ·rfl
   ·rfl
   ·intro L w9 h0 hcl xQ hw9;have e1:=hcl.not 10 (i:=9) h0 κ;have hs9:=hw9.o;rw[e1,Ag σ] at hs9;have q:=hs9.ba.cell (i:=i) ω;rw[hx] at q;clear e1 hs9;repeat go_step
    refine RG.xE ?_;exact⟨xQ,hw9⟩
   ·rfl
   iterate 2 refine RG.cS ?_
   apply RG.xS
   ·rfl
   ·rfl
   ·intro L w9 h0 hcl xQ hw9;have q:=hw9.o.bb.cell (i:=i) ω;rw[hy] at q;repeat go_step
    refine RG.xE ?_;exact⟨xQ,hw9⟩
   ·rfl
   iterate 3 refine RG.cS ?_
   apply RG.xS
   ·rfl
   ·rfl
   ·intro L w9 h0 hcl xQ hw9;have hs9:=hw9.o;rw[h0,Ag σ] at hs9;have q1:=hs9.ba.cell (i:=i) ω;have q2:=hs9.ba.free i;rw[hx] at q1;have hp:Hid (jR w (xs.set i z) nb (w9.setCell (θ w.heap.size i) (.int .u64 z))):=ι (hs9.put i z);clear hs9;repeat go_step
    refine RG.xE ?_;refine⟨xQ,?_⟩;show Hid (jR w (if (true:Bool)=true then xs.set i z else xs) nb _);rw[Ah rfl];with_reducible exact hp
   ·rfl
   refine RG.yY (λw9 hw9=>?_);rw[Ah rfl,<-HS.o] at hw9;clear hr;go_wp2;exact⟨⟨i+1,k+1,by rw[HIK.o],by have:=HIK.o;omega,by go_num,by rw[HSE.o];exact hw9⟩,by simp[intOf];omega⟩
  ·have HRi:=ι (HR.o k ω);generalize xOy na nb k=xs at hr hxl hxu HRi;have HIx:=ι (vW hxl);have HIr:=ι (vW hrl);have HZr:Hid ((xI (List.replicate 5 0)).size=(xI res).size):=ι (xCp σ hrl);have HNx:=ι (λW=>kI xs W hxl hxu);rw[<-HRi.o] at HNx;clear HNa HNb HRi hxu hxl hik
   go_upto_region 7 with fail
   refine Bi ?_;refine Ao rfl _ _ rfl w.heap.size rfl _ (xI xs) (0,0) _ hr.o.ba underlying188 rfl HIx.o ?_;repeat go_step
   refine cM (HNx.o _) λw7 hb7=>?_;have h7:=hr.o.below hb7;go_wp2_with (refine Av rfl _ _ _ rfl (w.heap.size+1+1) (xI res) rfl rfl _ _ h7.bz HIr.o HZr.o (yM _) ?_)
   refine Ak (Dn rfl _ _ (w.heap.size+1+1) _ _ (0,0) _ rfl (Bp _ _ _ _ _ _ h7.bz) underlying188 rfl HIr.o) rfl ?_;exact⟨rfl,Bn h7.bel ω _⟩
end Go.Proofs.FE
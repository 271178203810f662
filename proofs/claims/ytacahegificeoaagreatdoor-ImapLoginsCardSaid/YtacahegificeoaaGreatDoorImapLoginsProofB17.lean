/- Contracts of functions. Conditions: as stated. -/
import Derived.Test.YtacahegificeoaaGreatDoorImapLoginsProofB16
set_option maxHeartbeats 8000000
set_option maxRecDepth 100000
namespace Mailsack
theorem xZ9 {a b:Int} (ha:U64 a) (hb:U64 b):Go.bits .xor .u64 a (Go.bits .xor .u64 a b)=b:=by
 obtain⟨a0,a1⟩:=ha;obtain⟨b0,b1⟩:=hb;obtain⟨x,rfl⟩:=Int.eq_ofNat_of_zero_le a0;obtain⟨y,rfl⟩:=Int.eq_ofNat_of_zero_le b0;have hx:x<18446744073709551616:=by omega
 have hy:y<18446744073709551616:=by omega
 have hz:x ^^^y<18446744073709551616:=Nat.xor_lt_two_pow (n:=64) hx hy;rw[Go.bits_xor_u64_nat x y hx hy,Go.bits_xor_u64_nat x (x ^^^y) hx hz,<-Nat.xor_assoc,Nat.xor_self,Nat.zero_xor]
theorem xU4 {a b:Int} (ha:U64 a) (hb:U64 b):Go.bits .xor .u64 b (Go.bits .xor .u64 a b)=a:=by
 obtain⟨a0,a1⟩:=ha;obtain⟨b0,b1⟩:=hb;obtain⟨x,rfl⟩:=Int.eq_ofNat_of_zero_le a0;obtain⟨y,rfl⟩:=Int.eq_ofNat_of_zero_le b0;have hx:x<18446744073709551616:=by omega
 have hy:y<18446744073709551616:=by omega
 have hz:x ^^^y<18446744073709551616:=Nat.xor_lt_two_pow (n:=64) hx hy;rw[Go.bits_xor_u64_nat x y hx hy,Go.bits_xor_u64_nat y (x ^^^y) hy hz,Nat.xor_comm x y,<-Nat.xor_assoc,Nat.xor_self,Nat.zero_xor]
theorem xYi {a:Int} (ha:U64 a):Go.bits .and .u64 a 18446744073709551615=a:=by
 obtain⟨a0,a1⟩:=ha;obtain⟨x,rfl⟩:=Int.eq_ofNat_of_zero_le a0;have hx:x<18446744073709551616:=by omega
 have h:=Go.bits_and_u64_nat x 18446744073709551615 hx δ;rw[show((18446744073709551615:Nat):Int)=18446744073709551615 by rfl] at h;rw[h,show(18446744073709551615:Nat)=2^64-1 by decide,Nat.and_two_pow_sub_one_eq_mod,Nat.mod_eq_of_lt hx]
theorem yBt {a:Int} (ha:U64 a):Go.bits .and .u64 a 0=0:=by
 obtain⟨a0,a1⟩:=ha;obtain⟨x,rfl⟩:=Int.eq_ofNat_of_zero_le a0;have hx:x<18446744073709551616:=by omega
 have h:=Go.bits_and_u64_nat x 0 hx δ;rw[show((0:Nat):Int)=0 by rfl] at h;rw[h,Nat.and_zero]
 rfl
theorem xP3 {a:Int} (ha:U64 a):Go.bits .xor .u64 a 0=a:=by
 obtain⟨a0,a1⟩:=ha;obtain⟨x,rfl⟩:=Int.eq_ofNat_of_zero_le a0;have hx:x<18446744073709551616:=by omega
 have h:=Go.bits_xor_u64_nat x 0 hx δ;rw[show((0:Nat):Int)=0 by rfl] at h;rw[h,Nat.xor_zero]
def swI (a b:List Int):Nat->List Int
 |0=>a
 |i+1=>(swI a b i).set i (b.getD i 0)
theorem xNb (a b:List Int):∀i,(swI a b i).length=a.length
 |0=>rfl
 |i+1=>by rw[swI,List.length_set,xNb a b i]
theorem xV8 (a b:List Int):∀i j,i<=j->(swI a b i).getD j 0=a.getD j 0
 |0,_,_=>rfl
 |i+1,j,h=>by
  rw[swI,List.getD_eq_getElem?_getD,List.getElem?_set,if_neg ω,<-List.getD_eq_getElem?_getD];exact xV8 a b i j ω
theorem xV9 {a b:List Int} (h:a.length=5) (h2:b.length=5):swI a b 5=b:=by
 obtain⟨x0,x1,x2,x3,x4,rfl⟩:=xDw h;obtain⟨y0,y1,y2,y3,y4,rfl⟩:=xDw h2
 rfl
end Mailsack
namespace Go.Proofs.FE
open Go.RowKit Mailsack MM BB SH
theorem jL {P:Program} {fn:Func} {p q:Tmp} {ty:TypeId} (h:fn.results=#[.cell p ty,.cell q ty]) (tmps:Array Value) (w:World) (g k:Nat) (t t':TypeId) (cs ds:Array Value) (fr fr':Nat×Nat) (d:TypeDesc)
  (hp:tmps.getD p undef=.pointer (some ⟨g,0,none⟩)) (hq:tmps.getD q undef=.pointer (some ⟨k,0,none⟩)) (hg:w.heap[g]?=some (.cells cs t fr)) (hk:w.heap[k]?=some (.cells ds t' fr'))
  (hu:P.underlying ty=some d) (hd:(match d with|.struct _|.array _ _=>true|_=>false)=true) (hi:(P.info? ty).map (·.size)=some cs.size) (hi2:(P.info? ty).map (·.size)=some ds.size):
  (results fn tmps).run P w=.ok (.tuple #[.agg cs,.agg ds]) w:=by
 have hp':tmps[p]?.getD undef=.pointer (some ⟨g,0,none⟩):=by simpa using hp
 have hq':tmps[q]?.getD undef=.pointer (some ⟨k,0,none⟩):=by simpa using hq
 simp[results,h,hp',hq',asAddr,run_loadVar_row w g t ty cs fr d hg hu hd hi,run_loadVar_row w k t' ty ds fr' d hk hu hd hi2]
structure SwM (w:World) (ax bx rx sx:List Int) (W:World):Prop where
 ba:uU 240 W w.heap.size ax
 bb:uU 240 W (w.heap.size+1) bx
 br:uU 240 W (w.heap.size+2) rx
 bs:uU 240 W (w.heap.size+3) sx
 bel:Below w.heap.size w W
section
variable {w W W':World} {ax bx rx sx:List Int}
theorem SwM.start (ax bx:List Int):SwM w ax bx (List.replicate 5 0) (List.replicate 5 0) ((((w.alloc (.cells (xH ax) 240)).alloc (.cells (xH bx) 240)).alloc (.cells (xH (List.replicate 5 0)) 240)).alloc (.cells (xH (List.replicate 5 0)) 240)):=by
 have h:=vT.start (w:=w) ax bx;have hz:(((w.alloc (.cells (xH ax) 240)).alloc (.cells (xH bx) 240)).alloc (.cells (xH (List.replicate 5 0)) 240)).heap.size=w.heap.size+3:=by simp
 have hn:=xL (((w.alloc (.cells (xH ax) 240)).alloc (.cells (xH bx) 240)).alloc (.cells (xH (List.replicate 5 0)) 240)) (.cells (xH (List.replicate 5 0)) 240);rw[hz] at hn;exact⟨xK h.ba _,xK h.bb _,xK h.bz _,hn,h.bel.alloc (by rw[hz];omega) _⟩
theorem SwM.drew (h:SwM w ax bx rx sx W):SwM w ax bx rx sx W.drew:=⟨h.ba,h.bb,h.br,h.bs,h.bel.drew⟩
theorem SwM.putA (h:SwM w ax bx rx sx W) (i:Nat) (x:Int):SwM w (ax.set i x) bx rx sx (W.setCell ⟨w.heap.size,i,none⟩ (.int .u64 x)):=
 ⟨h.ba.put i x,h.bb.far (p:=⟨w.heap.size,i,none⟩) σ _,h.br.far (p:=⟨w.heap.size,i,none⟩) σ _,h.bs.far (p:=⟨w.heap.size,i,none⟩) σ _,h.bel.setCell (p:=⟨w.heap.size,i,none⟩) ν _⟩
theorem SwM.yA2 (h:SwM w ax bx rx sx W) (i:Nat) (x:Int):SwM w ax (bx.set i x) rx sx (W.setCell ⟨w.heap.size+1,i,none⟩ (.int .u64 x)):=
 ⟨h.ba.far (p:=⟨w.heap.size+1,i,none⟩) σ _,h.bb.put i x,h.br.far (p:=⟨w.heap.size+1,i,none⟩) σ _,h.bs.far (p:=⟨w.heap.size+1,i,none⟩) σ _,h.bel.setCell (p:=⟨w.heap.size+1,i,none⟩) σ _⟩
theorem SwM.rowR (h:SwM w ax bx rx sx W) (xs:List Int):SwM w ax bx xs sx (W.setRow (w.heap.size+2) (xH xs)):=
 ⟨(setRow_other _ _ _ _ ω).trans h.ba,(setRow_other _ _ _ _ ω).trans h.bb,setRow_heap _ _ _ _ _ _ h.br,(setRow_other _ _ _ _ ω).trans h.bs,below_setRow h.bel ω _⟩
theorem SwM.rowS (h:SwM w ax bx rx sx W) (xs:List Int):SwM w ax bx rx xs (W.setRow (w.heap.size+3) (xH xs)):=
 ⟨(setRow_other _ _ _ _ ω).trans h.ba,(setRow_other _ _ _ _ ω).trans h.bb,(setRow_other _ _ _ _ ω).trans h.br,setRow_heap _ _ _ _ _ _ h.bs,below_setRow h.bel ω _⟩
end
theorem xZm (ax bx:List Int) (w:World) (hl:ax.length=5) (hu:yV ax) (hl2:bx.length=5) (hu2:yV bx):
  Calls Tryz.prog 245 #[.agg (xH ax),.agg (xH bx),.bool true] w λe w'=>e=.returned (.tuple #[.agg (xH bx),.agg (xH ax)])/\Below w.heap.size w w':=by
 have H0:Hid (SwM w (swI ax bx 0) (swI bx ax 0) (List.replicate 5 0) (List.replicate 5 0) _):=ι (SwM.start (w:=w) ax bx);have HL:=ι (λi=>xNb ax bx i);have HL2:=ι (λi=>xNb bx ax i)
 have HE:Hid (∀n,n=5->swI ax bx n=bx/\swI bx ax n=ax):=ι (λn hn=>by rw[hn];exact⟨xV9 hl hl2,xV9 hl2 hl⟩);have HA:=ι (λi=>xV8 ax bx i i ν);have HA2:=ι (λi=>xV8 bx ax i i ν);go_enter Tryz.func245,Tryz.ntmps245;go_upto_region 1 with fail
 refine(λ(h:∀W3,Hid (SwM w (swI ax bx 0) (swI bx ax 0) (List.replicate 5 0) (List.replicate 5 0) W3)->Code.wp _ _ _ _ W3)=>h _ H0) ?_;clear H0;intro W0 H0;go_wp2_with fail
 rw[show bits .xor .u64 IntKind.u64.max 0=18446744073709551615 by decide]
 go_loopw [14] (λiv W=>∃i:Nat,i<=5/\iv=.int .i64 i/\Hid (SwM w (swI ax bx i) (swI bx ax i) (List.replicate 5 0) (List.replicate 5 0) W)) (λiv _=>5- (intOf iv).toNat)
 case atStart=>exact⟨0,δ,rfl,H0⟩
 case round=>
  clear H0;obtain⟨i,hi,rfl,hr⟩:=hrel
  by_cases hlt:i<5
  ·have hll:=HL.o i;have hll2:=HL2.o i;have HPX:=ι (HA.o i);have HQX:=ι (HA2.o i);obtain⟨x0,x1⟩:=hu i;obtain⟨y0,y1⟩:=hu2 i;have HS:Hid (swI ax bx (i+1)=(swI ax bx i).set i (bx.getD i 0)/\swI bx ax (i+1)=(swI bx ax i).set i (ax.getD i 0)):=ι ⟨rfl,rfl⟩
   obtain⟨s1,hs1⟩:∃s,swI ax bx (i+1)=s:=⟨_,rfl⟩;obtain⟨s2,hs2⟩:∃s,swI bx ax (i+1)=s:=⟨_,rfl⟩;rw[hs1,hs2] at HS;have HS0:=HS;have HS1:=ι hs1;have HS2:=ι hs2;clear hs1 hs2;generalize swI ax bx i=p at hr hll HS HS0 HPX;generalize swI bx ax i=q at hr hll2 HS HS0 HQX
   generalize ax.getD i 0=x at x0 x1 HS HS0 HPX;generalize bx.getD i 0=y at y0 y1 HS HS0 HQX;obtain⟨d,hd⟩:∃d,bits .and .u64 (bits .xor .u64 x y) 18446744073709551615=d:=⟨_,rfl⟩;have hd1:bits .xor .u64 x d=y:=by rw[<-hd,xYi (zD _ _ _)];exact xZ9 ⟨x0,x1⟩ ⟨y0,y1⟩
   have hd2:bits .xor .u64 y d=x:=by rw[<-hd,xYi (zD _ _ _)];exact xU4 ⟨x0,x1⟩ ⟨y0,y1⟩
   obtain⟨d0,d3⟩:=hd▸zD .and (bits .xor .u64 x y) 18446744073709551615;have hpl:=hll.trans hl;have hql:=hll2.trans hl2;clear HS;go_upto_region 7 with fail
   refine RG.xP (λW=>Hid (SwM w p q (List.replicate 5 0) (List.replicate 5 0) W)) κ κ (ι hr.o.drew) ?_
   iterate 10
    apply RG.xJ
    ·intro w9 hw9;have q1:=hw9.o.ba.cell (i:=i) ω;have q2:=hw9.o.bb.cell (i:=i) ω;rw[HPX.o] at q1;rw[HQX.o] at q2;repeat go_step
     with_reducible exact RG.xD hw9
    ·rfl
   refine RG.xS (λw9 hw9=>?_);have HP:=ι ((hw9.o.putA i y).yA2 i x);rw[<-HS0.o.1,<-HS0.o.2] at HP;have q0:=hw9.o.ba.cell (i:=i) ω;have q1:=hw9.o.bb.cell (i:=i) ω;rw[HPX.o] at q0;rw[HQX.o] at q1;have f0:=hw9.o.ba.free i;have f1:=hw9.o.bb.free i;clear hw9 hr;go_wp2
   exact⟨⟨i+1,ω,by go_num,by rw[HS1.o,HS2.o];exact HP⟩,by simp[intOf];omega⟩
  ·have hie:i=5:=by omega
   obtain⟨e1,e2⟩:=HE.o i hie;rw[e1,e2] at hr;have HIa:=ι (uF hl2);have HIb:=ι (uF hl);have HZa:Hid ((xH (List.replicate 5 0)).size=(xH bx).size):=ι (xAf σ hl2);have HZb:Hid ((xH (List.replicate 5 0)).size=(xH ax).size):=ι (xAf σ hl)
   clear HA HA2 HL HL2 HE hie e1 e2 hu hu2 hl hl2;go_upto_region 11 with fail
   refine RG.yT 4 (λL W=>Hid (SwM w bx ax (if L 2 then bx else List.replicate 5 0) (if L 3 then ax else List.replicate 5 0) W)) (λL L' W h hI=>by rw[<-h 2 δ,<-h 3 δ];exact hI) κ κ rfl (ι hr.o.drew) ?_;clear hr;apply RG.xR
   ·rfl
   ·rfl
   ·intro L w9 h0 hcl xN hw9;refine wpList_load_row rfl _ _ rfl w.heap.size rfl _ (xH bx) (0,0) _ hw9.o.ba Tryz.underlying240 rfl HIa.o ?_;repeat go_step
    with_reducible refine RG.xD ?_
    exact⟨xN,hw9⟩
   ·rfl
   apply RG.xR
   ·rfl
   ·rfl
   ·intro L w9 h0 hcl xN hw9;refine wpList_load_row rfl _ _ rfl (w.heap.size+1) rfl _ (xH ax) (0,0) _ hw9.o.bb Tryz.underlying240 rfl HIb.o ?_;repeat go_step
    with_reducible refine RG.xD ?_
    exact⟨xN,hw9⟩
   ·rfl
   apply RG.xR
   ·rfl
   ·rfl
   ·intro L w9 h0 hcl xN hw9;have hs9:=hw9.o;rw[h0,if_neg σ] at hs9;refine wpList_store_row rfl _ _ _ rfl (w.heap.size+2) (xH bx) rfl rfl _ _ hs9.br HIa.o HZa.o (yC _) ?_;repeat go_step
    with_reducible refine RG.xD ?_
    exact⟨xN,ι (hs9.rowR bx)⟩
   ·rfl
   apply RG.xR
   ·rfl
   ·rfl
   ·intro L w9 h0 hcl xN hw9;have hs9:=hw9.o;rw[h0,if_neg (c:=false=true) σ] at hs9;refine wpList_store_row rfl _ _ _ rfl (w.heap.size+3) (xH ax) rfl rfl _ _ hs9.bs HIb.o HZb.o (yC _) ?_;repeat go_step
    with_reducible refine RG.xD ?_
    exact⟨xN,ι (hs9.rowS ax)⟩
   ·rfl
   refine RG.yI (λw9 hw9=>?_);rw[if_pos rfl,if_pos rfl] at hw9;go_wp2;refine bodyPost_ret (jL rfl _ _ (w.heap.size+2) (w.heap.size+3) _ _ _ _ (0,0) (0,0) _ rfl rfl hw9.o.br hw9.o.bs Tryz.underlying240 rfl HIa.o HIb.o) rfl ?_;exact⟨rfl,hw9.o.bel⟩
theorem set_self {l:List Int} {i:Nat} {x:Int} (h:i<l.length) (hx:l.getD i 0=x):l.set i x=l:=by
 rw[<-hx,List.getD_eq_getElem?_getD,List.getElem?_eq_getElem h];exact List.set_getElem_self h
theorem yD8 (ax bx:List Int) (w:World) (hl:ax.length=5) (hu:yV ax) (hl2:bx.length=5) (hu2:yV bx):
  Calls Tryz.prog 245 #[.agg (xH ax),.agg (xH bx),.bool false] w λe w'=>e=.returned (.tuple #[.agg (xH ax),.agg (xH bx)])/\Below w.heap.size w w':=by
 have H0:=ι (SwM.start (w:=w) ax bx);go_enter Tryz.func245,Tryz.ntmps245;go_upto_region 1 with fail
 refine(λ(h:∀W3,Hid (SwM w ax bx (List.replicate 5 0) (List.replicate 5 0) W3)->Code.wp _ _ _ _ W3)=>h _ H0) ?_;clear H0;intro W0 H0;go_wp2_with fail
 go_loopw [14] (λiv W=>∃i:Nat,i<=5/\iv=.int .i64 i/\Hid (SwM w ax bx (List.replicate 5 0) (List.replicate 5 0) W)) (λiv _=>5- (intOf iv).toNat)
 case atStart=>exact⟨0,δ,rfl,H0⟩
 case round=>
  clear H0;obtain⟨i,hi,rfl,hr⟩:=hrel
  by_cases hlt:i<5
  ·obtain⟨x,hx⟩:∃x,ax.getD i 0=x:=⟨_,rfl⟩;obtain⟨y,hy⟩:∃y,bx.getD i 0=y:=⟨_,rfl⟩;obtain⟨x0,x1⟩:=hx▸hu i;obtain⟨y0,y1⟩:=hy▸hu2 i;have HSX:=ι (set_self ω hx);have HSY:=ι (set_self ω hy);have HPX:=ι hx;have HQX:=ι hy;have hd:bits .and .u64 (bits .xor .u64 x y) 0=0:=yBt (zD _ _ _)
   have hd1:bits .xor .u64 x 0=x:=xP3 ⟨x0,x1⟩;have hd2:bits .xor .u64 y 0=y:=xP3 ⟨y0,y1⟩;clear hx hy;go_upto_region 7 with fail
   refine RG.xP (λW=>Hid (SwM w ax bx (List.replicate 5 0) (List.replicate 5 0) W)) κ κ (ι hr.o.drew) ?_
   iterate 10
    apply RG.xJ
    ·intro w9 hw9;have q1:=hw9.o.ba.cell (i:=i) ω;have q2:=hw9.o.bb.cell (i:=i) ω;rw[HPX.o] at q1;rw[HQX.o] at q2;repeat go_step
     with_reducible exact RG.xD hw9
    ·rfl
   refine RG.xS (λw9 hw9=>?_);have HP:=ι ((hw9.o.putA i x).yA2 i y);rw[HSX.o,HSY.o] at HP;have q0:=hw9.o.ba.cell (i:=i) ω;have q1:=hw9.o.bb.cell (i:=i) ω;rw[HPX.o] at q0;rw[HQX.o] at q1;have f0:=hw9.o.ba.free i;have f1:=hw9.o.bb.free i;clear hw9 hr;go_wp2
   exact⟨⟨i+1,ω,by go_num,HP⟩,by simp[intOf];omega⟩
  ·have hie:i=5:=by omega
   have HIa:=ι (uF hl);have HIb:=ι (uF hl2);have HZa:Hid ((xH (List.replicate 5 0)).size=(xH ax).size):=ι (xAf σ hl);have HZb:Hid ((xH (List.replicate 5 0)).size=(xH bx).size):=ι (xAf σ hl2);clear hie hu hu2 hl hl2;go_upto_region 11 with fail
   refine RG.yT 4 (λL W=>Hid (SwM w ax bx (if L 2 then ax else List.replicate 5 0) (if L 3 then bx else List.replicate 5 0) W)) (λL L' W h hI=>by rw[<-h 2 δ,<-h 3 δ];exact hI) κ κ rfl (ι hr.o.drew) ?_;clear hr;apply RG.xR
   ·rfl
   ·rfl
   ·intro L w9 h0 hcl xN hw9;refine wpList_load_row rfl _ _ rfl w.heap.size rfl _ (xH ax) (0,0) _ hw9.o.ba Tryz.underlying240 rfl HIa.o ?_;repeat go_step
    with_reducible refine RG.xD ?_
    exact⟨xN,hw9⟩
   ·rfl
   apply RG.xR
   ·rfl
   ·rfl
   ·intro L w9 h0 hcl xN hw9;refine wpList_load_row rfl _ _ rfl (w.heap.size+1) rfl _ (xH bx) (0,0) _ hw9.o.bb Tryz.underlying240 rfl HIb.o ?_;repeat go_step
    with_reducible refine RG.xD ?_
    exact⟨xN,hw9⟩
   ·rfl
   apply RG.xR
   ·rfl
   ·rfl
   ·intro L w9 h0 hcl xN hw9;have hs9:=hw9.o;rw[h0,if_neg σ] at hs9;refine wpList_store_row rfl _ _ _ rfl (w.heap.size+2) (xH ax) rfl rfl _ _ hs9.br HIa.o HZa.o (yC _) ?_;repeat go_step
    with_reducible refine RG.xD ?_
    exact⟨xN,ι (hs9.rowR ax)⟩
   ·rfl
   apply RG.xR
   ·rfl
   ·rfl
   ·intro L w9 h0 hcl xN hw9;have hs9:=hw9.o;rw[h0,if_neg (c:=false=true) σ] at hs9;refine wpList_store_row rfl _ _ _ rfl (w.heap.size+3) (xH bx) rfl rfl _ _ hs9.bs HIb.o HZb.o (yC _) ?_;repeat go_step
    with_reducible refine RG.xD ?_
    exact⟨xN,ι (hs9.rowS bx)⟩
   ·rfl
   refine RG.yI (λw9 hw9=>?_);rw[if_pos rfl,if_pos rfl] at hw9;go_wp2;refine bodyPost_ret (jL rfl _ _ (w.heap.size+2) (w.heap.size+3) _ _ _ _ (0,0) (0,0) _ rfl rfl hw9.o.br hw9.o.bs Tryz.underlying240 rfl HIa.o HIb.o) rfl ?_;exact⟨rfl,hw9.o.bel⟩
end Go.Proofs.FE
namespace Mailsack
def pV (l:List Int):List Int:=[Go.bits .or .u64 (l.getD 0 0) (Go.IntKind.u64.wrap (l.getD 1 0*2251799813685248)),Go.bits .or .u64 (l.getD 1 0 / 8192) (Go.IntKind.u64.wrap (l.getD 2 0*274877906944)),Go.bits .or .u64 (l.getD 2 0 / 67108864) (Go.IntKind.u64.wrap (l.getD 3 0*33554432)),Go.bits .or .u64 (l.getD 3 0 / 549755813888) (Go.IntKind.u64.wrap (l.getD 4 0*4096))]
theorem xZb (l:List Int):yV (pV l):=by
 intro i
 match i with
 |0=>unfold pV;simp only[List.getD_cons_zero];exact zD _ _ _
 |1=>unfold pV;simp only[List.getD_cons_zero,List.getD_cons_succ];exact zD _ _ _
 |2=>unfold pV;simp only[List.getD_cons_zero,List.getD_cons_succ];exact zD _ _ _
 |3=>unfold pV;simp only[List.getD_cons_zero,List.getD_cons_succ];exact zD _ _ _
 |n+4=>
  rw[List.getD_eq_getElem?_getD,List.getElem?_eq_none (by simp[pV])];exact⟨δ,δ⟩
def xTw (ws:List Int):Nat->Bs
 |0=>xQ 32
 |i+1=>(xTw ws i).set i (oct (ws.getD (i / 8) 0 / 2^(8*(i % 8))))
theorem xJ5 (ws:List Int):∀i,(xTw ws i).length=32
 |0=>zC 32
 |i+1=>by rw[xTw,List.length_set,xJ5 ws i]
def xCa (a:List Int):ByteArray:=bsA (xTw (pV (xAa a)) 32)
theorem xM8 (a:List Int):(xCa a).size=32:=by rw[xCa,yS,xJ5]
def wI (s:ByteArray):Nat->List Int
 |0=>List.replicate 4 0
 |i+1=>(wI s i).set (i / 8) (Go.bits .or .u64 ((wI s i).getD (i / 8) 0) (Go.IntKind.u64.wrap (yO s i*2^(8*(i % 8)))))
theorem yC0 (s:ByteArray):∀i,(wI s i).length=4
 |0=>by simp[wI]
 |i+1=>by rw[wI,List.length_set,yC0 s i]
theorem wI_u (s:ByteArray):∀i,yV (wI s i)
 |0=>xBy 4
 |i+1=>(wI_u s i).set _ (zD _ _ _)
def xWg (w:List Int):List Int:=[Go.bits .and .u64 (w.getD 0 0) 2251799813685247,Go.bits .and .u64 (Go.bits .or .u64 (w.getD 0 0 / 2251799813685248) (Go.IntKind.u64.wrap (w.getD 1 0*8192))) 2251799813685247,Go.bits .and .u64 (Go.bits .or .u64 (w.getD 1 0 / 274877906944) (Go.IntKind.u64.wrap (w.getD 2 0*67108864))) 2251799813685247,Go.bits .and .u64 (Go.bits .or .u64 (w.getD 2 0 / 33554432) (Go.IntKind.u64.wrap (w.getD 3 0*549755813888))) 2251799813685247,Go.bits .and .u64 (w.getD 3 0 / 4096) 2251799813685247]
def yCh (s:ByteArray):List Int:=xWg (wI s 32)
theorem yBd (s:ByteArray):(yCh s).length=5:=rfl
theorem yAn (w:List Int):yV (xWg w):=xDe (zD _ _ _) (zD _ _ _) (zD _ _ _) (zD _ _ _) (zD _ _ _)
theorem feOf_u (s:ByteArray):yV (yCh s):=yAn _
theorem yEv {ws:List Int} (h:ws.length=4):∃a b c d,ws=[a,b,c,d]:=by
 match ws,h with
 |[a,b,c,d],_=>exact⟨a,b,c,d,rfl⟩
end Mailsack
namespace Go.Proofs.FE
open Go.RowKit Mailsack MM BB SH
structure ByM (w:World) (ax:List Int) (W:World):Prop where
 ba:uU 240 W w.heap.size ax
 bel:Below w.heap.size w W
structure ByL (w:World) (g:Nat) (ws:List Int) (l:Bs) (W:World):Prop where
 bw:uU 319 W g ws
 bo:W.heap[g+1]?=some (.cells (yJ l) 251 (0,0))
 bel:Below w.heap.size w W
 ge:w.heap.size<=g
theorem ByL.put {w W:World} {g:Nat} {ws:List Int} {l:Bs} (h:ByL w g ws l W) (i:Nat) (z:Int):ByL w g ws (l.set i (oct z)) (W.setCell ⟨g+1,i,none⟩ (.int .u8 (z % 256))):=by
 have hg:=h.ge;have h2:=xY h.bo i (.int .u8 (z % 256));rw[xD8] at h2;exact⟨h.bw.far (p:=⟨g+1,i,none⟩) σ _,h2,h.bel.setCell (p:=⟨g+1,i,none⟩) (by simp only[];omega) _,hg⟩
theorem xYb (ax:List Int) (w:World) (hl:ax.length=5) (hu:yV ax):
  Calls Tryz.prog 173 #[.agg (xH ax)] w λe w'=>e=.returned (.string (xCa ax))/\Below w.heap.size w w':=by
 have HN:=ι (λW=>xOh ax W hl hu);have HIa:=ι (uF hl);have HIn:=ι (uF (xC9 ax));have HZa:=ι (xAf hl (xC9 ax));have hnl:=xC9 ax;have hnu:=xXn ax;have H0:Hid (ByM w ax (w.alloc (.cells (xH ax) 240))):=ι ⟨xL _ _,(Below.refl w.heap.size w).alloc ν _⟩
 have HR:Hid (∀n,n=32->xCa ax=bsA (xTw (pV (xAa ax)) n)):=ι (λn hn=>by rw[hn];rfl);generalize xCa ax=res at HR⊢;generalize xAa ax=na at HN HIn HZa hnl hnu HR;clear hl hu;go_enter Tryz.func173,Tryz.ntmps173;go_upto_region 1 with fail
 refine(λ(h:∀W3,Hid (ByM w ax W3)->Code.wp _ _ _ _ W3)=>h _ H0) ?_;clear H0;intro W0 H0;refine wp_region_lit ?_;refine wpList_load_row rfl _ _ rfl w.heap.size rfl _ (xH ax) (0,0) _ H0.o.ba Tryz.underlying240 rfl HIa.o ?_;repeat go_step
 refine(HN.o _).mono ?_;rintro e w7 ⟨rfl,hb7⟩;have h7:ByM w ax w7:=⟨H0.o.ba.below hb7,H0.o.bel.trans (hb7.mono H0.o.bel.size)⟩;have H8:Hid (ByM w na (w7.setRow w.heap.size (xH na))):=ι ⟨setRow_heap _ _ _ _ _ _ h7.ba,below_setRow h7.bel ν _⟩;clear H0 hb7
 obtain⟨a,b,c,d,e,rfl⟩:=xDw hnl;have ha:=hnu 0;have hb:=hnu 1;have hc:=hnu 2;have hd:=hnu 3;have he:=hnu 4;simp only[List.getD_cons_zero,List.getD_cons_succ] at ha hb hc hd he;obtain⟨a0,a1⟩:=ha;obtain⟨b0,b1⟩:=hb;obtain⟨c0,c1⟩:=hc;obtain⟨d0,d1⟩:=hd;obtain⟨e0,e1⟩:=he
 have q0:(w7.setRow w.heap.size (xH [a,b,c,d,e])).cell? ⟨w.heap.size,0,none⟩=some (.int .u64 a):=H8.o.ba.cell (i:=0) σ;have q1:(w7.setRow w.heap.size (xH [a,b,c,d,e])).cell? ⟨w.heap.size,1,none⟩=some (.int .u64 b):=H8.o.ba.cell (i:=1) σ
 have q2:(w7.setRow w.heap.size (xH [a,b,c,d,e])).cell? ⟨w.heap.size,2,none⟩=some (.int .u64 c):=H8.o.ba.cell (i:=2) σ;have q3:(w7.setRow w.heap.size (xH [a,b,c,d,e])).cell? ⟨w.heap.size,3,none⟩=some (.int .u64 d):=H8.o.ba.cell (i:=3) σ
 have q4:(w7.setRow w.heap.size (xH [a,b,c,d,e])).cell? ⟨w.heap.size,4,none⟩=some (.int .u64 e):=H8.o.ba.cell (i:=4) σ;clear hnu hnl HN;generalize hrow:xH [a,b,c,d,e]=row at*
 go_wp2_with (refine wpList_store_row rfl _ _ _ rfl w.heap.size row rfl rfl _ _ h7.ba HIn.o HZa.o (by rw[<-hrow];exact yC _) ?_)
 clear q0 q1 q2 q3 q4 HIn HZa HIa;have hz:(w7.setRow w.heap.size row).heap.size=w7.heap.size:=setRow_size _ _ _;have h1:=xK (xL (w7.setRow w.heap.size row) (.cells (xH (pV [a,b,c,d,e])) 319)) (.cells (yJ (xQ 32)) 251)
 have h2:=xL ((w7.setRow w.heap.size row).alloc (.cells (xH (pV [a,b,c,d,e])) 319)) (.cells (yJ (xQ 32)) 251);rw[uX] at h2;rw[hz] at h1 h2
 refine(λ(h:∀W3,Hid (ByL w w7.heap.size (pV [a,b,c,d,e]) (xQ 32) W3)->Code.wp _ _ _ _ W3)=>h _ (ι ⟨h1,h2,(H8.o.bel.alloc (by rw[hz];exact h7.bel.size) _).alloc (by rw[uX,hz];have:=h7.bel.size;omega) _,h7.bel.size⟩)) ?_;clear H8 h7 hz h1 h2 hrow;have hwu:=xZb [a,b,c,d,e]
 have hwl:(pV [a,b,c,d,e]).length=4:=rfl;generalize pV [a,b,c,d,e]=ws at hwu hwl HR⊢;generalize w7.heap.size=g;clear a0 a1 b0 b1 c0 c1 d0 d1 e0 e1;intro W1 H1;have H2:Hid (ByL w g ws (xTw ws 0) W1):=H1;clear H1;have HL:=ι (λi=>xJ5 ws i)
 go_loopw [36] (λiv W=>∃i:Nat,i<=32/\iv=.int .i64 i/\Hid (ByL w g ws (xTw ws i) W)) (λiv _=>32- (intOf iv).toNat)
 case atStart=>exact⟨0,δ,rfl,H2⟩
 case round=>
  clear H2;obtain⟨i,hi,rfl,hr⟩:=hrel
  by_cases hlt:i<32
  ·have HS:Hid (∀q r,q=i / 8->r=i % 8->xTw ws (i+1)=(xTw ws i).set i (oct (ws.getD q 0 / 2^(8*r)))):=ι (λq r hq hr=>by rw[hq,hr];rfl);have hll:=HL.o i;obtain⟨q,hq⟩:∃q,q=i / 8:=⟨_,rfl⟩;obtain⟨r,hrr⟩:∃r,r=i % 8:=⟨_,rfl⟩
   replace HS:=ι (HS.o q r hq hrr)
   have hq4:q<4:=by omega
   have hr8:r<8:=by omega
   have hiq:(i:Int) / 8=(q:Int):=by omega
   have hir:(i:Int) % 8=(r:Int):=by omega
   obtain⟨s1,hs1⟩:∃s,xTw ws (i+1)=s:=⟨_,rfl⟩;rw[hs1] at HS;have HS1:=ι hs1;clear hs1 hq hrr;generalize xTw ws i=l at hr hll HS;obtain⟨x0,x1⟩:=hwu q;have q0:=hr.o.bw.cell (i:=q) ω;generalize ws.getD q 0=x at q0 x0 x1 HS;have q1:=xA hr.o.bo i;rw[qN ω] at q1;have q2:=xC hr.o.bo i
   generalize ((l.getD i 0).toNat:Int)=old at q1;have HP:=ι (hr.o.put i (x / 2^(8*r)));rw[<-HS.o] at HP;clear hr HS;go_wp2;exact⟨⟨i+1,ω,by go_num,by rw[HS1.o];exact HP⟩,by simp[intOf];omega⟩
  ·have hie:i=32:=by omega
   have HRi:=ι (HR.o i hie);have HT:=xCi (t:=251) hr.o.bo 32 32 (HL.o i);have hneg:¬((i:Int)<32):=by omega
   clear HR HL hie hlt hi;generalize xTw ws i=l at hr HRi HT;go_wp2;go_ret;rw[HRi.o];exact⟨rfl,hr.o.bel⟩
structure OfM (w:World) (ws:List Int) (W:World):Prop where
 bz:uU 240 W w.heap.size (List.replicate 5 0)
 bw:uU 319 W (w.heap.size+1) ws
 bel:Below w.heap.size w W
theorem OfM.drew {w W:World} {ws:List Int} (h:OfM w ws W):OfM w ws W.drew:=⟨h.bz,h.bw,h.bel.drew⟩
theorem OfM.put {w W:World} {ws:List Int} (h:OfM w ws W) (i:Nat) (x:Int):OfM w (ws.set i x) (W.setCell ⟨w.heap.size+1,i,none⟩ (.int .u64 x)):=
 ⟨h.bz.far (p:=⟨w.heap.size+1,i,none⟩) σ _,h.bw.put i x,h.bel.setCell (p:=⟨w.heap.size+1,i,none⟩) σ _⟩
theorem of_any (s:ByteArray) (w:World) (hs:s.size=32):
  Calls Tryz.prog 170 #[.string s] w λe w'=>e=.returned (.tuple #[.agg (xH (yCh s)),.bool true])/\Below w.heap.size w w':=by
 have hsi:(s.size:Int)=32:=by omega
 have H0:Hid (OfM w (wI s 0) ((w.alloc (.cells (xH (List.replicate 5 0)) 240)).alloc (.cells (xH (List.replicate 4 0)) 319))):=ι ⟨zG _ _ _,yX _ _ _,((Below.refl w.heap.size w).alloc ν _).alloc σ _⟩;have HR:Hid (∀n,n=32->yCh s=xWg (wI s n)):=ι (λn hn=>by rw[hn];rfl)
 have HL:=ι (λi=>yC0 s i);have HU:=ι (λi=>wI_u s i);obtain⟨res,hres⟩:∃x,yCh s=x:=⟨_,rfl⟩;have hrl:res.length=5:=by rw[<-hres];rfl
 rw[hres] at HR⊢;have HS:=ι hs;clear hres hs;go_enter Tryz.func170,Tryz.ntmps170;go_upto_region 4 with fail
 refine(λ(h:∀W3,Hid (OfM w (wI s 0) W3)->Code.wp _ _ _ _ W3)=>h _ H0) ?_;clear H0;intro W0 H0;go_wp2_with fail
 go_loopw [12] (λiv W=>∃i:Nat,i<=32/\iv=.int .i64 i/\Hid (OfM w (wI s i) W)) (λiv _=>32- (intOf iv).toNat)
 case atStart=>exact⟨0,δ,rfl,H0⟩
 case round=>
  clear H0;obtain⟨i,hi,rfl,hr⟩:=hrel
  by_cases hlt:i<32
  ·have HSt:Hid (∀q r,q=i / 8->r=i % 8->wI s (i+1)=(wI s i).set q (bits .or .u64 ((wI s i).getD q 0) (IntKind.u64.wrap (yO s i*2^(8*r))))):=ι (λq r hq hr=>by rw[hq,hr];rfl);have hll:=HL.o i;obtain⟨q,hq⟩:∃q,q=i / 8:=⟨_,rfl⟩;obtain⟨r,hrr⟩:∃r,r=i % 8:=⟨_,rfl⟩
   replace HSt:=ι (HSt.o q r hq hrr)
   have hq4:q<4:=by omega
   have hr8:r<8:=by omega
   have hiq:(i:Int) / 8=(q:Int):=by omega
   have hir:(i:Int) % 8=(r:Int):=by omega
   obtain⟨s1,hs1⟩:∃z,wI s (i+1)=z:=⟨_,rfl⟩;rw[hs1] at HSt;have HS1:=ι hs1;have hu:=HU.o i q;have ix:=λw=>zH (P:=Tryz.prog) Tryz.underlying9 s (i:Int) i rfl (by rw[HS.o];exact hlt) w;obtain⟨b0,b1⟩:=yQ s i;clear hs1 hq hrr;generalize wI s i=l at hr hll hu HSt
   obtain⟨x,hx⟩:∃x,l.getD q 0=x:=⟨_,rfl⟩;rw[hx] at hu HSt;obtain⟨x0,x1⟩:=hu;have HX:=ι hx;generalize yO s i=b at ix b0 b1 HSt;obtain⟨z,hz⟩:∃z,bits .or .u64 x (IntKind.u64.wrap (b*2^(8*r)))=z:=⟨_,rfl⟩;rw[hz] at HSt;have HZ:=ι hz;clear hx;go_upto_region 7 with fail
   refine RG.yT 15 (λL W=>Hid (OfM w (if L 14 then l.set q z else l) W)) (λL L' W h hI=>by rw[<-h 14 δ];exact hI) κ κ rfl (ι hr.o.drew) ?_;iterate 3 refine RG.cS ?_
   apply RG.xR
   ·rfl
   ·rfl
   ·intro L w9 h0 hcl xN hw9;have e1:=hcl.not 15 (i:=14) h0 κ;have hs9:=hw9.o;rw[e1,if_neg σ] at hs9;have q:=hs9.bw.cell (i:=q) ω;rw[HX.o] at q;clear e1 hs9;repeat go_step
    with_reducible refine RG.xD ?_
    exact⟨xN,hw9⟩
   ·rfl
   iterate 10 refine RG.cS ?_
   apply RG.xR
   ·rfl
   ·rfl
   ·intro L w9 h0 hcl xN hw9;have hs9:=hw9.o;rw[h0,if_neg σ] at hs9;have q1:=hs9.bw.cell (i:=q) ω;have q2:=hs9.bw.free q;rw[HX.o] at q1;have hp:Hid (OfM w (l.set q z) (w9.setCell ⟨w.heap.size+1,q,none⟩ (.int .u64 z))):=ι (hs9.put q z);clear hs9;repeat go_step
    with_reducible refine RG.xD ?_
    refine⟨xN,?_⟩;show Hid (OfM w (if (true:Bool)=true then l.set q z else l) _);rw[if_pos rfl];with_reducible exact hp
   ·rfl
   refine RG.yI (λw9 hw9=>?_);rw[if_pos rfl,<-HSt.o] at hw9;clear hr;go_wp2;exact⟨⟨i+1,ω,by go_num,by rw[HS1.o];exact hw9⟩,by simp[intOf];omega⟩
  ·have hie:i=32:=by omega
   have HRi:=ι (HR.o i hie);obtain⟨a,b,c,d,habcd⟩:=yEv (HL.o i);have hu:=HU.o i;rw[habcd] at hr HRi hu;have ha:=hu 0;have hb:=hu 1;have hc:=hu 2;have hd:=hu 3;simp only[List.getD_cons_zero,List.getD_cons_succ] at ha hb hc hd;obtain⟨a0,a1⟩:=ha;obtain⟨b0,b1⟩:=hb;obtain⟨c0,c1⟩:=hc
   obtain⟨d0,d1⟩:=hd;have q0:wr.cell? ⟨w.heap.size+1,0,none⟩=some (.int .u64 a):=hr.o.bw.cell (i:=0) σ;have q1:wr.cell? ⟨w.heap.size+1,1,none⟩=some (.int .u64 b):=hr.o.bw.cell (i:=1) σ;have q2:wr.cell? ⟨w.heap.size+1,2,none⟩=some (.int .u64 c):=hr.o.bw.cell (i:=2) σ
   have q3:wr.cell? ⟨w.heap.size+1,3,none⟩=some (.int .u64 d):=hr.o.bw.cell (i:=3) σ;have hneg:¬((i:Int)<32):=by omega
   have HBZ:=ι hr.o.bz;have HBE:=ι hr.o.bel;clear HR HL HU hu habcd hr hie hlt hi;go_wp2_with (refine wpList_store_row rfl _ _ _ rfl w.heap.size _ rfl rfl _ _ HBZ.o (show(Tryz.prog.info? 240).map (·.size)=some 5 by kernel_rfl) rfl (by simp[Value.oneCell']) ?_)
   refine bodyPost_ret (SH.results_cell_tmp rfl _ _ w.heap.size _ _ (0,0) _ rfl (setRow_heap _ _ _ _ _ _ HBZ.o) Tryz.underlying240 rfl (show(Tryz.prog.info? 240).map (·.size)=some 5 by kernel_rfl)) rfl ?_;rw[HRi.o];exact⟨rfl,below_setRow HBE.o ν _⟩
def Bag (w:World) (B:List (Nat×TypeId×List Int)) (W:World):Prop:=Below w.heap.size w W/\∀g t ws,(g,t,ws)∈B->w.heap.size<=g/\uU t W g ws
section
variable {w W W':World} {B:List (Nat×TypeId×List Int)}
theorem Bag.get (h:Bag w B W) {g:Nat} {t:TypeId} {ws:List Int} (hm:(g,t,ws)∈B):uU t W g ws:=(h.2 g t ws hm).2
theorem Bag.lt (h:Bag w B W) {g:Nat} {t:TypeId} {ws:List Int} (hm:(g,t,ws)∈B):g<W.heap.size:=xG (h.get hm).blk
theorem Bag.below (h:Bag w B W) (hb:Below W.heap.size W W'):Bag w B W':=⟨h.1.trans (hb.mono h.1.size),λg t ws hm=>⟨(h.2 g t ws hm).1,(h.2 g t ws hm).2.below hb⟩⟩
theorem Bag.drew (h:Bag w B W):Bag w B W.drew:=⟨h.1.drew,h.2⟩
theorem Bag.alloc (h:Bag w B W) (o:Obj):Bag w B (W.alloc o):=h.below ((Below.refl _ W).alloc ν o)
theorem Bag.cons (h:Bag w B W) {g:Nat} {t:TypeId} {ws:List Int} (hg:w.heap.size<=g) (hb:uU t W g ws):Bag w ((g,t,ws)::B) W:=
 ⟨h.1,λg' t' ws' hm=>by
  rcases List.mem_cons.1 hm with e|e
  ·injection e with e1 e2;injection e2 with e2 e3;subst e1 e2 e3;exact⟨hg,hb⟩
  ·exact h.2 g' t' ws' e⟩
theorem Bag.new (h:Bag w B W) (t:TypeId) (ws:List Int):Bag w ((W.heap.size,t,ws)::B) (W.alloc (.cells (xH ws) t)):=(h.alloc _).cons h.1.size (xL _ _)
theorem Bag.far (h:Bag w B W) {g:Nat} (hg:w.heap.size<=g) (hf:∀g' t ws,(g',t,ws)∈B->g'≠g) (cs:Array Value):Bag w B (W.setRow g cs):=
 ⟨below_setRow h.1 hg _,λg' t ws hm=>⟨(h.2 g' t ws hm).1,(setRow_other _ _ _ _ (hf g' t ws hm)).trans (h.get hm)⟩⟩
end
def J1 (w:World) (B:List (Nat×TypeId×List Int)) (n s:Nat) (t:TypeId) (zs v:List Int) (L:Nat->Bool) (α:RG.Pl) (W:World):Prop:=
 Bag w B W/\(L n=true->(∀g t ws,(g,t,ws)∈B->g≠α n)/\w.heap.size<=α n/\uU t W (α n) (if L s=true then v else zs))
section
variable {w W W':World} {B:List (Nat×TypeId×List Int)} {n s:Nat} {t:TypeId} {zs v:List Int} {L:Nat->Bool} {α:RG.Pl}
theorem J1.congr {L':Nat->Bool} {α':RG.Pl} (hn:L n=L' n) (hs:L s=L' s) (ha:L n=true->α n=α' n) (h:J1 w B n s t zs v L α W):J1 w B n s t zs v L' α' W:=
 ⟨h.1,λh1=>by rw[<-hn] at h1;rw[<-hs,<-ha h1];exact h.2 h1⟩
theorem J1.start (h:Bag w B W):J1 w B n s t zs v (λ_=>false) α W.drew:=⟨h.drew,λh=>by cases h⟩
theorem J1.below (h:J1 w B n s t zs v L α W) (hb:Below W.heap.size W W'):J1 w B n s t zs v L α W':=⟨h.1.below hb,λh1=>⟨(h.2 h1).1,(h.2 h1).2.1,(h.2 h1).2.2.below hb⟩⟩
theorem J1.new (h:J1 w B n s t zs v L α W) (hs:L s=false) (hns:s≠n):J1 w B n s t zs v (λj=>j==n||L j) (RG.kE α n W.heap.size) (W.alloc (.cells (xH zs) t)):=by
 refine⟨h.1.alloc _,λ_=>?_⟩;rw[RG.rA];refine⟨λg t ws hm e=>?_,h.1.1.size,?_⟩
 ·have:=h.1.lt hm;omega
 ·rw[if_neg (by simp[hs,hns])];exact xL _ _
theorem J1.fill (h:J1 w B n s t zs v L α W) (hn:L n=true):J1 w B n s t zs v (λj=>j==s||L j) α (W.setRow (α n) (xH v)):=by
 obtain⟨h1,h2,h3⟩:=h.2 hn;refine⟨h.1.far h2 h1 _,λ_=>⟨h1,h2,?_⟩⟩;rw[if_pos σ];exact setRow_heap _ _ _ _ _ _ h3
theorem J1.done (h:J1 w B n s t zs v (λ_=>true) α W):Bag w ((α n,t,v)::B) W:=by
 obtain⟨h1,h2,h3⟩:=h.2 rfl;rw[if_pos rfl] at h3;exact h.1.cons h2 h3
end
section
variable {md:Region.Mode} {ops:Array Oper} {E N:List Nat} {J:(Nat->Bool)->RG.Pl->World->Prop} {K:RG.Pl->Act->Prop} {a A:RG.Pl->Act} {v:Value} {i:Nat} {o:Oper} {os:List Oper}
theorem aL (h2:RG.uC Tryz.prog ops md E N J K os (i+1) A) (hi:N.contains i=false:=by rfl) (he:E.contains i=false:=by rfl) (h:∀α L w,L i=false->RG.closed ops md L->RG.closed ops md (λj=>j==i||L j)->J L α w->wpList Tryz.prog ops (RG.Only (J L α) (A α)) [o] (a α) w:=by
 intro α L w9 h0 hcl xN hw9
 first
 |refine wpList_load_row rfl _ _ rfl _ rfl _ _ (0,0) _ (FE.Bag.get (FE.J1.bag hw9.o) (by repeat (first|exact List.Mem.head _|apply List.Mem.tail))) Tryz.underlying240 rfl (Go.RowKit.Hid.o (by with_reducible assumption)) ?_
 |refine wpList_load_row rfl _ _ rfl _ rfl _ _ (0,0) _ (FE.Bag.get (FE.J1.bag hw9.o.1) (by repeat (first|exact List.Mem.head _|apply List.Mem.tail))) Tryz.underlying240 rfl (Go.RowKit.Hid.o (by with_reducible assumption)) ?_
 repeat go_step
 with_reducible exact RG.xD hw9) (hd:∀α,A α=(a α).put o.dst v:=by intro α;rfl):RG.uC Tryz.prog ops md E N J K (o::os) i a:=RG.jW hi he h hd h2
theorem aC (h2:RG.uC Tryz.prog ops md E N J K os (i+1) A) (hi:N.contains i=false:=by rfl) (he:E.contains i=false:=by rfl) (h:∀α L w,L i=false->RG.closed ops md L->RG.closed ops md (λj=>j==i||L j)->J L α w->wpList Tryz.prog ops (RG.Only (J L α) (A α)) [o] (a α) w:=by
 intro α L w9 h0 hcl xN hw9;repeat go_step
 refine RG.callH (by with_reducible assumption) ?_;rintro e w10 ⟨rfl,zM⟩;simp only[];repeat go_step
 with_reducible refine RG.xD ?_
 exact ι (hw9.o.below zM)) (hd:∀α,A α=(a α).put o.dst v:=by intro α;rfl):RG.uC Tryz.prog ops md E N J K (o::os) i a:=RG.jW hi he h hd h2
theorem aN {A:Nat->RG.Pl->Act} (c s:Nat) (h2:RG.uC Tryz.prog ops md E N J K os (i+1) (λα=>A (α i) α)) (hi:N.contains i=true:=by rfl) (hk:(RG.pO ops md c s).contains i=true:=by kernel_rfl) (h:∀α L w b,b=w.heap.size->L i=false->L s=false->J L α w->wpList Tryz.prog ops (RG.Only (J (λj=>j==i||L j) (RG.kE α i b)) (A b α)) [o] (a α) w:=by
 intro α L w9 b hb h0 e5 hw9;repeat go_step
 rw[<-hb];with_reducible refine RG.xD ?_
 rw[hb]
 first
 |exact ι (hw9.o.new e5 δ)
 |exact ι (hw9.o.newA e5 δ δ δ)
 |exact ι (hw9.o.newB e5 δ δ δ)) (hd:∀b α,A b α=(a α).put o.dst (RG.ptr b):=by intro b α;rfl):RG.uC Tryz.prog ops md E N J K (o::os) i a:=
 RG.xN2 hi (λα L w b hb h0 hc hj=>h α L w b hb h0 (hc.not c h0 hk) hj) hd h2
theorem aT (c n:Nat) (h2:RG.uC Tryz.prog ops md E N J K os (i+1) A) (hi:N.contains i=false:=by rfl) (he:E.contains i=true:=by rfl) (hk:(RG.pO ops md c i).contains n=true:=by kernel_rfl) (hne:n≠i:=by decide) (h:∀α L w,L i=false->L n=true->J L α w->wpList Tryz.prog ops (RG.Only (J (λj=>j==i||L j) α) (A α)) [o] (a α) w:=by
 intro α L w9 h0 e4 hw9
 first
 |(obtain⟨h1,h2,h3⟩:=hw9.o.2 e4
   rw[if_neg (by simp[h0])] at h3;refine wpList_store_row rfl _ _ _ rfl _ _ rfl rfl _ _ h3 (Go.RowKit.Hid.o (by with_reducible assumption)) (Go.RowKit.Hid.o (by with_reducible assumption)) (yC _) ?_;repeat go_step
   with_reducible refine RG.xD ?_
   exact ι (hw9.o.fill e4))
 |(obtain⟨h1,h2,h3⟩:=hw9.o.1.2 e4
   rw[if_neg (by simp[h0])] at h3;refine wpList_store_row rfl _ _ _ rfl _ _ rfl rfl _ _ h3 (Go.RowKit.Hid.o (by with_reducible assumption)) (Go.RowKit.Hid.o (by with_reducible assumption)) (yC _) ?_;repeat go_step
   with_reducible refine RG.xD ?_
   exact ι (hw9.o.fillA e4 δ δ))
 |(obtain⟨h1,h2,h3⟩:=hw9.o.2.1.2 e4
   rw[if_neg (by simp[h0])] at h3;refine wpList_store_row rfl _ _ _ rfl _ _ rfl rfl _ _ h3 (Go.RowKit.Hid.o (by with_reducible assumption)) (Go.RowKit.Hid.o (by with_reducible assumption)) (yC _) ?_;repeat go_step
   with_reducible refine RG.xD ?_
   exact ι (hw9.o.fillB e4 δ δ))) (hd:∀α,A α=(a α).put o.dst undef:=by intro α;rfl):RG.uC Tryz.prog ops md E N J K (o::os) i a:=
 RG.xIp hi he (λα L w h0 hc hc2 hj=>h α L w h0 (by have:=hc2.yes c (i:=i) σ (j:=n) hk;simpa[hne] using this) hj) hd h2
theorem J1.bag {w W:World} {B:List (Nat×TypeId×List Int)} {n s:Nat} {t:TypeId} {zs v:List Int} {L:Nat->Bool} {α:RG.Pl} (h:J1 w B n s t zs v L α W):Bag w B W:=h.1
theorem xT3 {id:Nat} {l:List Oper} {a:Act} {W0 w:World} {Q:Exit->Act->World->Prop} {B:List (Nat×TypeId×List Int)} (n s:Nat) (t:TypeId) (zs v:List Int) (H0:Hid (Bag w B W0))
  (h:RG.uC Tryz.prog l.toArray .any [s] [n] (λL α W=>Hid (J1 w B n s t zs v L α W)) (λα a=>∀w9,Hid (J1 w B n s t zs v (λ_=>true) α w9)->Q .normal a w9) l 0 (λ_=>a)) (hm:Tryz.prog.follows .mixedOrders=true:=by kernel_rfl) (hf:RG.fits .any l.toArray=true:=by kernel_rfl) (hE:(([s]++[n]).all λe=>decide (e<l.length))=true:=by kernel_rfl):
  (Code.region id l.toArray true).wp Tryz.prog Q a W0:=
 RG.kW [s] [n] (λL α W=>Hid (J1 w B n s t zs v L α W)) (λL L' α α' W hl ha h=>ι (J1.congr (hl n σ) (hl s σ) (ha n σ) h.o)) hm hf hE (ι (J1.start H0.o)) h
end
end Go.Proofs.FE
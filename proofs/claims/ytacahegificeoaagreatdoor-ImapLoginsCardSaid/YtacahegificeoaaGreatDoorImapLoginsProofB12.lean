/- Contracts of functions. Conditions: as stated. -/
import Derived.Test.YtacahegificeoaaGreatDoorImapLoginsProofB11
set_option maxHeartbeats 8000000
set_option maxRecDepth 100000
namespace Mailsack
def yV (ws:List Int):Prop:=∀i,U64 (ws.getD i 0)
theorem yV.set {ws:List Int} (h:yV ws) (i:Nat) {x:Int} (hx:U64 x):yV (ws.set i x):=by
 intro j;rw[List.getD_eq_getElem?_getD,List.getElem?_set];split
 ·split
  ·exact hx
  ·exact⟨δ,δ⟩
 ·have:=h j
  rwa [List.getD_eq_getElem?_getD] at this
theorem xBy (n:Nat):yV (List.replicate n 0):=by
 intro i;rw[List.getD_eq_getElem?_getD,List.getElem?_replicate];split<;>exact⟨δ,δ⟩
theorem L5.all {l:L5} (h:l.ok):yV l.list:=by
 obtain⟨h0,h1,h2,h3,h4⟩:=h;intro i
 match i with
 |0=>exact h0
 |1=>exact h1
 |2=>exact h2
 |3=>exact h3
 |4=>exact h4
 |n+5=>
  rw[List.getD_eq_getElem?_getD,List.getElem?_eq_none (by simp[L5.list])];exact⟨δ,δ⟩
theorem wrap_u64 (x:Int):U64 (Go.IntKind.u64.wrap x):=by
 rw[show Go.IntKind.u64.wrap x=x % 18446744073709551616 from by simp[Go.IntKind.wrap,Go.IntKind.signed,Go.IntKind.bits]];exact xDt x
def yM (l:List Int):Nat->List Int×Int
 |0=>(l,0)
 |i+1=>((yM l i).1.set i (Go.bits .and .u64 (Go.IntKind.u64.wrap ((yM l i).1.getD i 0+(yM l i).2)) 67108863),Go.IntKind.u64.wrap ((yM l i).1.getD i 0+(yM l i).2) / 67108864)
theorem rO (l:List Int):∀i,(yM l i).1.length=l.length
 |0=>rfl
 |i+1=>by simp[yM,rO l i]
theorem xDb {l:List Int} (h:yV l):∀i,yV (yM l i).1
 |0=>h
 |i+1=>(xDb h i).set i (zD _ _ _)
theorem xGt (l:List Int):∀i,0<=(yM l i).2/\(yM l i).2<274877906944
 |0=>⟨by simp[yM],by simp[yM]⟩
 |i+1=>by
  have ⟨h0,h1⟩:=wrap_u64 ((yM l i).1.getD i 0+(yM l i).2);simp only[yM];omega
def wU (l:List Int):List Int:=(yM l 5).1.set 0 (Go.IntKind.u64.wrap ((yM l 5).1.getD 0 0+5*(yM l 5).2))
theorem wZ (l:List Int):(wU l).length=l.length:=by unfold wU;rw[List.length_set,rO]
theorem tV {l:List Int} (h:yV l):yV (wU l):=(xDb h 5).set 0 (wrap_u64 _)
end Mailsack
namespace Go.Proofs.SH
open Go.RowKit Mailsack MM BB
def xH (ws:List Int):Array Value:=(ws.map λx=>Value.int .u64 x).toArray
theorem xW (ws:List Int):(xH ws).size=ws.length:=by simp[xH]
theorem xBe {ws:List Int} {i:Nat} (h:i<ws.length):(xH ws)[i]?=some (.int .u64 (ws.getD i 0)):=by
 simp[xH,List.getD_eq_getElem?_getD,List.getElem?_eq_getElem h]
theorem xQg (ws:List Int) (i:Nat) (x:Int):(xH ws).setIfInBounds i (.int .u64 x)=xH (ws.set i x):=by
 simp[xH,List.map_set]
theorem yC (ws:List Int):(xH ws).all (·.oneCell')=true:=by
 simp[xH,Value.oneCell']
def uJ (W:World) (g:Nat) (ws:List Int):Prop:=W.heap[g]?=some (.cells (xH ws) 310 (0,0))
theorem uJ.blk {W:World} {g:Nat} {ws:List Int} (h:uJ W g ws):W.heap[g]?=some (.cells (xH ws) 310 (0,0)):=h
theorem uJ.put {W:World} {g:Nat} {ws:List Int} (h:uJ W g ws) (i:Nat) (x:Int):uJ (W.setCell ⟨g,i,none⟩ (.int .u64 x)) g (ws.set i x):=by
 have:=xY h.blk i (.int .u64 x);rw[xQg] at this;exact this
theorem uJ.far {W:World} {g:Nat} {ws:List Int} (h:uJ W g ws) {p:Addr} (hp:g≠p.block) (u:Value):uJ (W.setCell p u) g ws:=yA h.blk hp u
theorem uJ.cell {W:World} {g:Nat} {ws:List Int} (h:uJ W g ws) {i:Nat} (hi:i<ws.length):W.cell? ⟨g,i,none⟩=some (.int .u64 (ws.getD i 0)):=by rw[xA h.blk,xBe hi]
theorem uJ.free {W:World} {g:Nat} {ws:List Int} (h:uJ W g ws) (i:Nat):W.frozen? ⟨g,i,none⟩=false:=xC h.blk i
theorem xBp {ws:List Int} (h:ws.length=5):(Tryz.prog.info? 310).map (·.size)=some (xH ws).size:=by rw[xW,h];kernel_rfl
structure xKi (w:World) (ws:List Int) (W:World):Prop where
 st:uJ W w.heap.size ws
 res:uJ W (w.heap.size+1) (List.replicate 5 0)
 bel:Below w.heap.size w W
theorem xKi.put {w:World} {ws:List Int} {W:World} (h:xKi w ws W) (i:Nat) (x:Int):xKi w (ws.set i x) (W.setCell ⟨w.heap.size,i,none⟩ (.int .u64 x)):=
 ⟨h.st.put i x,h.res.far (p:=⟨w.heap.size,i,none⟩) σ _,h.bel.setCell (p:=⟨w.heap.size,i,none⟩) ν _⟩
theorem xGs (ws:List Int) (w:World) (hl:ws.length=5) (hu:yV ws):
  Calls Tryz.prog 324 #[.agg (xH ws)] w λe w'=>e=.returned (.agg (xH (wU ws)))/\Below w.heap.size w w':=by
 have H0:Hid (xKi w (yM ws 0).1 ((w.alloc (.cells (xH ws) 310)).alloc (.cells (xH (List.replicate 5 0)) 310))):=ι ⟨zG _ _ _,yX _ _ _,((Below.refl w.heap.size w).alloc ν _).alloc σ _⟩;have HL:Hid (∀i,(yM ws i).1.length=5):=ι (λi=>by rw[rO,hl]);have HU:=ι (λi=>xDb hu i)
 have HV:=ι (λi=>xGt ws i);have HS:Hid (∀i,(yM ws (i+1)).1=(yM ws i).1.set i (bits .and .u64 (IntKind.u64.wrap ((yM ws i).1.getD i 0+(yM ws i).2)) 67108863)/\(yM ws (i+1)).2=IntKind.u64.wrap ((yM ws i).1.getD i 0+(yM ws i).2) / 67108864):=ι (λi=>⟨rfl,rfl⟩)
 have HP:Hid (∀n,n=5->wU ws=(yM ws n).1.set 0 (IntKind.u64.wrap ((yM ws n).1.getD 0 0+5*(yM ws n).2))):=ι (λn hn=>by rw[hn];rfl);have HPL:Hid ((wU ws).length=5):=ι (by rw[wZ,hl]);clear hl hu;go_enter Tryz.func324,Tryz.ntmps324;go_wp2_with fail
 go_loopw [3,5] (λov iv wr=>∃i:Nat,i<=5/\iv=.int .i64 i/\ov=.int .u64 (yM ws i).2/\Hid (xKi w (yM ws i).1 wr)) (λ_ iv _=>5- (intOf iv).toNat)
 case atStart=>exact⟨0,δ,rfl,rfl,H0⟩
 case round=>
  clear H0;obtain⟨i,hi,rfl,rfl,hr⟩:=hrel;obtain⟨v0,v1⟩:=HV.o i
  by_cases hlt:i<5
  ·have hl:=HL.o i;obtain⟨u0,u1⟩:=HU.o i i;have hl5:=HL.o i;obtain⟨s1,s2⟩:=HS.o i;obtain⟨x1,hx1⟩:∃x,(yM ws (i+1)).1=x:=⟨_,rfl⟩;obtain⟨o1,ho1⟩:∃x,(yM ws (i+1)).2=x:=⟨_,rfl⟩;rw[hx1] at s1;rw[ho1] at s2;have HX1:=ι hx1;have HO1:=ι ho1;clear hx1 ho1
   generalize (yM ws i).2=o at v0 v1 s1 s2⊢;generalize (yM ws i).1=xs at hr hl5 u0 u1 s1 s2;have q0:=hr.o.st.cell (i:=i) ω;have q1:=hr.o.st.free i;obtain⟨x,hx⟩:∃x,xs.getD i 0=x:=⟨_,rfl⟩;rw[hx] at q0 u0 u1 s1 s2;obtain⟨z,hz⟩:∃z,IntKind.u64.wrap (x+o)=z:=⟨_,rfl⟩;rw[hz] at s1 s2
   have hzr:=wrap_u64 (x+o);rw[hz] at hzr;obtain⟨z0,z1⟩:=hzr;have HZ:=ι hz;have hlx:xs.length=5:=hl5;have HA:Hid (xKi w (xs.set i z) (wr.setCell ⟨w.heap.size,i,none⟩ (.int .u64 z))):=ι (hr.o.put i z)
   have HB:Hid (xKi w x1 ((wr.setCell ⟨w.heap.size,i,none⟩ (.int .u64 z)).setCell ⟨w.heap.size,i,none⟩ (.int .u64 (bits .and .u64 z 67108863)))):=ι (by
    have h:=HA.o.put i (bits .and .u64 z 67108863);rw[List.set_set,<-s1] at h;exact h)
   have HS2:=ι s2
   have HQ:Hid (∀W,Hid (xKi w (xs.set i z) W)->W.cell? ⟨w.heap.size,i,none⟩=some (.int .u64 z)/\W.frozen? ⟨w.heap.size,i,none⟩=false):=ι (λW h=>by
    have q:=h.o.st.cell (i:=i) (by rw[List.length_set];omega);rw[List.getD_eq_getElem?_getD,List.getElem?_set_self ω] at q;exact⟨q,h.o.st.free i⟩)
   clear hx hz s1 s2 hr hlx hl5;go_upto_region 6 with fail
   rw[HZ.o];clear q0 q1 u0 u1
   revert HB
   refine(λ(h:∀W3,Hid (xKi w (xs.set i z) W3)->Hid (xKi w x1 (W3.setCell ⟨w.heap.size,i,none⟩ (.int .u64 (bits .and .u64 z 67108863))))->Code.wp _ _ _ _ W3)=>h _ HA) ?_;clear HA;intro w3 hw3 HB;obtain⟨q0,q1⟩:=HQ.o w3 hw3;clear HQ;go_wp2;refine⟨⟨i+1,ω,?_,?_,?_⟩,?_⟩
   ·exact congrArg (Value.int .i64) ω
   ·rw[HO1.o,HS2.o]
   ·rw[HX1.o];exact HB
   ·simp[intOf];omega
  ·have hi5:i=5:=by omega
   have hP:=HP.o i hi5;obtain⟨u0,u1⟩:=HU.o i 0;generalize (yM ws i).2=o at v0 v1 hP⊢;have hl5:=HL.o i;generalize (yM ws i).1=xs at hr hl5 u0 u1 hP;have q0:=hr.o.st.cell (i:=0) ω;have q1:=hr.o.st.free 0;obtain⟨x,hx⟩:∃x,xs.getD 0 0=x:=⟨_,rfl⟩;rw[hx] at q0 u0 u1 hP
   obtain⟨z,hz⟩:∃z,IntKind.u64.wrap (x+5*o)=z:=⟨_,rfl⟩;rw[hz] at hP;have HZ:=ι hz;have HF:=ι hP;have HA:Hid (xKi w (xs.set 0 z) (wr.setCell ⟨w.heap.size,0,none⟩ (.int .u64 z))):=ι (hr.o.put 0 z)
   have HI:Hid ((Tryz.prog.info? 310).map (·.size)=some (xH (xs.set 0 z)).size):=ι (xBp (by rw[List.length_set];exact hl5));have HZ5:Hid ((xH (List.replicate 5 0)).size=(xH (xs.set 0 z)).size):=ι (by rw[xW,xW,List.length_set,hl5];rfl);have hneg:¬((i:Int)<5):=by omega
   clear hx hz hP HP hr hl5 hi5 hlt hi;go_upto_region 10 with fail
   rw[HZ.o];clear q0 q1 u0 u1 v0 v1;refine(λ(h:∀W3,Hid (xKi w (xs.set 0 z) W3)->Code.wp _ _ _ _ W3)=>h _ HA) ?_;clear HA;intro w3 hw3;refine wp_region_lit ?_;refine wpList_load_row rfl _ _ rfl w.heap.size rfl _ (xH (xs.set 0 z)) (0,0) _ hw3.o.st Tryz.underlying310 rfl HI.o ?_
   refine wpList_store_row rfl _ _ _ rfl (w.heap.size+1) (xH (xs.set 0 z)) rfl rfl _ _ hw3.o.res HI.o HZ5.o (yC _) ?_;go_wp2;refine bodyPost_ret (results_cell_row rfl _ _ (w.heap.size+1) _ _ (0,0) _ rfl (setRow_heap _ _ _ _ _ _ hw3.o.res) Tryz.underlying310 rfl HI.o) rfl ?_
   rw[HF.o];exact⟨rfl,below_setRow hw3.o.bel ω _⟩
end Go.Proofs.SH
namespace Mailsack
def kK (k:Nat):Nat:=if 5<=k then k-5 else k
def yK (y:Int) (k:Nat):Int:=if 5<=k then Go.IntKind.u64.wrap (y*5) else y
def xMu (x:Int) (i:Nat) (r d:List Int):Nat->List Int
 |0=>d
 |j+1=>(xMu x i r d j).set (kK (i+j)) (Go.IntKind.u64.wrap ((xMu x i r d j).getD (kK (i+j)) 0+Go.IntKind.u64.wrap (x*yK (r.getD j 0) (i+j))))
theorem xJb (x:Int) (i:Nat) (r d:List Int):∀j,(xMu x i r d j).length=d.length
 |0=>rfl
 |j+1=>by rw[xMu,List.length_set,xJb x i r d j]
theorem xW7 (x:Int) (i:Nat) (r:List Int) {d:List Int} (h:yV d):∀j,yV (xMu x i r d j)
 |0=>h
 |j+1=>(xW7 x i r h j).set _ (wrap_u64 _)
def xNz (h r:List Int):Nat->List Int
 |0=>List.replicate 5 0
 |i+1=>xMu (h.getD i 0) i r (xNz h r i) 5
theorem xJd (h r:List Int):∀i,(xNz h r i).length=5
 |0=>by simp[xNz]
 |i+1=>by rw[xNz,xJb,xJd h r i]
theorem xW8 (h r:List Int):∀i,yV (xNz h r i)
 |0=>xBy 5
 |i+1=>xW7 _ _ _ (xW8 h r i) 5
def xSi (c:List Int):List Int:=(c.set 1 (Go.IntKind.u64.wrap (c.getD 1 0+c.getD 0 0 / 67108864))).set 0 (Go.bits .and .u64 (c.getD 0 0) 67108863)
theorem xPt (c:List Int):(xSi c).length=c.length:=by simp[xSi]
theorem mulE_u {c:List Int} (h:yV c):yV (xSi c):=(h.set 1 (wrap_u64 _)).set 0 (zD _ _ _)
def yAh (h r:List Int):List Int:=xSi (wU (xNz h r 5))
theorem xJc (h r:List Int):(yAh h r).length=5:=by rw[yAh,xPt,wZ,xJd]
theorem mulP_u (h r:List Int):yV (yAh h r):=mulE_u (tV (xW8 h r 5))
end Mailsack
namespace Go.Proofs.SH
open Go.RowKit Mailsack MM BB
structure xKg (w:World) (hs rs d:List Int) (W:World):Prop where
 bh:uJ W w.heap.size hs
 br:uJ W (w.heap.size+1) rs
 bz:uJ W (w.heap.size+1+1) (List.replicate 5 0)
 bd:uJ W (w.heap.size+1+1+1) d
 bel:Below w.heap.size w W
theorem xKg.put {w:World} {hs rs d:List Int} {W:World} (h:xKg w hs rs d W) (i:Nat) (x:Int):xKg w hs rs (d.set i x) (W.setCell ⟨w.heap.size+1+1+1,i,none⟩ (.int .u64 x)):=
 ⟨h.bh.far (p:=⟨w.heap.size+1+1+1,i,none⟩) (by simp only[];omega) _,h.br.far (p:=⟨w.heap.size+1+1+1,i,none⟩) (by simp only[];omega) _,h.bz.far (p:=⟨w.heap.size+1+1+1,i,none⟩) (by simp only[];omega) _,h.bd.put i x,h.bel.setCell (p:=⟨w.heap.size+1+1+1,i,none⟩) (by simp only[];omega) _⟩
theorem xKg.below {w:World} {hs rs d:List Int} {W W':World} (h:xKg w hs rs d W) (hb:Below W.heap.size W W'):xKg w hs rs d W':=
 ⟨xB h.bh hb (xG h.bh),xB h.br hb (xG h.br),xB h.bz hb (xG h.bz),xB h.bd hb (xG h.bd),h.bel.trans (hb.mono h.bel.size)⟩
theorem xKg.row {w:World} {hs rs d:List Int} {W:World} (h:xKg w hs rs d W) (c:List Int):xKg w hs rs c (W.setRow (w.heap.size+1+1+1) (xH c)):=
 ⟨by unfold uJ;rw[setRow_other _ _ _ _ ω];exact h.bh,by unfold uJ;rw[setRow_other _ _ _ _ ω];exact h.br,by unfold uJ;rw[setRow_other _ _ _ _ ω];exact h.bz,setRow_heap _ _ _ _ _ _ h.bd,below_setRow h.bel ω _⟩
theorem xW6 (hs rs:List Int) (w:World) (hl:hs.length=5) (hu:yV hs) (rl:rs.length=5) (ru:yV rs):
  Calls Tryz.prog 240 #[.agg (xH hs),.agg (xH rs)] w λe w'=>e=.returned (.agg (xH (yAh hs rs)))/\Below w.heap.size w w':=by
 have H0:Hid (xKg w hs rs (xNz hs rs 0) ((((w.alloc (.cells (xH hs) 310)).alloc (.cells (xH rs) 310)).alloc (.cells (xH (List.replicate 5 0)) 310)).alloc (.cells (xH (List.replicate 5 0)) 310))):=ι (by
  have h0:=xL ((w.alloc (.cells (xH hs) 310)).alloc (.cells (xH rs) 310)) (.cells (xH (List.replicate 5 0)) 310);simp only[uX] at h0
  have h1:=xL (((w.alloc (.cells (xH hs) 310)).alloc (.cells (xH rs) 310)).alloc (.cells (xH (List.replicate 5 0)) 310)) (.cells (xH (List.replicate 5 0)) 310);simp only[uX] at h1
  exact⟨xK (xK (zG _ _ _) _) _,xK (xK (yX _ _ _) _) _,xK h0 _,h1,((((Below.refl w.heap.size w).alloc ν _).alloc σ _).alloc (by simp;omega) _).alloc (by simp;omega) _⟩)
 have HI:Hid ((Tryz.prog.info? 310).map (·.size)=some (xH hs).size):=ι (xBp hl);have HJ:Hid ((Tryz.prog.info? 310).map (·.size)=some (xH rs).size):=ι (xBp rl);have HPI:Hid (∀n,n=5->yAh hs rs=xSi (wU (xNz hs rs n))):=ι (λn hn=>by rw[hn];rfl)
 have HPS:Hid (∀i n,n=5->xNz hs rs (i+1)=xMu (hs.getD i 0) i rs (xNz hs rs i) n):=ι (λi n hn=>by rw[hn];rfl);have HL:=ι (λi=>xJd hs rs i);have HU:=ι (λi=>xW8 hs rs i);go_enter Tryz.func240,Tryz.ntmps240;go_upto_region 2 with fail
 refine(λ(h:∀W3,Hid (xKg w hs rs (xNz hs rs 0) W3)->Code.wp _ _ _ _ W3)=>h _ H0) ?_;clear H0;intro w3 hw3;refine wp_region_lit ?_;refine wpList_load_row rfl _ _ rfl w.heap.size rfl _ (xH hs) (0,0) _ hw3.o.bh Tryz.underlying310 rfl HI.o ?_;go_wp2_with fail
 go_loopw [12] (λiv W=>∃i:Nat,i<=5/\iv=.int .i64 i/\Hid (xKg w hs rs (xNz hs rs i) W)) (λiv _=>5- (intOf iv).toNat)
 case atStart=>exact⟨0,δ,rfl,hw3⟩
 case round=>
  clear hw3
  rename World=>wi
  obtain⟨i,hi,rfl,hr⟩:=hrel
  by_cases hlt:i<5
  ·have HS:=ι (HPS.o i);have hl0:=HL.o i;have hu0:=HU.o i;obtain⟨x,hx⟩:∃x,hs.getD i 0=x:=⟨_,rfl⟩;have ux:=hu i;rw[hx] at ux HS;have ix:=λW=>wQ (P:=Tryz.prog) Tryz.underlying310 Tryz.underlying228 κ (xH hs) (.int .u64 x) i hlt (by rw[xBe ω,hx]) W
   obtain⟨d1,hd1⟩:∃d,xNz hs rs (i+1)=d:=⟨_,rfl⟩;rw[hd1] at HS;have HD1:=ι hd1;clear hd1;generalize xNz hs rs i=d0 at hr hl0 hu0 HS;have HT0:Hid (xKg w hs rs (xMu x i rs d0 0) wi):=ι hr.o
   have HTS:Hid (∀j,xMu x i rs d0 (j+1)=(xMu x i rs d0 j).set (kK (i+j)) (IntKind.u64.wrap ((xMu x i rs d0 j).getD (kK (i+j)) 0+IntKind.u64.wrap (x*yK (rs.getD j 0) (i+j))))):=ι (λj=>rfl);have HTL:Hid (∀j,(xMu x i rs d0 j).length=5):=ι (λj=>by rw[xJb,hl0])
   have HTU:Hid (∀j,yV (xMu x i rs d0 j)):=ι (λj=>xW7 _ _ _ hu0 j);have HX:=ι ux;have HRU:=ι ru;have hrr:=hr;clear hr hx ux hl0 hu0 hu ru hl;go_upto_region 5 with fail
   clear ix;refine wp_region_lit ?_;refine wpList_load_row rfl _ _ rfl (w.heap.size+1) rfl _ (xH rs) (0,0) _ hrr.o.br Tryz.underlying310 rfl HJ.o ?_;clear hrr;go_wp2_with fail
   go_loopw [17] (λjv W=>∃j:Nat,j<=5/\jv=.int .i64 j/\Hid (xKg w hs rs (xMu x i rs d0 j) W)) (λjv _=>5- (intOf jv).toNat)
   case atStart=>exact⟨0,δ,rfl,HT0⟩
   case round=>
    clear HT0
    rename World=>wj
    obtain⟨j,hj,rfl,hr⟩:=hrel
    by_cases hlt2:j<5
    ·have hTS:=HTS.o j;have hTL:=HTL.o j;obtain⟨t1,ht1⟩:∃t,xMu x i rs d0 (j+1)=t:=⟨_,rfl⟩;rw[ht1] at hTS;have HT1:=ι ht1;have hTU:=HTU.o j (kK (i+j));clear ht1;generalize xMu x i rs d0 j=t0 at hr hTS hTL hTU;obtain⟨y,hy⟩:∃y,rs.getD j 0=y:=⟨_,rfl⟩;have uy:=HRU.o j
     rw[hy] at uy hTS;have ix:=λW=>wQ (P:=Tryz.prog) Tryz.underlying310 Tryz.underlying228 κ (xH rs) (.int .u64 y) j hlt2 (by rw[xBe ω,hy]) W;have hK:kK (i+j)<5:=by unfold kK;split<;>omega
     have q0:=hr.o.bd.cell (i:=kK (i+j)) ω;have q1:=hr.o.bd.free (kK (i+j))
     have HP:Hid (xKg w hs rs t1 (wj.setCell ⟨w.heap.size+1+1+1,kK (i+j),none⟩ (.int .u64 (IntKind.u64.wrap (t0.getD (kK (i+j)) 0+IntKind.u64.wrap (x*yK y (i+j))))))):=ι (by
      have h:=hr.o.put (kK (i+j)) (IntKind.u64.wrap (t0.getD (kK (i+j)) 0+IntKind.u64.wrap (x*yK y (i+j))));rw[<-hTS] at h;exact h)
     generalize t0.getD (kK (i+j)) 0=v at q0 hTU HP;obtain⟨v0,v1⟩:=hTU;obtain⟨y0,y1⟩:=uy;obtain⟨x0,x1⟩:=HX.o;clear hTS hTL hy hr
     by_cases h5:5<=i+j
     ·have hk5:kK (i+j)=i+j-5:=if_pos h5;have hy5:yK y (i+j)=IntKind.u64.wrap (y*5):=if_pos h5;rw[hy5] at HP;generalize kK (i+j)=kk at hk5 hK q0 q1 HP;have hii:(i:Int)+(j:Int)=(kk:Int)+5:=by omega
      have h5i:(5:Int)<=(kk:Int)+5:=by omega
      clear hk5 h5 hy5;go_wp2;exact⟨⟨j+1,ω,by go_num,by rw[HT1.o];exact HP⟩,by simp[intOf];omega⟩
     ·have hk5:kK (i+j)=i+j:=if_neg h5;have hy5:yK y (i+j)=y:=if_neg h5;rw[hy5] at HP;generalize kK (i+j)=kk at hk5 hK q0 q1 HP;have hii:(i:Int)+(j:Int)=(kk:Int):=by omega
      have h5i:¬((5:Int)<=(kk:Int)):=by omega
      clear hk5 h5 hy5;go_wp2;exact⟨⟨j+1,ω,by go_num,by rw[HT1.o];exact HP⟩,by simp[intOf];omega⟩
    ·have hje:j=5:=by omega
     have hneg:¬((j:Int)<5):=by omega
     have HS1:=ι (HS.o j hje);clear hje hlt2 hj HTS HTL HTU HS;go_wp2;exact⟨⟨i+1,ω,by go_num,by rw[HD1.o,HS1.o];exact hr⟩,by simp[intOf];omega⟩
  ·have hie:i=5:=by omega
   have hneg:¬((i:Int)<5):=by omega
   have HP:=ι (HPI.o i hie);have hdl:=HL.o i;have hdu:=HU.o i;generalize xNz hs rs i=d0 at hr HP hdl hdu;have HI5:Hid ((Tryz.prog.info? 310).map (·.size)=some (xH d0).size):=ι (xBp hdl);have HC:=ι (λW=>xGs d0 W hdl hdu);obtain⟨c,hc⟩:∃c,wU d0=c:=⟨_,rfl⟩
   have hcl:c.length=5:=by rw[<-hc,wZ,hdl]
   have hcu:yV c:=hc▸tV hdu;rw[hc] at HC HP;clear hc hie hi hlt HL HU HPS HPI hdu;go_upto_region 15 with fail
   refine wp_region_lit ?_;refine wpList_load_row rfl _ _ rfl (w.heap.size+1+1+1) rfl _ (xH d0) (0,0) _ hr.o.bd Tryz.underlying310 rfl HI5.o ?_;repeat go_step
   refine(HC.o _).mono ?_;rintro e w5 ⟨rfl,hb⟩;have h5:=hr.o.below hb;have HZ5:Hid ((xH d0).size=(xH c).size):=ι (by rw[xW,xW,hcl,hdl]);have HIc:Hid ((Tryz.prog.info? 310).map (·.size)=some (xH c).size):=ι (xBp hcl);have HR:=ι (h5.row c);simp only[]
   rename ∀(a:Act) (w:World),wpList _ _ _ _ a w->_=>hk
   refine hk _ _ ?_;clear hk;refine wpList_store_row rfl _ _ _ rfl (w.heap.size+1+1+1) (xH c) rfl rfl _ _ h5.bd HIc.o HZ5.o (yC _) ?_;clear hr hb h5;refine(λ(h:∀W3,Hid (xKg w hs rs c W3)->wpList _ _ _ _ _ W3)=>h _ HR) ?_;clear HR;intro w6 hw6;obtain⟨a0,a1⟩:=hcu 0
   obtain⟨b0,b1⟩:=hcu 1;obtain⟨a,ha⟩:∃a,c.getD 0 0=a:=⟨_,rfl⟩;obtain⟨b,hbb⟩:∃b,c.getD 1 0=b:=⟨_,rfl⟩;have q0:=hw6.o.bd.cell (i:=0) ω;have q1:=hw6.o.bd.cell (i:=1) ω;have y0:=hw6.o.bd.free 0;have y1:=hw6.o.bd.free 1
   have HE:Hid (xSi c=(c.set 1 (IntKind.u64.wrap (c.getD 1 0+c.getD 0 0 / 67108864))).set 0 (bits .and .u64 (c.getD 0 0) 67108863)):=ι rfl;rw[ha] at a0 a1 q0 HE;rw[hbb] at b0 b1 q1 HE;clear ha hbb
   have HA:Hid (xKg w hs rs (xSi c) ((w6.setCell ⟨w.heap.size+1+1+1,1,none⟩ (.int .u64 (IntKind.u64.wrap (b+a / 67108864)))).setCell ⟨w.heap.size+1+1+1,0,none⟩ (.int .u64 (bits .and .u64 a 67108863)))):=ι (by rw[HE.o];exact(hw6.o.put 1 _).put 0 _)
   have hel:(xSi c).length=5:=by rw[xPt,hcl]
   have HI6:Hid ((Tryz.prog.info? 310).map (·.size)=some (xH (xSi c)).size):=ι (xBp hel);have HZ6:Hid ((xH (List.replicate 5 0)).size=(xH (xSi c)).size):=ι (by rw[xW,xW,hel];rfl);clear hw6 HE hel;go_upto_region 18 with fail
   clear q0 q1 y0 y1 a0 a1 b0 b1;refine(λ(h:∀W3,Hid (xKg w hs rs (xSi c) W3)->Code.wp _ _ _ _ W3)=>h _ HA) ?_;clear HA;intro w7 hw7;refine wp_region_lit ?_;refine wpList_load_row rfl _ _ rfl (w.heap.size+1+1+1) rfl _ (xH (xSi c)) (0,0) _ hw7.o.bd Tryz.underlying310 rfl HI6.o ?_
   refine wpList_store_row rfl _ _ _ rfl (w.heap.size+1+1) (xH (xSi c)) rfl rfl _ _ hw7.o.bz HI6.o HZ6.o (yC _) ?_;go_wp2;refine bodyPost_ret (results_cell_row rfl _ _ (w.heap.size+1+1) _ _ (0,0) _ rfl (setRow_heap _ _ _ _ _ _ hw7.o.bz) Tryz.underlying310 rfl HI6.o) rfl ?_
   rw[HP.o];exact⟨rfl,below_setRow hw7.o.bel ω _⟩
end Go.Proofs.SH
namespace Mailsack
def xG8 (c:List Int):List Int:=c.set 0 (Go.IntKind.u64.wrap (c.getD 0 0+5))
def xI6 (c d:List Int) (o:Int):List Int:=if 0<o then d else c
def rD (h:List Int):List Int:=xI6 (wU (wU h)) (yM (xG8 (wU (wU h))) 5).1 (yM (xG8 (wU (wU h))) 5).2
theorem xSn (h:List Int):(rD h).length=h.length:=by
 unfold rD xI6;split
 ·rw[rO,xG8,List.length_set,wZ,wZ]
 ·rw[wZ,wZ]
theorem yAr {h:List Int} (hh:yV h):yV (rD h):=by
 unfold rD xI6;split
 ·exact xDb ((tV (tV hh)).set 0 (wrap_u64 _)) 5
 ·exact tV (tV hh)
end Mailsack
namespace Go.Proofs.SH
open Go.RowKit Mailsack MM BB
structure xTq (w:World) (c:List Int) (g:Nat) (d:List Int) (W:World):Prop where
 bh:uJ W w.heap.size c
 bz:uJ W (w.heap.size+1) (List.replicate 5 0)
 bd:uJ W g d
 ge:w.heap.size+2<=g
 bel:Below w.heap.size w W
theorem xTq.put {w:World} {c:List Int} {g:Nat} {d:List Int} {W:World} (h:xTq w c g d W) (i:Nat) (x:Int):xTq w c g (d.set i x) (W.setCell ⟨g,i,none⟩ (.int .u64 x)):=by
 have hg:=h.ge;exact⟨h.bh.far (p:=⟨g,i,none⟩) (by simp only[];omega) _,h.bz.far (p:=⟨g,i,none⟩) (by simp only[];omega) _,h.bd.put i x,hg,h.bel.setCell (p:=⟨g,i,none⟩) (by simp only[];omega) _⟩
theorem xWi (hs:List Int) (w:World) (hl:hs.length=5) (hu:yV hs):
  Calls Tryz.prog 242 #[.agg (xH hs)] w λe w'=>e=.returned (.agg (xH (rD hs)))/\Below w.heap.size w w':=by
 have H0:Hid (xKi w hs ((w.alloc (.cells (xH hs) 310)).alloc (.cells (xH (List.replicate 5 0)) 310))):=ι ⟨zG _ _ _,yX _ _ _,((Below.refl w.heap.size w).alloc ν _).alloc σ _⟩;have HI:Hid ((Tryz.prog.info? 310).map (·.size)=some (xH hs).size):=ι (xBp hl)
 have HC1:=ι (λW=>xGs hs W hl hu);have HP:Hid (∀n,n=5->rD hs=xI6 (wU (wU hs)) (yM (xG8 (wU (wU hs))) n).1 (yM (xG8 (wU (wU hs))) n).2):=ι (λn hn=>by rw[hn];rfl);obtain⟨c1,hc1⟩:∃c,wU hs=c:=⟨_,rfl⟩;have h1l:c1.length=5:=by rw[<-hc1,wZ,hl]
 have h1u:yV c1:=hc1▸tV hu;rw[hc1] at HC1 HP;have HC2:=ι (λW=>xGs c1 W h1l h1u);obtain⟨c,hc⟩:∃c,wU c1=c:=⟨_,rfl⟩;have hcl:c.length=5:=by rw[<-hc,wZ,h1l]
 have hcu:yV c:=hc▸tV h1u;rw[hc] at HC2 HP;have HIc:Hid ((Tryz.prog.info? 310).map (·.size)=some (xH c).size):=ι (xBp hcl);have HZ1:Hid ((xH hs).size=(xH c).size):=ι (by rw[xW,xW,hl,hcl]);have HZ0:Hid ((xH (List.replicate 5 0)).size=(xH c).size):=ι (by rw[xW,xW,hcl];rfl)
 clear hc hc1 h1l h1u;go_enter Tryz.func242,Tryz.ntmps242;go_upto_region 1 with fail
 refine(λ(h:∀W3,Hid (xKi w hs W3)->Code.wp _ _ _ _ W3)=>h _ H0) ?_;clear H0;intro w3 hw3;refine wp_region_lit ?_;refine wpList_load_row rfl _ _ rfl w.heap.size rfl _ (xH hs) (0,0) _ hw3.o.st Tryz.underlying310 rfl HI.o ?_;repeat go_step
 refine(HC1.o _).mono ?_;rintro e w4 ⟨rfl,hb⟩;have hw4:Hid (xKi w hs w4):=ι ⟨xB hw3.o.st hb (xG hw3.o.st),xB hw3.o.res hb (xG hw3.o.res),hw3.o.bel.trans (hb.mono hw3.o.bel.size)⟩;clear hw3 hb;simp only[]
 rename ∀(a:Act) (w:World),wpList _ _ _ _ a w->_=>hk
 refine hk _ _ ?_;clear hk;repeat go_step
 refine(HC2.o _).mono ?_;rintro e w5 ⟨rfl,hb⟩;have hw5:Hid (xKi w hs w5):=ι ⟨xB hw4.o.st hb (xG hw4.o.st),xB hw4.o.res hb (xG hw4.o.res),hw4.o.bel.trans (hb.mono hw4.o.bel.size)⟩;clear hw4 hb;simp only[]
 rename ∀(a:Act) (w:World),wpList _ _ _ _ a w->_=>hk
 refine hk _ _ ?_;clear hk;refine wpList_store_row rfl _ _ _ rfl w.heap.size (xH c) rfl rfl _ _ hw5.o.st HIc.o HZ1.o (yC _) ?_
 have hw6:Hid (xKi w c (w5.setRow w.heap.size (xH c))):=ι ⟨setRow_heap _ _ _ _ _ _ hw5.o.st,by unfold uJ;rw[setRow_other _ _ _ _ ω];exact hw5.o.res,below_setRow hw5.o.bel ν _⟩;refine(λ(h:∀W3,Hid (xKi w c W3)->wpList _ _ _ _ _ W3)=>h _ hw6) ?_;clear hw5 hw6 HC1 HC2 HZ1
 intro w7 hw7;go_upto_region 2 with fail
 refine wp_region_lit ?_;refine wpList_load_row rfl _ _ rfl w.heap.size rfl _ (xH c) (0,0) _ hw7.o.st Tryz.underlying310 rfl HIc.o ?_;iterate 3 go_step
 refine wpList_store_row rfl _ _ _ rfl w7.heap.size (xH c) rfl rfl _ (xH (List.replicate 5 0)) (xL _ _) HIc.o HZ0.o (yC _) ?_;have hz7:=xG hw7.o.res
 have hw8:Hid (xTq w c w7.heap.size c ((w7.alloc (.cells (xH (List.replicate 5 0)) 310)).setRow w7.heap.size (xH c))):=ι ⟨by unfold uJ;rw[setRow_other _ _ _ _ ω];exact xK hw7.o.st _,by unfold uJ;rw[setRow_other _ _ _ _ ω];exact xK hw7.o.res _,setRow_heap _ _ _ _ _ _ (xL _ _),ω,below_setRow (hw7.o.bel.alloc hw7.o.bel.size _) ω _⟩
 refine(λ(h:∀W3,Hid (xTq w c w7.heap.size c W3)->wpList _ _ _ _ _ W3)=>h _ hw8) ?_;clear hw8;generalize w7.heap.size=g at hz7⊢;clear hw7;intro w8 hw8;obtain⟨a0,a1⟩:=hcu 0;obtain⟨a,ha⟩:∃a,c.getD 0 0=a:=⟨_,rfl⟩;have q0:=hw8.o.bd.cell (i:=0) ω;have y0:=hw8.o.bd.free 0
 obtain⟨t,ht⟩:∃t,xG8 c=t:=⟨_,rfl⟩;have HA:Hid (xTq w c g (yM t 0).1 (w8.setCell ⟨g,0,none⟩ (.int .u64 (IntKind.u64.wrap (c.getD 0 0+5))))):=ι (by rw[<-ht];exact hw8.o.put 0 _);have htl:t.length=5:=by rw[<-ht,xG8,List.length_set,hcl]
 have htu:yV t:=ht▸hcu.set 0 (wrap_u64 _);have HO0:Hid ((yM t 0).2=0):=ι rfl;rw[ha] at a0 a1 q0 HA;rw[ht] at HP;have HL:Hid (∀i,(yM t i).1.length=5):=ι (λi=>by rw[rO,htl]);have HU:=ι (λi=>xDb htu i);have HV:=ι (λi=>xGt t i)
 have HS:Hid (∀i,(yM t (i+1)).1=(yM t i).1.set i (bits .and .u64 (IntKind.u64.wrap ((yM t i).1.getD i 0+(yM t i).2)) 67108863)/\(yM t (i+1)).2=IntKind.u64.wrap ((yM t i).1.getD i 0+(yM t i).2) / 67108864):=ι (λi=>⟨rfl,rfl⟩);clear ha ht htl htu hw8 hcu hl hu
 go_upto_region 5 with fail
 clear q0 y0 a0 a1;refine(λ(h:∀W3,Hid (xTq w c g (yM t 0).1 W3)->Code.wp _ _ _ _ W3)=>h _ HA) ?_;clear HA;intro w9 hw9;go_wp2_with fail
 go_loopw [4,14] (λov iv wr=>∃i:Nat,i<=5/\iv=.int .i64 i/\ov=.int .u64 (yM t i).2/\Hid (xTq w c g (yM t i).1 wr)) (λ_ iv _=>5- (intOf iv).toNat)
 case atStart=>exact⟨0,δ,rfl,by rw[HO0.o],hw9⟩
 case round=>
  clear hw9 HO0;obtain⟨i,hi,rfl,rfl,hr⟩:=hrel;obtain⟨v0,v1⟩:=HV.o i
  by_cases hlt:i<5
  ·have hl5:=HL.o i;obtain⟨u0,u1⟩:=HU.o i i;obtain⟨s1,s2⟩:=HS.o i;obtain⟨x1,hx1⟩:∃x,(yM t (i+1)).1=x:=⟨_,rfl⟩;obtain⟨o1,ho1⟩:∃x,(yM t (i+1)).2=x:=⟨_,rfl⟩;rw[hx1] at s1;rw[ho1] at s2;have HX1:=ι hx1;have HO1:=ι ho1;clear hx1 ho1;generalize (yM t i).2=o at v0 v1 s1 s2⊢
   generalize (yM t i).1=xs at hr hl5 u0 u1 s1 s2;have q0:=hr.o.bd.cell (i:=i) ω;have q1:=hr.o.bd.free i;obtain⟨x,hx⟩:∃x,xs.getD i 0=x:=⟨_,rfl⟩;rw[hx] at q0 u0 u1 s1 s2;obtain⟨z,hz⟩:∃z,IntKind.u64.wrap (x+o)=z:=⟨_,rfl⟩;rw[hz] at s1 s2;have hzr:=wrap_u64 (x+o);rw[hz] at hzr
   obtain⟨z0,z1⟩:=hzr;have HZ:=ι hz;have HA:Hid (xTq w c g (xs.set i z) (wr.setCell ⟨g,i,none⟩ (.int .u64 z))):=ι (hr.o.put i z)
   have HB:Hid (xTq w c g x1 ((wr.setCell ⟨g,i,none⟩ (.int .u64 z)).setCell ⟨g,i,none⟩ (.int .u64 (bits .and .u64 z 67108863)))):=ι (by
    have h:=HA.o.put i (bits .and .u64 z 67108863);rw[List.set_set,<-s1] at h;exact h)
   have HS2:=ι s2
   have HQ:Hid (∀W,Hid (xTq w c g (xs.set i z) W)->W.cell? ⟨g,i,none⟩=some (.int .u64 z)/\W.frozen? ⟨g,i,none⟩=false):=ι (λW h=>by
    have q:=h.o.bd.cell (i:=i) (by rw[List.length_set];omega);rw[List.getD_eq_getElem?_getD,List.getElem?_set_self ω] at q;exact⟨q,h.o.bd.free i⟩)
   clear hx hz s1 s2 hr hl5;go_upto_region 9 with fail
   rw[HZ.o];clear q0 q1 u0 u1
   revert HB
   refine(λ(h:∀W3,Hid (xTq w c g (xs.set i z) W3)->Hid (xTq w c g x1 (W3.setCell ⟨g,i,none⟩ (.int .u64 (bits .and .u64 z 67108863))))->Code.wp _ _ _ _ W3)=>h _ HA) ?_;clear HA;intro w3 hw3 HB;obtain⟨q0,q1⟩:=HQ.o w3 hw3;clear HQ;go_wp2;refine⟨⟨i+1,ω,?_,?_,?_⟩,?_⟩
   ·exact congrArg (Value.int .i64) ω
   ·rw[HO1.o,HS2.o]
   ·rw[HX1.o];exact HB
   ·simp[intOf];omega
  ·have hi5:i=5:=by omega
   have hneg:¬((i:Int)<5):=by omega
   have HF:=ι (HP.o i hi5);have hl5:=HL.o i;generalize (yM t i).2=o at v0 v1 HF⊢;generalize (yM t i).1=xs at hr hl5 HF;have HIx:Hid ((Tryz.prog.info? 310).map (·.size)=some (xH xs).size):=ι (xBp hl5)
   have HZx:Hid ((xH (List.replicate 5 0)).size=(xH xs).size):=ι (by rw[xW,xW,hl5];rfl);have ho:Hid ((0:Int)<o∨¬(0:Int)<o):=ι ω;clear hi5 hlt hi HP HL HU HV HS hl5;rcases ho.o with hp|hp
   ·have HG:Hid (rD hs=xs):=ι (by rw[HF.o,xI6,if_pos hp]);go_upto_region 13 with fail
    refine wp_region_lit ?_;refine wpList_load_row rfl _ _ rfl g rfl _ (xH xs) (0,0) _ hr.o.bd Tryz.underlying310 rfl HIx.o ?_;refine wpList_store_row rfl _ _ _ rfl (w.heap.size+1) (xH xs) rfl rfl _ _ hr.o.bz HIx.o HZx.o (yC _) ?_;go_wp2
    refine bodyPost_ret (results_cell_row rfl _ _ (w.heap.size+1) _ _ (0,0) _ rfl (setRow_heap _ _ _ _ _ _ hr.o.bz) Tryz.underlying310 rfl HIx.o) rfl ?_;rw[HG.o];exact⟨rfl,below_setRow hr.o.bel ω _⟩
   ·have HG:Hid (rD hs=c):=ι (by rw[HF.o,xI6,if_neg hp]);go_upto_region 14 with fail
    refine wp_region_lit ?_;refine wpList_load_row rfl _ _ rfl w.heap.size rfl _ (xH c) (0,0) _ hr.o.bh Tryz.underlying310 rfl HIc.o ?_;refine wpList_store_row rfl _ _ _ rfl (w.heap.size+1) (xH c) rfl rfl _ _ hr.o.bz HIc.o HZ0.o (yC _) ?_;go_wp2
    refine bodyPost_ret (results_cell_row rfl _ _ (w.heap.size+1) _ _ (0,0) _ rfl (setRow_heap _ _ _ _ _ _ hr.o.bz) Tryz.underlying310 rfl HIc.o) rfl ?_;rw[HG.o];exact⟨rfl,below_setRow hr.o.bel ω _⟩
end Go.Proofs.SH
namespace Mailsack
def padB (s:Bs):Bs:=(s++(xQ 16).drop s.length).set s.length 1
def qD (s:ByteArray):ByteArray:=if s.size=16 then s else bsA (padB s.data.toList)
theorem yA7 (s:Bs) (h:s.length<=16):(padB s).length=16:=by
 unfold padB;rw[List.length_set,List.length_append,List.length_drop,zC];omega
theorem xVv (s:ByteArray) (h:s.size<=16):(qD s).size=16:=by
 unfold qD;split
 ·assumption
 ·have:=yA7 s.data.toList (by simpa using h);simpa[bsA,ByteArray.size] using this
end Mailsack
namespace Go.Proofs.SH
open Go.RowKit Mailsack MM BB
theorem xT6 {W:World} {g:Nat} {l:Bs} {t:TypeId} (h:W.heap[g]?=some (.cells (yJ l) t (0,0))) (ty:TypeId) (dLen dCap:Nat) (s:ByteArray) (h1:s.size<=dLen) (h2:s.size<=l.length):
  (Builtin.copy_ #[79,9] ty #[.slice (some ⟨g,0,none⟩) dLen dCap,.string s]).run Tryz.prog W=.ok (goInt s.size) (W.setRow g (yJ (s.data.toList++l.drop s.size))):=by
 have h3:=Lib.run_copy_row_string (P:=Tryz.prog) W 79 9 ty 5 g 0 dLen dCap s (yJ l) _ Tryz.underlying79 κ h h1 (by rw[uZ];omega)
 have h4:((yJ l).toList.take 0++Lib.byteCells s.data.toList++(yJ l).toList.drop (0+s.size)).toArray=yJ (s.data.toList++l.drop s.size):=by
  simp[yJ,Lib.byteCells,List.map_drop]
 rw[h3,h4]
theorem xS4 (s:ByteArray) (w:World) (hs:s.size<=16):
  Calls Tryz.prog 239 #[.string s] w λe w'=>e=.returned (.string (qD s))/\Below w.heap.size w w':=by
 by_cases h16:s.size=16
 ·have HP:Hid (qD s=s):=ι (if_pos h16);have h16i:(s.size:Int)=16:=by omega
  clear h16 hs;go_enter Tryz.func239,Tryz.ntmps239;go_wp2;go_ret;rw[HP.o];exact⟨rfl,Below.refl _ _⟩
 ·have hlt:s.size<16:=by omega
  have hsl:s.data.toList.length=s.size:=by simp
  have HP:Hid (qD s=bsA (padB s.data.toList)):=ι (if_neg h16);have HB0:Hid ((w.alloc (.cells (yJ (xQ 16)) 389)).heap[w.heap.size]?=some (.cells (yJ (xQ 16)) 389 (0,0))):=ι (xL _ _);have HW0:=ι ((Below.refl w.heap.size w).alloc ν (.cells (yJ (xQ 16)) 389))
  have HB1:=ι (setRow_heap (w.alloc (.cells (yJ (xQ 16)) 389)) w.heap.size _ (yJ (s.data.toList++(xQ 16).drop s.size)) _ _ HB0.o);have HW1:=ι (below_setRow HW0.o ν (yJ (s.data.toList++(xQ 16).drop s.size)))
  have hll:(s.data.toList++(xQ 16).drop s.size).length=16:=by rw[List.length_append,List.length_drop,zC,hsl];omega
  have HPB:Hid (padB s.data.toList=(s.data.toList++(xQ 16).drop s.size).set s.size 1):=ι (by unfold padB;rw[hsl]);have HCP:=ι (xT6 HB0.o 3 16 16 s ω (by rw[zC];omega));have h16i:¬((s.size:Int)=16):=by omega
  clear hs h16;go_enter Tryz.func239,Tryz.ntmps239;go_upto_region 4 with fail
  refine wp_region_lit ?_;iterate 6 go_step
  refine Lib.wpList_copy_run _ rfl _ _ _ _ rfl _ _ rfl rfl HCP.o ?_;clear HCP HB0 HW0;generalize (w.alloc (.cells (yJ (xQ 16)) 389)).setRow w.heap.size (yJ (s.data.toList++(xQ 16).drop s.size))=w1 at HB1 HW1⊢;generalize s.data.toList++(xQ 16).drop s.size=l at HB1 hll HPB
  have q0:w1.cell? ⟨w.heap.size,s.size,none⟩=some (.int .u8 ((l.getD s.size 0).toNat:Int)):=by rw[xA HB1.o,qN ω]
  have q1:=xC HB1.o s.size;generalize ((l.getD s.size 0).toNat:Int)=old at q0
  have HB2:Hid ((w1.setCell ⟨w.heap.size,s.size,none⟩ (.int .u8 1)).heap[w.heap.size]?=some (.cells (yJ (l.set s.size 1)) 389 (0,0))):=ι (by
   have h:=xY HB1.o s.size (.int .u8 1);rw[show(Value.int .u8 1)=.int .u8 (((1:UInt8)).toNat:Int) from rfl,xQi] at h;exact h)
  have HW2:=ι (HW1.o.setCell (p:=⟨w.heap.size,s.size,none⟩) ν (.int .u8 1));have HL2:Hid ((l.set s.size 1).length=16):=ι (by rw[List.length_set];exact hll);clear HB1 HW1 hll hsl;go_upto_region 6 with fail
  clear q0 q1
  revert HW2
  refine(λ(h:∀W3,Hid (W3.heap[w.heap.size]?=some (.cells (yJ (l.set s.size 1)) 389 (0,0)))->Hid (Below w.heap.size w W3)->Code.wp _ _ _ _ W3)=>h _ HB2) ?_;clear HB2;intro w3 hw3 hb3;have HT:=xCi (t:=389) hw3.o 16 16 HL2.o;generalize l.set s.size 1=l2 at HPB hw3 HL2 HT;go_wp2
  go_ret;rw[HP.o,HPB.o];exact⟨rfl,hb3.o⟩
end Go.Proofs.SH
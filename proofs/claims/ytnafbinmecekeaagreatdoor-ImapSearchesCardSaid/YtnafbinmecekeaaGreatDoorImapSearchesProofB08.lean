/- Contracts of functions. Conditions: as stated. -/
import Derived.Test.YtnafbinmecekeaaGreatDoorImapSearchesProofB07
open Go.Proofs.Tryz
set_option maxHeartbeats 8000000
set_option maxRecDepth 100000
namespace Mailsack
def kK (k:Nat):Nat:=if 5<=k then k-5 else k
def yK (y:Int) (k:Nat):Int:=if 5<=k then Go.IntKind.u64.wrap (y*5) else y
def xKx (x:Int) (i:Nat) (r d:List Int):Nat->List Int
 |0=>d
 |j+1=>(xKx x i r d j).set (kK (i+j)) (Go.IntKind.u64.wrap ((xKx x i r d j).getD (kK (i+j)) 0+Go.IntKind.u64.wrap (x*yK (r.getD j 0) (i+j))))
theorem xHy (x:Int) (i:Nat) (r d:List Int):∀j,(xKx x i r d j).length=d.length
 |0=>rfl
 |j+1=>by rw[xKx,List.length_set,xHy x i r d j]
theorem xTe (x:Int) (i:Nat) (r:List Int) {d:List Int} (h:yE d):∀j,yE (xKx x i r d j)
 |0=>h
 |j+1=>(xTe x i r h j).set _ (wrap_u64 _)
def xLz (h r:List Int):Nat->List Int
 |0=>List.replicate 5 0
 |i+1=>xKx (h.getD i 0) i r (xLz h r i) 5
theorem xI0 (h r:List Int):∀i,(xLz h r i).length=5
 |0=>by simp[xLz]
 |i+1=>by rw[xLz,xHy,xI0 h r i]
theorem xTf (h r:List Int):∀i,yE (xLz h r i)
 |0=>xAr 5
 |i+1=>xTe _ _ _ (xTf h r i) 5
def xPx (c:List Int):List Int:=(c.set 1 (Go.IntKind.u64.wrap (c.getD 1 0+c.getD 0 0 / 67108864))).set 0 (Go.bits .and .u64 (c.getD 0 0) 67108863)
theorem xNj (c:List Int):(xPx c).length=c.length:=by simp[xPx]
theorem mulE_u {c:List Int} (h:yE c):yE (xPx c):=(h.set 1 (wrap_u64 _)).set 0 (yJ _ _ _)
def xXq (h r:List Int):List Int:=xPx (vZ (xLz h r 5))
theorem xHz (h r:List Int):(xXq h r).length=5:=by rw[xXq,xNj,wG,xI0]
theorem mulP_u (h r:List Int):yE (xXq h r):=mulE_u (qO (xTf h r 5))
end Mailsack
namespace Go.Proofs.SH
open Go.RowKit Mailsack MM BB
structure xIu (w:World) (hs rs d:List Int) (W:World):Prop where
 bh:zX W w.heap.size hs
 br:zX W (w.heap.size+1) rs
 bz:zX W (w.heap.size+1+1) (List.replicate 5 0)
 bd:zX W (w.heap.size+1+1+1) d
 bel:ψ w W
theorem xIu.put {w:World} {hs rs d:List Int} {W:World} (h:xIu w hs rs d W) (i:Nat) (x:Int):xIu w hs rs (d.set i x) (W.setCell ⟨w.heap.size+1+1+1,i,none⟩ (.int .u64 x)):=
 ⟨h.bh.far (p:=⟨w.heap.size+1+1+1,i,none⟩) (by simp only[];omega) _,h.br.far (p:=⟨w.heap.size+1+1+1,i,none⟩) (by simp only[];omega) _,h.bz.far (p:=⟨w.heap.size+1+1+1,i,none⟩) (by simp only[];omega) _,h.bd.put i x,h.bel.setCell (p:=⟨w.heap.size+1+1+1,i,none⟩) (by simp only[];omega) _⟩
theorem xIu.below {w:World} {hs rs d:List Int} {W W':World} (h:xIu w hs rs d W) (hb:ψ W W'):xIu w hs rs d W':=
 ⟨xC h.bh hb (xJ h.bh),xC h.br hb (xJ h.br),xC h.bz hb (xJ h.bz),xC h.bd hb (xJ h.bd),h.bel.trans (hb.mono h.bel.size)⟩
theorem xIu.row {w:World} {hs rs d:List Int} {W:World} (h:xIu w hs rs d W) (c:List Int):xIu w hs rs c (W.setRow (w.heap.size+1+1+1) (xE c)):=
 ⟨by unfold zX;rw[setRow_other _ _ _ _ ω];exact h.bh,by unfold zX;rw[setRow_other _ _ _ _ ω];exact h.br,by unfold zX;rw[setRow_other _ _ _ _ ω];exact h.bz,setRow_heap _ _ _ _ _ _ h.bd,below_setRow h.bel ω _⟩
theorem xTd (hs rs:List Int) (w:World) (hl:hs.length=5) (hu:yE hs) (rl:rs.length=5) (ru:yE rs):
  Calls prog 332 #[.agg (xE hs),.agg (xE rs)] w λe w'=>e=.returned (.agg (xE (xXq hs rs)))/\ψ w w':=by
 have H0:Hid (xIu w hs rs (xLz hs rs 0) ((((w.alloc (.cells (xE hs) 377)).alloc (.cells (xE rs) 377)).alloc (.cells (xE (List.replicate 5 0)) 377)).alloc (.cells (xE (List.replicate 5 0)) 377))):=ι (by
  have h0:=xI ((w.alloc (.cells (xE hs) 377)).alloc (.cells (xE rs) 377)) (.cells (xE (List.replicate 5 0)) 377);simp only[uQ] at h0
  have h1:=xI (((w.alloc (.cells (xE hs) 377)).alloc (.cells (xE rs) 377)).alloc (.cells (xE (List.replicate 5 0)) 377)) (.cells (xE (List.replicate 5 0)) 377);simp only[uQ] at h1
  exact⟨xM (xM (zK _ _ _) _) _,xM (xM (zD _ _ _) _) _,xM h0 _,h1,(((φ w _).alloc σ _).alloc (by simp;omega) _).alloc (by simp;omega) _⟩)
 have HI:Hid ((prog.info? 377).map (·.size)=some (xE hs).size):=ι (xAh hl);have HJ:Hid ((prog.info? 377).map (·.size)=some (xE rs).size):=ι (xAh rl);have HPI:Hid (∀n,n=5->xXq hs rs=xPx (vZ (xLz hs rs n))):=ι (λn hn=>by rw[hn];rfl)
 have HPS:Hid (∀i n,n=5->xLz hs rs (i+1)=xKx (hs.getD i 0) i rs (xLz hs rs i) n):=ι (λi n hn=>by rw[hn];rfl);have HL:=ι (λi=>xI0 hs rs i);have HU:=ι (λi=>xTf hs rs i);go_enter func332,ntmps332;go_upto_region 2 with fail
 refine(λ(h:∀W3,Hid (xIu w hs rs (xLz hs rs 0) W3)->Code.wp _ _ _ _ W3)=>h _ H0) ?_;clear H0;intro w3 hw3;refine wp_region_lit ?_;refine wpList_load_row rfl _ _ rfl w.heap.size rfl _ (xE hs) (0,0) _ hw3.o.bh underlying377 rfl HI.o ?_;go_wp2_with fail
 go_loopw [12] (λiv W=>∃i:Nat,i<=5/\iv=.int .i64 i/\Hid (xIu w hs rs (xLz hs rs i) W)) (λiv _=>5- (intOf iv).toNat)
 case atStart=>exact⟨0,δ,rfl,hw3⟩
 case round=>
  clear hw3
  rename World=>wi
  obtain⟨i,hi,rfl,hr⟩:=hrel
  by_cases hlt:i<5
  ·have HS:=ι (HPS.o i);have hl0:=HL.o i;have hu0:=HU.o i;obtain⟨x,hx⟩:∃x,hs.getD i 0=x:=⟨_,rfl⟩;have ux:=hu i;rw[hx] at ux HS;have ix:=λW=>vW (P:=prog) underlying377 underlying212 κ (xE hs) (.int .u64 x) i hlt (by rw[xAc ω,hx]) W
   obtain⟨d1,hd1⟩:∃d,xLz hs rs (i+1)=d:=⟨_,rfl⟩;rw[hd1] at HS;have HD1:=ι hd1;clear hd1;generalize xLz hs rs i=d0 at hr hl0 hu0 HS;have HT0:Hid (xIu w hs rs (xKx x i rs d0 0) wi):=ι hr.o
   have HTS:Hid (∀j,xKx x i rs d0 (j+1)=(xKx x i rs d0 j).set (kK (i+j)) (IntKind.u64.wrap ((xKx x i rs d0 j).getD (kK (i+j)) 0+IntKind.u64.wrap (x*yK (rs.getD j 0) (i+j))))):=ι (λj=>rfl);have HTL:Hid (∀j,(xKx x i rs d0 j).length=5):=ι (λj=>by rw[xHy,hl0])
   have HTU:Hid (∀j,yE (xKx x i rs d0 j)):=ι (λj=>xTe _ _ _ hu0 j);have HX:=ι ux;have HRU:=ι ru;have hrr:=hr;clear hr hx ux hl0 hu0 hu ru hl;go_upto_region 5 with fail
   clear ix;refine wp_region_lit ?_;refine wpList_load_row rfl _ _ rfl (w.heap.size+1) rfl _ (xE rs) (0,0) _ hrr.o.br underlying377 rfl HJ.o ?_;clear hrr;go_wp2_with fail
   go_loopw [17] (λjv W=>∃j:Nat,j<=5/\jv=.int .i64 j/\Hid (xIu w hs rs (xKx x i rs d0 j) W)) (λjv _=>5- (intOf jv).toNat)
   case atStart=>exact⟨0,δ,rfl,HT0⟩
   case round=>
    clear HT0
    rename World=>wj
    obtain⟨j,hj,rfl,hr⟩:=hrel
    by_cases hlt2:j<5
    ·have hTS:=HTS.o j;have hTL:=HTL.o j;obtain⟨t1,ht1⟩:∃t,xKx x i rs d0 (j+1)=t:=⟨_,rfl⟩;rw[ht1] at hTS;have HT1:=ι ht1;have hTU:=HTU.o j (kK (i+j));clear ht1;generalize xKx x i rs d0 j=t0 at hr hTS hTL hTU;obtain⟨y,hy⟩:∃y,rs.getD j 0=y:=⟨_,rfl⟩;have uy:=HRU.o j
     rw[hy] at uy hTS;have ix:=λW=>vW (P:=prog) underlying377 underlying212 κ (xE rs) (.int .u64 y) j hlt2 (by rw[xAc ω,hy]) W;have hK:kK (i+j)<5:=by unfold kK;split<;>omega
     have q0:=hr.o.bd.cell (i:=kK (i+j)) ω;have q1:=hr.o.bd.free (kK (i+j))
     have HP:Hid (xIu w hs rs t1 (wj.setCell ⟨w.heap.size+1+1+1,kK (i+j),none⟩ (.int .u64 (IntKind.u64.wrap (t0.getD (kK (i+j)) 0+IntKind.u64.wrap (x*yK y (i+j))))))):=ι (by
      have h:=hr.o.put (kK (i+j)) (IntKind.u64.wrap (t0.getD (kK (i+j)) 0+IntKind.u64.wrap (x*yK y (i+j))));rw[<-hTS] at h;exact h)
     generalize t0.getD (kK (i+j)) 0=v at q0 hTU HP;obtain⟨v0,v1⟩:=hTU;obtain⟨y0,y1⟩:=uy;obtain⟨x0,x1⟩:=HX.o;clear hTS hTL hy hr
     by_cases h5:5<=i+j
     ·have hk5:kK (i+j)=i+j-5:=if_pos h5;have hy5:yK y (i+j)=IntKind.u64.wrap (y*5):=if_pos h5;rw[hy5] at HP;generalize kK (i+j)=kk at hk5 hK q0 q1 HP;have hii:(i:Int)+(j:Int)=(kk:Int)+5:=ω;have h5i:(5:Int)<=(kk:Int)+5:=ω;clear hk5 h5 hy5;go_wp2
      exact⟨⟨j+1,ω,by go_num,by rw[HT1.o];exact HP⟩,by simp[intOf];omega⟩
     ·have hk5:kK (i+j)=i+j:=if_neg h5;have hy5:yK y (i+j)=y:=if_neg h5;rw[hy5] at HP;generalize kK (i+j)=kk at hk5 hK q0 q1 HP;have hii:(i:Int)+(j:Int)=(kk:Int):=ω;have h5i:¬((5:Int)<=(kk:Int)):=ω;clear hk5 h5 hy5;go_wp2
      exact⟨⟨j+1,ω,by go_num,by rw[HT1.o];exact HP⟩,by simp[intOf];omega⟩
    ·have hje:j=5:=ω;have hneg:¬((j:Int)<5):=ω;have HS1:=ι (HS.o j hje);clear hje hlt2 hj HTS HTL HTU HS;go_wp2;exact⟨⟨i+1,ω,by go_num,by rw[HD1.o,HS1.o];exact hr⟩,by simp[intOf];omega⟩
  ·have hie:i=5:=ω;have hneg:¬((i:Int)<5):=ω;have HP:=ι (HPI.o i hie);have hdl:=HL.o i;have hdu:=HU.o i;generalize xLz hs rs i=d0 at hr HP hdl hdu;have HI5:Hid ((prog.info? 377).map (·.size)=some (xE d0).size):=ι (xAh hdl);have HC:=ι (λW=>xFb d0 W hdl hdu)
   obtain⟨c,hc⟩:∃c,vZ d0=c:=⟨_,rfl⟩;have hcl:c.length=5:=by rw[<-hc,wG,hdl]
   have hcu:yE c:=hc▸qO hdu;rw[hc] at HC HP;clear hc hie hi hlt HL HU HPS HPI hdu;go_upto_region 15 with fail
   refine wp_region_lit ?_;refine wpList_load_row rfl _ _ rfl (w.heap.size+1+1+1) rfl _ (xE d0) (0,0) _ hr.o.bd underlying377 rfl HI5.o ?_;repeat go_step
   refine(HC.o _).mono ?_;rintro e w5 ⟨rfl,hb⟩;have h5:=hr.o.below hb;have HZ5:Hid ((xE d0).size=(xE c).size):=ι (by rw[xQ,xQ,hcl,hdl]);have HIc:Hid ((prog.info? 377).map (·.size)=some (xE c).size):=ι (xAh hcl);have HR:=ι (h5.row c);simp only[]
   rename ∀(a:Act) (w:World),wpList _ _ _ _ a w->_=>hk
   refine hk _ _ ?_;clear hk;refine wpList_store_row rfl _ _ _ rfl (w.heap.size+1+1+1) (xE c) rfl rfl _ _ h5.bd HIc.o HZ5.o (xR _) ?_;clear hr hb h5;refine(λ(h:∀W3,Hid (xIu w hs rs c W3)->wpList _ _ _ _ _ W3)=>h _ HR) ?_;clear HR;intro w6 hw6;obtain⟨a0,a1⟩:=hcu 0
   obtain⟨b0,b1⟩:=hcu 1;obtain⟨a,ha⟩:∃a,c.getD 0 0=a:=⟨_,rfl⟩;obtain⟨b,hbb⟩:∃b,c.getD 1 0=b:=⟨_,rfl⟩;have q0:=hw6.o.bd.cell (i:=0) ω;have q1:=hw6.o.bd.cell (i:=1) ω;have y0:=hw6.o.bd.free 0;have y1:=hw6.o.bd.free 1
   have HE:Hid (xPx c=(c.set 1 (IntKind.u64.wrap (c.getD 1 0+c.getD 0 0 / 67108864))).set 0 (bits .and .u64 (c.getD 0 0) 67108863)):=ι rfl;rw[ha] at a0 a1 q0 HE;rw[hbb] at b0 b1 q1 HE;clear ha hbb
   have HA:Hid (xIu w hs rs (xPx c) ((w6.setCell ⟨w.heap.size+1+1+1,1,none⟩ (.int .u64 (IntKind.u64.wrap (b+a / 67108864)))).setCell ⟨w.heap.size+1+1+1,0,none⟩ (.int .u64 (bits .and .u64 a 67108863)))):=ι (by rw[HE.o];exact(hw6.o.put 1 _).put 0 _)
   have hel:(xPx c).length=5:=by rw[xNj,hcl]
   have HI6:Hid ((prog.info? 377).map (·.size)=some (xE (xPx c)).size):=ι (xAh hel);have HZ6:Hid ((xE (List.replicate 5 0)).size=(xE (xPx c)).size):=ι (by rw[xQ,xQ,hel];rfl);clear hw6 HE hel;go_upto_region 18 with fail
   clear q0 q1 y0 y1 a0 a1 b0 b1;refine(λ(h:∀W3,Hid (xIu w hs rs (xPx c) W3)->Code.wp _ _ _ _ W3)=>h _ HA) ?_;clear HA;intro w7 hw7;refine wp_region_lit ?_;refine wpList_load_row rfl _ _ rfl (w.heap.size+1+1+1) rfl _ (xE (xPx c)) (0,0) _ hw7.o.bd underlying377 rfl HI6.o ?_
   refine wpList_store_row rfl _ _ _ rfl (w.heap.size+1+1) (xE (xPx c)) rfl rfl _ _ hw7.o.bz HI6.o HZ6.o (xR _) ?_;go_wp2;refine bodyPost_ret (results_cell_row rfl _ _ (w.heap.size+1+1) _ _ (0,0) _ rfl (setRow_heap _ _ _ _ _ _ hw7.o.bz) underlying377 rfl HI6.o) rfl ?_
   rw[HP.o];exact⟨rfl,below_setRow hw7.o.bel ω _⟩
end Go.Proofs.SH
namespace Mailsack
def xEp (c:List Int):List Int:=c.set 0 (Go.IntKind.u64.wrap (c.getD 0 0+5))
def xGq (c d:List Int) (o:Int):List Int:=if 0<o then d else c
def tN (h:List Int):List Int:=xGq (vZ (vZ h)) (xZ (xEp (vZ (vZ h))) 5).1 (xZ (xEp (vZ (vZ h))) 5).2
theorem xQ0 (h:List Int):(tN h).length=h.length:=by
 unfold tN xGq;split
 ·rw[tX,xEp,List.length_set,wG,wG]
 ·rw[wG,wG]
theorem xXt {h:List Int} (hh:yE h):yE (tN h):=by
 unfold tN xGq;split
 ·exact xCe ((qO (qO hh)).set 0 (wrap_u64 _)) 5
 ·exact qO (qO hh)
end Mailsack
namespace Go.Proofs.SH
open Go.RowKit Mailsack MM BB
structure xR1 (w:World) (c:List Int) (g:Nat) (d:List Int) (W:World):Prop where
 bh:zX W w.heap.size c
 bz:zX W (w.heap.size+1) (List.replicate 5 0)
 bd:zX W g d
 ge:w.heap.size+2<=g
 bel:ψ w W
theorem xR1.put {w:World} {c:List Int} {g:Nat} {d:List Int} {W:World} (h:xR1 w c g d W) (i:Nat) (x:Int):xR1 w c g (d.set i x) (W.setCell ⟨g,i,none⟩ (.int .u64 x)):=by
 have hg:=h.ge;exact⟨h.bh.far (p:=⟨g,i,none⟩) (by simp only[];omega) _,h.bz.far (p:=⟨g,i,none⟩) (by simp only[];omega) _,h.bd.put i x,hg,h.bel.setCell (p:=⟨g,i,none⟩) (by simp only[];omega) _⟩
theorem xTp (hs:List Int) (w:World) (hl:hs.length=5) (hu:yE hs):
  Calls prog 334 #[.agg (xE hs)] w λe w'=>e=.returned (.agg (xE (tN hs)))/\ψ w w':=by
 have H0:Hid (xIw w hs ((w.alloc (.cells (xE hs) 377)).alloc (.cells (xE (List.replicate 5 0)) 377))):=ι ⟨zK _ _ _,zD _ _ _,(φ w _).alloc σ _⟩;have HI:Hid ((prog.info? 377).map (·.size)=some (xE hs).size):=ι (xAh hl);have HC1:=ι (λW=>xFb hs W hl hu)
 have HP:Hid (∀n,n=5->tN hs=xGq (vZ (vZ hs)) (xZ (xEp (vZ (vZ hs))) n).1 (xZ (xEp (vZ (vZ hs))) n).2):=ι (λn hn=>by rw[hn];rfl);obtain⟨c1,hc1⟩:∃c,vZ hs=c:=⟨_,rfl⟩;have h1l:c1.length=5:=by rw[<-hc1,wG,hl]
 have h1u:yE c1:=hc1▸qO hu;rw[hc1] at HC1 HP;have HC2:=ι (λW=>xFb c1 W h1l h1u);obtain⟨c,hc⟩:∃c,vZ c1=c:=⟨_,rfl⟩;have hcl:c.length=5:=by rw[<-hc,wG,h1l]
 have hcu:yE c:=hc▸qO h1u;rw[hc] at HC2 HP;have HIc:Hid ((prog.info? 377).map (·.size)=some (xE c).size):=ι (xAh hcl);have HZ1:Hid ((xE hs).size=(xE c).size):=ι (by rw[xQ,xQ,hl,hcl]);have HZ0:Hid ((xE (List.replicate 5 0)).size=(xE c).size):=ι (by rw[xQ,xQ,hcl];rfl)
 clear hc hc1 h1l h1u;go_enter func334,ntmps334;go_upto_region 1 with fail
 refine(λ(h:∀W3,Hid (xIw w hs W3)->Code.wp _ _ _ _ W3)=>h _ H0) ?_;clear H0;intro w3 hw3;refine wp_region_lit ?_;refine wpList_load_row rfl _ _ rfl w.heap.size rfl _ (xE hs) (0,0) _ hw3.o.st underlying377 rfl HI.o ?_;repeat go_step
 refine(HC1.o _).mono ?_;rintro e w4 ⟨rfl,hb⟩;have hw4:Hid (xIw w hs w4):=ι ⟨xC hw3.o.st hb (xJ hw3.o.st),xC hw3.o.res hb (xJ hw3.o.res),hw3.o.bel.trans (hb.mono hw3.o.bel.size)⟩;clear hw3 hb;simp only[]
 rename ∀(a:Act) (w:World),wpList _ _ _ _ a w->_=>hk
 refine hk _ _ ?_;clear hk;repeat go_step
 refine(HC2.o _).mono ?_;rintro e w5 ⟨rfl,hb⟩;have hw5:Hid (xIw w hs w5):=ι ⟨xC hw4.o.st hb (xJ hw4.o.st),xC hw4.o.res hb (xJ hw4.o.res),hw4.o.bel.trans (hb.mono hw4.o.bel.size)⟩;clear hw4 hb;simp only[]
 rename ∀(a:Act) (w:World),wpList _ _ _ _ a w->_=>hk
 refine hk _ _ ?_;clear hk;refine wpList_store_row rfl _ _ _ rfl w.heap.size (xE c) rfl rfl _ _ hw5.o.st HIc.o HZ1.o (xR _) ?_
 have hw6:Hid (xIw w c (w5.setRow w.heap.size (xE c))):=ι ⟨setRow_heap _ _ _ _ _ _ hw5.o.st,by unfold zX;rw[setRow_other _ _ _ _ ω];exact hw5.o.res,below_setRow hw5.o.bel ν _⟩;refine(λ(h:∀W3,Hid (xIw w c W3)->wpList _ _ _ _ _ W3)=>h _ hw6) ?_;clear hw5 hw6 HC1 HC2 HZ1
 intro w7 hw7;go_upto_region 2 with fail
 refine wp_region_lit ?_;refine wpList_load_row rfl _ _ rfl w.heap.size rfl _ (xE c) (0,0) _ hw7.o.st underlying377 rfl HIc.o ?_;iterate 3 go_step
 refine wpList_store_row rfl _ _ _ rfl w7.heap.size (xE c) rfl rfl _ (xE (List.replicate 5 0)) (xI _ _) HIc.o HZ0.o (xR _) ?_;have hz7:=xJ hw7.o.res
 have hw8:Hid (xR1 w c w7.heap.size c ((w7.alloc (.cells (xE (List.replicate 5 0)) 377)).setRow w7.heap.size (xE c))):=ι ⟨by unfold zX;rw[setRow_other _ _ _ _ ω];exact xM hw7.o.st _,by unfold zX;rw[setRow_other _ _ _ _ ω];exact xM hw7.o.res _,setRow_heap _ _ _ _ _ _ (xI _ _),ω,below_setRow (hw7.o.bel.alloc hw7.o.bel.size _) ω _⟩
 refine(λ(h:∀W3,Hid (xR1 w c w7.heap.size c W3)->wpList _ _ _ _ _ W3)=>h _ hw8) ?_;clear hw8;generalize w7.heap.size=g at hz7⊢;clear hw7;intro w8 hw8;obtain⟨a0,a1⟩:=hcu 0;obtain⟨a,ha⟩:∃a,c.getD 0 0=a:=⟨_,rfl⟩;have q0:=hw8.o.bd.cell (i:=0) ω;have y0:=hw8.o.bd.free 0
 obtain⟨t,ht⟩:∃t,xEp c=t:=⟨_,rfl⟩;have HA:Hid (xR1 w c g (xZ t 0).1 (w8.setCell ⟨g,0,none⟩ (.int .u64 (IntKind.u64.wrap (c.getD 0 0+5))))):=ι (by rw[<-ht];exact hw8.o.put 0 _);have htl:t.length=5:=by rw[<-ht,xEp,List.length_set,hcl]
 have htu:yE t:=ht▸hcu.set 0 (wrap_u64 _);have HO0:Hid ((xZ t 0).2=0):=ι rfl;rw[ha] at a0 a1 q0 HA;rw[ht] at HP;have HL:Hid (∀i,(xZ t i).1.length=5):=ι (λi=>by rw[tX,htl]);have HU:=ι (λi=>xCe htu i);have HV:=ι (λi=>xFc t i)
 have HS:Hid (∀i,(xZ t (i+1)).1=(xZ t i).1.set i (bits .and .u64 (IntKind.u64.wrap ((xZ t i).1.getD i 0+(xZ t i).2)) 67108863)/\(xZ t (i+1)).2=IntKind.u64.wrap ((xZ t i).1.getD i 0+(xZ t i).2) / 67108864):=ι (λi=>⟨rfl,rfl⟩);clear ha ht htl htu hw8 hcu hl hu
 go_upto_region 5 with fail
 clear q0 y0 a0 a1;refine(λ(h:∀W3,Hid (xR1 w c g (xZ t 0).1 W3)->Code.wp _ _ _ _ W3)=>h _ HA) ?_;clear HA;intro w9 hw9;go_wp2_with fail
 go_loopw [4,14] (λov iv wr=>∃i:Nat,i<=5/\iv=.int .i64 i/\ov=.int .u64 (xZ t i).2/\Hid (xR1 w c g (xZ t i).1 wr)) (λ_ iv _=>5- (intOf iv).toNat)
 case atStart=>exact⟨0,δ,rfl,by rw[HO0.o],hw9⟩
 case round=>
  clear hw9 HO0;obtain⟨i,hi,rfl,rfl,hr⟩:=hrel;obtain⟨v0,v1⟩:=HV.o i
  by_cases hlt:i<5
  ·have hl5:=HL.o i;obtain⟨u0,u1⟩:=HU.o i i;obtain⟨s1,s2⟩:=HS.o i;obtain⟨x1,hx1⟩:∃x,(xZ t (i+1)).1=x:=⟨_,rfl⟩;obtain⟨o1,ho1⟩:∃x,(xZ t (i+1)).2=x:=⟨_,rfl⟩;rw[hx1] at s1;rw[ho1] at s2;have HX1:=ι hx1;have HO1:=ι ho1;clear hx1 ho1;generalize (xZ t i).2=o at v0 v1 s1 s2⊢
   generalize (xZ t i).1=xs at hr hl5 u0 u1 s1 s2;have q0:=hr.o.bd.cell (i:=i) ω;have q1:=hr.o.bd.free i;obtain⟨x,hx⟩:∃x,xs.getD i 0=x:=⟨_,rfl⟩;rw[hx] at q0 u0 u1 s1 s2;obtain⟨z,hz⟩:∃z,IntKind.u64.wrap (x+o)=z:=⟨_,rfl⟩;rw[hz] at s1 s2;have hzr:=wrap_u64 (x+o);rw[hz] at hzr
   obtain⟨z0,z1⟩:=hzr;have HZ:=ι hz;have HA:Hid (xR1 w c g (xs.set i z) (wr.setCell ⟨g,i,none⟩ (.int .u64 z))):=ι (hr.o.put i z)
   have HB:Hid (xR1 w c g x1 ((wr.setCell ⟨g,i,none⟩ (.int .u64 z)).setCell ⟨g,i,none⟩ (.int .u64 (bits .and .u64 z 67108863)))):=ι (by
    have h:=HA.o.put i (bits .and .u64 z 67108863);rw[List.set_set,<-s1] at h;exact h)
   have HS2:=ι s2
   have HQ:Hid (∀W,Hid (xR1 w c g (xs.set i z) W)->W.cell? ⟨g,i,none⟩=some (.int .u64 z)/\W.frozen? ⟨g,i,none⟩=false):=ι (λW h=>by
    have q:=h.o.bd.cell (i:=i) (by rw[List.length_set];omega);rw[List.getD_eq_getElem?_getD,List.getElem?_set_self ω] at q;exact⟨q,h.o.bd.free i⟩)
   clear hx hz s1 s2 hr hl5;go_upto_region 9 with fail
   rw[HZ.o];clear q0 q1 u0 u1
   revert HB
   refine(λ(h:∀W3,Hid (xR1 w c g (xs.set i z) W3)->Hid (xR1 w c g x1 (W3.setCell ⟨g,i,none⟩ (.int .u64 (bits .and .u64 z 67108863))))->Code.wp _ _ _ _ W3)=>h _ HA) ?_;clear HA;intro w3 hw3 HB;obtain⟨q0,q1⟩:=HQ.o w3 hw3;clear HQ;go_wp2;refine⟨⟨i+1,ω,?_,?_,?_⟩,?_⟩
   ·exact congrArg (Value.int .i64) ω
   ·rw[HO1.o,HS2.o]
   ·rw[HX1.o];exact HB
   ·simp[intOf];omega
  ·have hi5:i=5:=ω;have hneg:¬((i:Int)<5):=ω;have HF:=ι (HP.o i hi5);have hl5:=HL.o i;generalize (xZ t i).2=o at v0 v1 HF⊢;generalize (xZ t i).1=xs at hr hl5 HF;have HIx:Hid ((prog.info? 377).map (·.size)=some (xE xs).size):=ι (xAh hl5)
   have HZx:Hid ((xE (List.replicate 5 0)).size=(xE xs).size):=ι (by rw[xQ,xQ,hl5];rfl);have ho:Hid ((0:Int)<o∨¬(0:Int)<o):=ι ω;clear hi5 hlt hi HP HL HU HV HS hl5;rcases ho.o with hp|hp
   ·have HG:Hid (tN hs=xs):=ι (by rw[HF.o,xGq,if_pos hp]);go_upto_region 13 with fail
    refine wp_region_lit ?_;refine wpList_load_row rfl _ _ rfl g rfl _ (xE xs) (0,0) _ hr.o.bd underlying377 rfl HIx.o ?_;refine wpList_store_row rfl _ _ _ rfl (w.heap.size+1) (xE xs) rfl rfl _ _ hr.o.bz HIx.o HZx.o (xR _) ?_;go_wp2
    refine bodyPost_ret (results_cell_row rfl _ _ (w.heap.size+1) _ _ (0,0) _ rfl (setRow_heap _ _ _ _ _ _ hr.o.bz) underlying377 rfl HIx.o) rfl ?_;rw[HG.o];exact⟨rfl,below_setRow hr.o.bel ω _⟩
   ·have HG:Hid (tN hs=c):=ι (by rw[HF.o,xGq,if_neg hp]);go_upto_region 14 with fail
    refine wp_region_lit ?_;refine wpList_load_row rfl _ _ rfl w.heap.size rfl _ (xE c) (0,0) _ hr.o.bh underlying377 rfl HIc.o ?_;refine wpList_store_row rfl _ _ _ rfl (w.heap.size+1) (xE c) rfl rfl _ _ hr.o.bz HIc.o HZ0.o (xR _) ?_;go_wp2
    refine bodyPost_ret (results_cell_row rfl _ _ (w.heap.size+1) _ _ (0,0) _ rfl (setRow_heap _ _ _ _ _ _ hr.o.bz) underlying377 rfl HIc.o) rfl ?_;rw[HG.o];exact⟨rfl,below_setRow hr.o.bel ω _⟩
end Go.Proofs.SH
namespace Mailsack
def padB (s:Bs):Bs:=(s++(xO 16).drop s.length).set s.length 1
def jZ (s:ByteArray):ByteArray:=if s.size=16 then s else bsA (padB s.data.toList)
theorem xXf (s:Bs) (h:s.length<=16):(padB s).length=16:=by
 unfold padB;rw[List.length_set,List.length_append,List.length_drop,yS];omega
theorem xT3 (s:ByteArray) (h:s.size<=16):(jZ s).size=16:=by
 unfold jZ;split
 ·assumption
 ·have:=xXf s.data.toList (by simpa using h);simpa[bsA,ByteArray.size] using this
end Mailsack
namespace Go.Proofs.SH
open Go.RowKit Mailsack MM BB
theorem xQr {W:World} {g:Nat} {l:Bs} {t:TypeId} (h:W.heap[g]?=some (.cells (xX l) t (0,0))) (ty:TypeId) (dLen dCap:Nat) (s:ByteArray) (h1:s.size<=dLen) (h2:s.size<=l.length):
  (Builtin.copy_ #[125,9] ty #[.slice (some ⟨g,0,none⟩) dLen dCap,.string s]).run prog W=.ok (goInt s.size) (W.setRow g (xX (s.data.toList++l.drop s.size))):=by
 have h3:=Lib.run_copy_row_string (P:=prog) W 125 9 ty 5 g 0 dLen dCap s (xX l) _ underlying125 κ h h1 (by rw[uG];omega)
 have h4:((xX l).toList.take 0++Lib.byteCells s.data.toList++(xX l).toList.drop (0+s.size)).toArray=xX (s.data.toList++l.drop s.size):=by
  simp[xX,Lib.byteCells,List.map_drop]
 rw[h3,h4]
theorem xPp (s:ByteArray) (w:World) (hs:s.size<=16):
  Calls prog 331 #[.string s] w λe w'=>e=.returned (.string (jZ s))/\ψ w w':=by
 by_cases h16:s.size=16
 ·have HP:Hid (jZ s=s):=ι (if_pos h16);have h16i:(s.size:Int)=16:=ω;clear h16 hs;go_enter func331,ntmps331;go_wp2;go_ret;rw[HP.o];exact⟨rfl,Below.refl _ _⟩
 ·have hlt:s.size<16:=ω;have hsl:s.data.toList.length=s.size:=σ;have HP:Hid (jZ s=bsA (padB s.data.toList)):=ι (if_neg h16);have HB0:Hid ((w.alloc (.cells (xX (xO 16)) 435)).heap[w.heap.size]?=some (.cells (xX (xO 16)) 435 (0,0))):=ι (xI _ _)
  have HW0:=ι (φ w (.cells (xX (xO 16)) 435));have HB1:=ι (setRow_heap (w.alloc (.cells (xX (xO 16)) 435)) w.heap.size _ (xX (s.data.toList++(xO 16).drop s.size)) _ _ HB0.o);have HW1:=ι (below_setRow HW0.o ν (xX (s.data.toList++(xO 16).drop s.size)))
  have hll:(s.data.toList++(xO 16).drop s.size).length=16:=by rw[List.length_append,List.length_drop,yS,hsl];omega
  have HPB:Hid (padB s.data.toList=(s.data.toList++(xO 16).drop s.size).set s.size 1):=ι (by unfold padB;rw[hsl]);have HCP:=ι (xQr HB0.o 3 16 16 s ω (by rw[yS];omega));have h16i:¬((s.size:Int)=16):=ω;clear hs h16;go_enter func331,ntmps331;go_upto_region 4 with fail
  refine wp_region_lit ?_;iterate 6 go_step
  refine Lib.wpList_copy_run _ rfl _ _ _ _ rfl _ _ rfl rfl HCP.o ?_;clear HCP HB0 HW0;generalize (w.alloc (.cells (xX (xO 16)) 435)).setRow w.heap.size (xX (s.data.toList++(xO 16).drop s.size))=w1 at HB1 HW1⊢;generalize s.data.toList++(xO 16).drop s.size=l at HB1 hll HPB
  have q0:w1.cell? ⟨w.heap.size,s.size,none⟩=some (.int .u8 ((l.getD s.size 0).toNat:Int)):=by rw[xA HB1.o,kU ω]
  have q1:=xD HB1.o s.size;generalize ((l.getD s.size 0).toNat:Int)=old at q0
  have HB2:Hid ((w1.setCell ⟨w.heap.size,s.size,none⟩ (.int .u8 1)).heap[w.heap.size]?=some (.cells (xX (l.set s.size 1)) 435 (0,0))):=ι (by
   have h:=yC HB1.o s.size (.int .u8 1);rw[show(Value.int .u8 1)=.int .u8 (((1:UInt8)).toNat:Int) from rfl,xOe] at h;exact h)
  have HW2:=ι (HW1.o.setCell (p:=⟨w.heap.size,s.size,none⟩) ν (.int .u8 1));have HL2:Hid ((l.set s.size 1).length=16):=ι (by rw[List.length_set];exact hll);clear HB1 HW1 hll hsl;go_upto_region 6 with fail
  clear q0 q1
  revert HW2
  refine(λ(h:∀W3,Hid (W3.heap[w.heap.size]?=some (.cells (xX (l.set s.size 1)) 435 (0,0)))->Hid (ψ w W3)->Code.wp _ _ _ _ W3)=>h _ HB2) ?_;clear HB2;intro w3 hw3 hb3;have HT:=xBh (t:=435) hw3.o 16 16 HL2.o;generalize l.set s.size 1=l2 at HPB hw3 HL2 HT;go_wp2;go_ret
  rw[HP.o,HPB.o];exact⟨rfl,hb3.o⟩
end Go.Proofs.SH
namespace Mailsack
def finA (l:List Int):Int:=Go.bits .or .u64 (Go.bits .or .u64 (l.getD 0 0) (Go.IntKind.u64.wrap (l.getD 1 0*67108864))) (Go.IntKind.u64.wrap (l.getD 2 0*4503599627370496))
def finB (l:List Int):Int:=Go.bits .or .u64 (Go.bits .or .u64 (l.getD 2 0 / 4096) (Go.IntKind.u64.wrap (l.getD 3 0*16384))) (Go.IntKind.u64.wrap (l.getD 4 0*1099511627776))
def xUe (s:ByteArray):Int:=Go.bits .or .u64 (zR s 0) (Go.IntKind.u64.wrap (zR s 4*4294967296))
def halfB (s:ByteArray):Int:=Go.bits .or .u64 (zR s 8) (Go.IntKind.u64.wrap (zR s 12*4294967296))
def lowF (l:List Int) (s:ByteArray):Int:=(finA l+xUe s) % 18446744073709551616
def xXh (l:List Int) (s:ByteArray):Int:=(finA l+xUe s) / 18446744073709551616
def xU7 (l:List Int) (s:ByteArray):Int:=(finB l+halfB s+xXh l s) % 18446744073709551616
def xPq (lo hi:Int):Nat->Bs
 |0=>xO 16
 |i+1=>((xPq lo hi i).set i (oct (lo / 2^(8*i)))).set (8+i) (oct (hi / 2^(8*i)))
theorem xHx (lo hi:Int):∀i,(xPq lo hi i).length=16
 |0=>yS 16
 |i+1=>by rw[xPq,List.length_set,List.length_set,xHx lo hi i]
def finP (l:List Int) (s:ByteArray):ByteArray:=bsA (xPq (lowF l s) (xU7 l s) 8)
theorem xUp (l:List Int) (s:ByteArray):(finP l s).size=16:=by
 have:=xHx (lowF l s) (xU7 l s) 8;simpa[finP,bsA,ByteArray.size] using this
end Mailsack
namespace Go.Proofs.SH
open Go.RowKit Mailsack MM BB
theorem yCf (x y c:Int) (hx:0<=x) (hy:0<=y) (hc0:0<=c) (hc:c<=1) (w:World):
  (callFunc 252 #[.int .u64 x,.int .u64 y,.int .u64 c]).run prog w=
   .ok (.value (.tuple #[.int .u64 ((x+y+c) % 18446744073709551616),.int .u64 ((x+y+c) / 18446744073709551616)])) w:=by
 rw[run_callFunc_extern func252 κ κ κ (e:=add64Entry) κ,run_add64 x y c hx hy hc0 hc]
 rfl
structure FhM (w:World) (hs:List Int) (W:World):Prop where
 bh:zX W w.heap.size hs
 bel:ψ w W
theorem FhM.below {w:World} {hs:List Int} {W W':World} (h:FhM w hs W) (hb:ψ W W'):FhM w hs W':=
 ⟨xC h.bh hb (xJ h.bh),h.bel.trans (hb.mono h.bel.size)⟩
theorem xMe (hs:List Int) (s:ByteArray) (w:World) (hl:hs.length=5) (hu:yE hs) (h16:s.size=16):
  Calls prog 333 #[.agg (xE hs),.string s] w λe w'=>e=.returned (.string (finP hs s))/\ψ w w':=by
 have W0:Hid (∀W,Calls prog 391 #[.string s,.int .i64 0] W λe w'=>e=.returned (.int .u64 (zR s 0))/\ψ W w'):=ι (λW=>jF s 0 W ω ω);have W4:Hid (∀W,Calls prog 391 #[.string s,.int .i64 4] W λe w'=>e=.returned (.int .u64 (zR s 4))/\ψ W w'):=ι (λW=>jF s 4 W ω ω)
 have W8:Hid (∀W,Calls prog 391 #[.string s,.int .i64 8] W λe w'=>e=.returned (.int .u64 (zR s 8))/\ψ W w'):=ι (λW=>jF s 8 W ω ω);have W12:Hid (∀W,Calls prog 391 #[.string s,.int .i64 12] W λe w'=>e=.returned (.int .u64 (zR s 12))/\ψ W w'):=ι (λW=>jF s 12 W ω ω)
 have HF:Hid (∀n,n=8->finP hs s=bsA (xPq (lowF hs s) (xU7 hs s) n)):=ι (λn hn=>by rw[hn];rfl);obtain⟨lw,hlw⟩:∃x,lowF hs s=x:=⟨_,rfl⟩;obtain⟨hw,hhw⟩:∃x,xU7 hs s=x:=⟨_,rfl⟩;obtain⟨ov,hov⟩:∃x,xXh hs s=x:=⟨_,rfl⟩;rw[hlw,hhw] at HF;unfold lowF finA xUe at hlw
 unfold xXh finA xUe at hov;have xI5:=hhw;unfold xU7 finB halfB at xI5;unfold xXh finA xUe at xI5;clear hhw;obtain⟨u00,u01⟩:=qU s 0;obtain⟨u40,u41⟩:=qU s 4;obtain⟨u80,u81⟩:=qU s 8;obtain⟨uc0,uc1⟩:=qU s 12;obtain⟨y0,hy0⟩:∃x,zR s 0=x:=⟨_,rfl⟩;obtain⟨y4,hy4⟩:∃x,zR s 4=x:=⟨_,rfl⟩
 obtain⟨y8,hy8⟩:∃x,zR s 8=x:=⟨_,rfl⟩;obtain⟨y12,hy12⟩:∃x,zR s 12=x:=⟨_,rfl⟩;rw[hy0] at W0 u00 u01 hlw hov xI5;rw[hy4] at W4 u40 u41 hlw hov xI5;rw[hy8] at W8 u80 u81 xI5;rw[hy12] at W12 uc0 uc1 xI5;have HM:Hid (FhM w hs (w.alloc (.cells (xE hs) 377))):=ι ⟨xI _ _,φ w _⟩
 have HM2:Hid (FhM w hs (w.alloc (.cells (xE hs) 377)).drew):=ι ⟨HM.o.bh,HM.o.bel.drew⟩;obtain⟨a,ha⟩:∃x,hs.getD 0 0=x:=⟨_,rfl⟩;obtain⟨b,hb⟩:∃x,hs.getD 1 0=x:=⟨_,rfl⟩;obtain⟨c,hc⟩:∃x,hs.getD 2 0=x:=⟨_,rfl⟩;obtain⟨d,hd⟩:∃x,hs.getD 3 0=x:=⟨_,rfl⟩
 obtain⟨e,he⟩:∃x,hs.getD 4 0=x:=⟨_,rfl⟩;obtain⟨a0,a1⟩:=ha▸hu 0;obtain⟨b0,b1⟩:=hb▸hu 1;obtain⟨c0,c1⟩:=hc▸hu 2;obtain⟨d0,d1⟩:=hd▸hu 3;obtain⟨e0,e1⟩:=he▸hu 4
 have HQ:Hid (∀W,Hid (FhM w hs W)->W.cell? ⟨w.heap.size,0,none⟩=some (.int .u64 a)/\W.cell? ⟨w.heap.size,1,none⟩=some (.int .u64 b)/\W.cell? ⟨w.heap.size,2,none⟩=some (.int .u64 c)/\W.cell? ⟨w.heap.size,3,none⟩=some (.int .u64 d)/\W.cell? ⟨w.heap.size,4,none⟩=some (.int .u64 e)):=ι (λW h=>by
  refine⟨?_,?_,?_,?_,?_⟩
  ·rw[h.o.bh.cell (i:=0) ω,ha]
  ·rw[h.o.bh.cell (i:=1) ω,hb]
  ·rw[h.o.bh.cell (i:=2) ω,hc]
  ·rw[h.o.bh.cell (i:=3) ω,hd]
  ·rw[h.o.bh.cell (i:=4) ω,he])
 rw[ha,hb,hc] at hlw hov;rw[hc,hd,he,ha,hb] at xI5;have HLW:=ι hlw;have HOV:=ι hov;have HHW:=ι xI5;clear hlw hov xI5;clear hu hl h16 ha hb hc hd he hy0 hy4 hy8 hy12;go_enter func333,ntmps333;go_upto_region 1 with fail
 refine RG.xH (λW=>Hid (FhM w hs W)) κ κ HM2 ?_;clear HM HM2
 iterate 11
  apply RG.xG
  ·intro w9 hw9;obtain⟨q0,q1,q2,q3,q4⟩:=HQ.o w9 hw9;repeat go_step
   exact RG.xB hw9
  ·rfl
 apply RG.xG
 ·intro w9 hw9;repeat go_step
  refine(W0.o _).mono ?_;rintro e w10 ⟨rfl,yP⟩;simp only[];repeat go_step
  refine RG.xB ?_;exact ι (hw9.o.below yP)
 ·rfl
 refine RG.dS ?_;apply RG.xG
 ·intro w9 hw9;repeat go_step
  refine(W4.o _).mono ?_;rintro e w10 ⟨rfl,yP⟩;simp only[];repeat go_step
  refine RG.xB ?_;exact ι (hw9.o.below yP)
 ·rfl
 iterate 2 refine RG.dS ?_
 obtain⟨lo,hlo⟩:∃x,bits .or .u64 (bits .or .u64 a (IntKind.u64.wrap (b*67108864))) (IntKind.u64.wrap (c*4503599627370496))=x:=⟨_,rfl⟩;obtain⟨lo0,lo1⟩:=hlo▸yJ .or (bits .or .u64 a (IntKind.u64.wrap (b*67108864))) (IntKind.u64.wrap (c*4503599627370496))
 obtain⟨ha,hha⟩:∃x,bits .or .u64 y0 (IntKind.u64.wrap (y4*4294967296))=x:=⟨_,rfl⟩;obtain⟨ha0,ha1⟩:=hha▸yJ .or y0 (IntKind.u64.wrap (y4*4294967296));rw[hlo,hha];have HLO:=ι hlo;have HHA:=ι hha;clear hlo hha;have hlw:=HLW.o;have hov:=HOV.o;have xI5:=HHW.o
 rw[HLO.o,HHA.o] at hlw hov xI5;rw[hov] at xI5;clear HLW HOV HHW HLO HHA;have HHW:=ι xI5;have hl0:=xCt (lo+ha);rw[hlw] at hl0;obtain⟨l0,l1⟩:=hl0;have ho0:0<=ov:=ω;have ho1:ov<=1:=ω
 have A1:Hid (∀W,(callFunc 252 #[.int .u64 lo,.int .u64 ha,.int .u64 0]).run prog W=.ok (.value (.tuple #[.int .u64 lw,.int .u64 ov])) W):=ι (λW=>by
  have h:=yCf lo ha 0 lo0 ha0 δ δ W;rw[Int.add_zero,hlw,hov] at h;exact h)
 clear xI5 hlw hov;apply RG.xG
 ·intro w9 hw9;have q9:=A1.o w9;repeat go_step
  exact RG.xB hw9
 ·rfl
 iterate 5 refine RG.dS ?_
 refine RG.xL (λw9 hw9=>?_);clear W0 W4 A1 lo0 lo1 ha0 ha1 a0 a1 b0 b1 u00 u01 u40 u41;go_upto_region 2 with fail
 have HM2:Hid (FhM w hs w9.drew):=ι ⟨hw9.o.bh,hw9.o.bel.drew⟩;refine RG.xH (λW=>Hid (FhM w hs W)) κ κ HM2 ?_;clear HM2 hw9
 iterate 12
  apply RG.xG
  ·intro w9 hw9;obtain⟨q0,q1,q2,q3,q4⟩:=HQ.o w9 hw9;repeat go_step
   exact RG.xB hw9
  ·rfl
 apply RG.xG
 ·intro w9 hw9;repeat go_step
  refine(W8.o _).mono ?_;rintro e w10 ⟨rfl,yP⟩;simp only[];repeat go_step
  refine RG.xB ?_;exact ι (hw9.o.below yP)
 ·rfl
 refine RG.dS ?_;apply RG.xG
 ·intro w9 hw9;repeat go_step
  refine(W12.o _).mono ?_;rintro e w10 ⟨rfl,yP⟩;simp only[];repeat go_step
  refine RG.xB ?_;exact ι (hw9.o.below yP)
 ·rfl
 iterate 3 refine RG.dS ?_
 obtain⟨lo2,hlo⟩:∃x,bits .or .u64 (bits .or .u64 (c / 4096) (IntKind.u64.wrap (d*16384))) (IntKind.u64.wrap (e*1099511627776))=x:=⟨_,rfl⟩;obtain⟨lo0,lo1⟩:=hlo▸yJ .or (bits .or .u64 (c / 4096) (IntKind.u64.wrap (d*16384))) (IntKind.u64.wrap (e*1099511627776))
 obtain⟨hb,hhb⟩:∃x,bits .or .u64 y8 (IntKind.u64.wrap (y12*4294967296))=x:=⟨_,rfl⟩;obtain⟨hb0,hb1⟩:=hhb▸yJ .or y8 (IntKind.u64.wrap (y12*4294967296));rw[hlo,hhb];have xI5:=HHW.o;rw[hlo,hhb] at xI5;clear hlo hhb HHW;have hh0:=xCt (lo2+hb+ov);rw[xI5] at hh0;obtain⟨h0,h1⟩:=hh0
 obtain⟨ov2,hov2⟩:∃x,(lo2+hb+ov) / 18446744073709551616=x:=⟨_,rfl⟩
 have A2:Hid (∀W,(callFunc 252 #[.int .u64 lo2,.int .u64 hb,.int .u64 ov]).run prog W=.ok (.value (.tuple #[.int .u64 hw,.int .u64 ov2])) W):=ι (λW=>by
  have h:=yCf lo2 hb ov lo0 hb0 ho0 ho1 W;rw[xI5,hov2] at h;exact h)
 clear xI5 hov2;apply RG.xG
 ·intro w9 hw9;have q9:=A2.o w9;repeat go_step
  exact RG.xB hw9
 ·rfl
 iterate 5 refine RG.dS ?_
 refine RG.xL (λw9 hw9=>?_);clear W8 W12 A2 lo0 lo1 hb0 hb1 c0 c1 d0 d1 e0 e1 u80 u81 uc0 uc1 HQ ho0 ho1
 have HO0:Hid (FhM w hs (w9.alloc (.cells (xX (xO 16)) 435))/\(w9.alloc (.cells (xX (xO 16)) 435)).heap[w9.heap.size]?=some (.cells (xX (xPq lw hw 0)) 435 (0,0))/\w.heap.size<w9.heap.size):=ι ⟨⟨xM hw9.o.bh _,hw9.o.bel.alloc hw9.o.bel.size _⟩,xI _ _,xJ hw9.o.bh⟩
 have HOS:Hid (∀i,xPq lw hw (i+1)=((xPq lw hw i).set i (oct (lw / 2^(8*i)))).set (8+i) (oct (hw / 2^(8*i)))):=ι (λi=>rfl);have HOL:=ι (λi=>xHx lw hw i);go_upto_region 4 with fail
 refine(λ(h:∀W3,Hid (FhM w hs W3/\W3.heap[w9.heap.size]?=some (.cells (xX (xPq lw hw 0)) 435 (0,0))/\w.heap.size<w9.heap.size)->Code.wp _ _ _ _ W3)=>h _ HO0) ?_;clear HO0 hw9;generalize w9.heap.size=g;intro w3 hw3;go_wp2_with fail
 go_loopw [53] (λiv W=>∃i:Nat,i<=8/\iv=.int .i64 i/\Hid (FhM w hs W/\W.heap[g]?=some (.cells (xX (xPq lw hw i)) 435 (0,0))/\w.heap.size<g)) (λiv _=>8- (intOf iv).toNat)
 case atStart=>exact⟨0,δ,rfl,hw3⟩
 case round=>
  clear hw3
  rename World=>wi
  obtain⟨i,hi,rfl,hr⟩:=hrel
  by_cases hlt:i<8
  ·have HS1:=ι (HOS.o i);have hol:=HOL.o i;generalize xPq lw hw i=l at hr HS1 hol;have hg:=hr.o.2.2;have q0:=xA hr.o.2.1 i;rw[kU ω] at q0;have q1:=xD hr.o.2.1 i;generalize ((l.getD i 0).toNat:Int)=old at q0
   have HA:Hid (FhM w hs (wi.setCell ⟨g,i,none⟩ (.int .u8 (lw / 2^(8*i) % 256)))/\(wi.setCell ⟨g,i,none⟩ (.int .u8 (lw / 2^(8*i) % 256))).heap[g]?=some (.cells (xX (l.set i (oct (lw / 2^(8*i))))) 435 (0,0))):=ι (by
    refine⟨⟨hr.o.1.bh.far (p:=⟨g,i,none⟩) (by simp only[];omega) _,hr.o.1.bel.setCell (p:=⟨g,i,none⟩) (by simp only[];omega) _⟩,?_⟩;have h:=yC hr.o.2.1 i (.int .u8 (lw / 2^(8*i) % 256));rw[xCb] at h;exact h)
   have HG:=ι hg;have HL1:Hid ((l.set i (oct (lw / 2^(8*i)))).length=16):=ι (by rw[List.length_set];exact hol);clear hr hol hg;generalize l.set i (oct (lw / 2^(8*i)))=l1 at HA HS1 HL1;go_upto_region 8 with fail
   clear q0 q1;refine(λ(h:∀W3,Hid (FhM w hs W3/\W3.heap[g]?=some (.cells (xX l1) 435 (0,0)))->Code.wp _ _ _ _ W3)=>h _ HA) ?_;clear HA;intro wk hk;have q0:=xA hk.o.2 (8+i);rw[kU (by rw[HL1.o];omega)] at q0;have q1:=xD hk.o.2 (8+i)
   generalize ((l1.getD (8+i) 0).toNat:Int)=old at q0
   have HB:Hid (FhM w hs (wk.setCell ⟨g,8+i,none⟩ (.int .u8 (hw / 2^(8*i) % 256)))/\(wk.setCell ⟨g,8+i,none⟩ (.int .u8 (hw / 2^(8*i) % 256))).heap[g]?=some (.cells (xX (xPq lw hw (i+1))) 435 (0,0))/\w.heap.size<g):=ι (by
    have hg:=HG.o;refine⟨⟨hk.o.1.bh.far (p:=⟨g,8+i,none⟩) (by simp only[];omega) _,hk.o.1.bel.setCell (p:=⟨g,8+i,none⟩) (by simp only[];omega) _⟩,?_,hg⟩;have h:=yC hk.o.2 (8+i) (.int .u8 (hw / 2^(8*i) % 256));rw[xCb] at h;rw[HS1.o];exact h)
   clear hk HL1;go_wp2;exact⟨⟨i+1,ω,by go_num,HB⟩,by simp[intOf];omega⟩
  ·have hie:i=8:=ω;have HFi:=ι (HF.o i hie);have hneg:¬((i:Int)<8):=ω;have HT:=xBh (t:=435) hr.o.2.1 16 16 (HOL.o i);clear HF HOS HOL hlt hi hie;generalize xPq lw hw i=l at hr HFi HT;go_wp2;go_ret;rw[HFi.o];exact⟨rfl,hr.o.1.bel⟩
end Go.Proofs.SH
namespace Mailsack
def tY (s:ByteArray):List Int:=if s.size=16 then(yT (jZ s)).list.set 4 (Go.IntKind.u64.wrap ((yT (jZ s)).e+16777216)) else(yT (jZ s)).list
def vG (h b:List Int):Nat->List Int
 |0=>h
 |i+1=>(vG h b i).set i (Go.IntKind.u64.wrap ((vG h b i).getD i 0+b.getD i 0))
theorem xDz (h b:List Int):∀i,(vG h b i).length=h.length
 |0=>rfl
 |i+1=>by rw[vG,List.length_set,xDz h b i]
theorem xOs {h:List Int} (b:List Int) (hh:yE h):∀i,yE (vG h b i)
 |0=>hh
 |i+1=>(xOs b hh i).set i (wrap_u64 _)
theorem xH4 (s:ByteArray):(tY s).length=5:=by
 unfold tY;split<;>simp[L5.list]
theorem xOk (s:ByteArray):yE (tY s):=by
 unfold tY;split
 ·exact(L5.all (rO _)).set 4 (wrap_u64 _)
 ·exact L5.all (rO _)
def kJ (n k:Nat):Nat:=if 16*k<=n then 16*k else n
def xZ8 (n k:Nat):Nat:=if 16<=n-kJ n k then 16 else n-kJ n k
theorem xT8 (n k:Nat):kJ n (k+1)=kJ n k+xZ8 n k:=by
 unfold xZ8 kJ
 repeat' split
 all_goals omega
theorem yB1 (n k:Nat):kJ n k<=n:=by
 unfold kJ;split<;>omega
def xKr (r:List Int) (s:ByteArray):Nat->List Int
 |0=>List.replicate 5 0
 |k+1=>xXq (vG (xKr r s k) (tY (s.extract (kJ s.size k) (kJ s.size k+xZ8 s.size k))) 5) r
theorem xWx (r:List Int) (s:ByteArray):∀k,(xKr r s k).length=5
 |0=>by simp[xKr]
 |k+1=>by rw[xKr,xHz]
theorem tagI_u (r:List Int) (s:ByteArray):∀k,yE (xKr r s k)
 |0=>xAr 5
 |_+1=>mulP_u _ _
def tagP (key s:ByteArray):ByteArray:=finP (tN (xKr (wQ (key.extract 0 16)).list s ((s.size+15) / 16))) (key.extract 16 32)
theorem xSb (key s:ByteArray):(tagP key s).size=16:=xUp _ _
end Mailsack
namespace Go.Proofs.SH
open Go.RowKit Mailsack MM BB
structure wH (w:World) (g:Nat) (rs hs:List Int) (W:World):Prop where
 br:zX W g rs
 bh:zX W (g+1) hs
 ge:w.heap.size<=g
 bel:ψ w W
theorem wH.below {w:World} {g:Nat} {rs hs:List Int} {W W':World} (h:wH w g rs hs W) (hb:ψ W W'):wH w g rs hs W':=
 ⟨xC h.br hb (xJ h.br),xC h.bh hb (xJ h.bh),h.ge,h.bel.trans (hb.mono h.bel.size)⟩
theorem wH.put {w:World} {g:Nat} {rs hs:List Int} {W:World} (h:wH w g rs hs W) (i:Nat) (x:Int):wH w g rs (hs.set i x) (W.setCell ⟨g+1,i,none⟩ (.int .u64 x)):=by
 have hg:=h.ge;exact⟨h.br.far (p:=⟨g+1,i,none⟩) (by simp only[];omega) _,h.bh.put i x,hg,h.bel.setCell (p:=⟨g+1,i,none⟩) (by simp only[];omega) _⟩
theorem yAh (key s:ByteArray) (w:World) (hk:key.size=32) (hs:s.size<=1099511627776):
  Calls prog 258 #[.string key,.string s] w λe w'=>e=.returned (.tuple #[.string (tagP key s),.bool true])/\ψ w w':=by
 have hki:(key.size:Int)=32:=ω;have h16:(key.extract 0 16).size=16:=by simp;omega
 have HCL:=ι (λW=>xF9 (key.extract 0 16) W h16);have hrl:(wQ (key.extract 0 16)).list.length=5:=rfl;have hru:=L5.all (xVd (key.extract 0 16))
 have HA:Hid (#[Value.int .u64 (wQ (key.extract 0 16)).a,Value.int .u64 (wQ (key.extract 0 16)).b,Value.int .u64 (wQ (key.extract 0 16)).c,Value.int .u64 (wQ (key.extract 0 16)).d,Value.int .u64 (wQ (key.extract 0 16)).e]=xE (wQ (key.extract 0 16)).list):=ι rfl
 have HP:Hid (∀n,n=(s.size+15) / 16->tagP key s=finP (tN (xKr (wQ (key.extract 0 16)).list s n)) (key.extract 16 32)):=ι (λn hn=>by rw[hn];rfl);rw[HA.o] at HCL;clear HA;generalize (wQ (key.extract 0 16)).list=rs at HCL hrl hru HP
 have HIr:Hid ((prog.info? 377).map (·.size)=some (xE rs).size):=ι (xAh hrl);have HZr:Hid ((xE (List.replicate 5 0)).size=(xE rs).size):=ι (by rw[xQ,xQ,hrl];rfl);have HK16:=ι h16;clear h16 hk;go_enter func258,ntmps258;go_upto_region 3 with fail
 refine wp_region_lit ?_;repeat go_step
 refine(HCL.o _).mono ?_;rintro e w5 ⟨rfl,hb⟩;simp only[]
 rename ∀(a:Act) (w:World),wpList _ _ _ _ a w->_=>hk
 refine hk _ _ ?_;clear hk;iterate 3 go_step
 refine wpList_store_row rfl _ _ _ rfl w5.heap.size (xE rs) rfl rfl _ (xE (List.replicate 5 0)) (xI _ _) HIr.o HZr.o (xR _) ?_
 have H6:Hid (zX ((w5.alloc (.cells (xE (List.replicate 5 0)) 377)).setRow w5.heap.size (xE rs)) w5.heap.size rs/\w.heap.size<=w5.heap.size/\ψ w ((w5.alloc (.cells (xE (List.replicate 5 0)) 377)).setRow w5.heap.size (xE rs))/\((w5.alloc (.cells (xE (List.replicate 5 0)) 377)).setRow w5.heap.size (xE rs)).heap.size=w5.heap.size+1):=ι ⟨setRow_heap _ _ _ _ _ _ (xI _ _),hb.size,below_setRow (hb.alloc hb.size _) hb.size _,by rw[setRow_size,uQ]⟩
 refine(λ(h:∀W3,Hid (zX W3 w5.heap.size rs/\w.heap.size<=w5.heap.size/\ψ w W3/\W3.heap.size=w5.heap.size+1)->wpList _ _ _ _ _ W3)=>h _ H6) ?_;clear H6 hb;generalize w5.heap.size=g;intro w6 h6;have hsz:=h6.o.2.2.2
 have H7:Hid (wH w g rs (xKr rs s 0) (w6.alloc (.cells (xE (List.replicate 5 0)) 377))):=ι ⟨xM h6.o.1 _,by have h:=xI w6 (.cells (xE (List.replicate 5 0)) 377);rw[hsz] at h;exact h,h6.o.2.1,h6.o.2.2.1.alloc h6.o.2.2.1.size _⟩;clear h6;go_wp2_with fail
 clear hsz;refine(λ(h:∀W3,Hid (wH w g rs (xKr rs s 0) W3)->Code.wp _ _ _ _ W3)=>h _ H7) ?_;clear H7;intro w7 h7;have HTS:Hid (∀k n,n=5->xKr rs s (k+1)=xXq (vG (xKr rs s k) (tY (s.extract (kJ s.size k) (kJ s.size k+xZ8 s.size k))) n) rs):=ι (λk n hn=>by rw[hn];rfl)
 have HTL:=ι (λk=>xWx rs s k);have HTU:=ι (λk=>tagI_u rs s k)
 go_loopw [1] (λtv W=>∃k:Nat,k<=(s.size+15) / 16/\tv=.string (s.extract (kJ s.size k) s.size)/\Hid (wH w g rs (xKr rs s k) W)) (λtv _=>lenOf tv)
 case atStart=>exact⟨0,ω,by simp[kJ],h7⟩
 case round=>
  clear h7
  rename World=>wk
  obtain⟨k,hk,rfl,hr⟩:=hrel;have hoff:=yB1 s.size k;have hts:(s.extract (kJ s.size k) s.size).size=s.size-kJ s.size k:=σ
  by_cases hlt:kJ s.size k<s.size
  ·have hz:xZ8 s.size k=16/\16<=s.size-kJ s.size k∨xZ8 s.size k=s.size-kJ s.size k/\s.size-kJ s.size k<16:=by unfold xZ8;split<;>omega
   have hoz:=xT8 s.size k;have HSK:=ι (HTS.o k);have HKB:Hid (k+1<=(s.size+15) / 16):=ι (by unfold kJ at hlt;split at hlt<;>omega);generalize kJ s.size k=o at hoff hts hlt hz hoz HSK⊢;generalize xZ8 s.size k=z at hz hoz HSK;obtain⟨m,hm⟩:∃m,s.size-o=m:=⟨_,rfl⟩;rw[hm] at hts hz
   have h1:(s.extract o s.size).extract 0 z=s.extract o (o+z):=by
    rw[ByteArray.extract_extract]
    congr 1
    omega
   have h2:(s.extract o s.size).extract z m=s.extract (o+z) s.size:=by
    rw[ByteArray.extract_extract]
    congr 1
    omega
   have hcz:(s.extract o (o+z)).size=z:=by simp;omega
   have hzm:Hid (min (16:Int) m=z):=ι ω;have hz16:z<=16:=ω;have hzm2:z<=m:=ω;have hm0:(0:Int)<m:=ω;have HNX:Hid (s.extract (kJ s.size (k+1)) s.size=s.extract (o+z) s.size):=ι (by rw[hoz])
   have HNS:Hid ((s.extract (o+z) s.size).size+z=m/\0<z):=ι (by rw[ByteArray.size_extract];omega);generalize s.extract (o+z) s.size=nx at h2 HNX HNS;generalize s.extract o (o+z)=ck at h1 hcz HSK;generalize s.extract o s.size=t at hts h1 h2⊢;clear hoff hlt hz hm
   go_upto_region 7 with fail
   rw[hzm.o];clear hzm;have HPD:=ι (λW=>xPp ck W ω);have HSP:=ι (λW=>rM (jZ ck) W (xT3 ck ω))
   have HB:Hid (#[Value.int .u64 (yT (jZ ck)).a,Value.int .u64 (yT (jZ ck)).b,Value.int .u64 (yT (jZ ck)).c,Value.int .u64 (yT (jZ ck)).d,Value.int .u64 (yT (jZ ck)).e]=xE (yT (jZ ck)).list):=ι rfl;rw[HB.o] at HSP;clear HB;have hbl:(yT (jZ ck)).list.length=5:=rfl
   obtain⟨e0,e1⟩:U64 (yT (jZ ck)).e:=(rO (jZ ck)).2.2.2.2;have HE4:Hid ((yT (jZ ck)).list.getD 4 0=(yT (jZ ck)).e):=ι rfl;have HBK:Hid (tY ck=if ck.size=16 then(yT (jZ ck)).list.set 4 (IntKind.u64.wrap ((yT (jZ ck)).e+16777216)) else(yT (jZ ck)).list):=ι rfl
   have hbu:=L5.all (rO (jZ ck));generalize (yT (jZ ck)).e=e4 at e0 e1 HE4 HBK;generalize (yT (jZ ck)).list=bs at HSP hbl HE4 HBK hbu;have HIb:Hid ((prog.info? 377).map (·.size)=some (xE bs).size):=ι (xAh hbl)
   have HZb:Hid ((xE (List.replicate 5 0)).size=(xE bs).size):=ι (by rw[xQ,xQ,hbl];rfl);refine wp_region_lit ?_;repeat go_step
   refine(HPD.o _).mono ?_;rintro e wp1 ⟨rfl,hb⟩;have hr1:=ι (hr.o.below hb);clear hr hb HPD;simp only[]
   rename ∀(a:Act) (w:World),wpList _ _ _ _ a w->_=>hkk
   refine hkk _ _ ?_;clear hkk;repeat go_step
   refine(HSP.o _).mono ?_;rintro e wp2 ⟨rfl,hb⟩;have hr2:=ι (hr1.o.below hb);clear hr1 hb HSP;simp only[]
   rename ∀(a:Act) (w:World),wpList _ _ _ _ a w->_=>hkk
   refine hkk _ _ ?_;clear hkk;iterate 3 go_step
   refine wpList_store_row rfl _ _ _ rfl wp2.heap.size (xE bs) rfl rfl _ (xE (List.replicate 5 0)) (xI _ _) HIb.o HZb.o (xR _) ?_;have hgl:=xJ hr2.o.bh;have hge:=hr2.o.ge
   have H8:Hid (wH w g rs (xKr rs s k) ((wp2.alloc (.cells (xE (List.replicate 5 0)) 377)).setRow wp2.heap.size (xE bs))/\zX ((wp2.alloc (.cells (xE (List.replicate 5 0)) 377)).setRow wp2.heap.size (xE bs)) wp2.heap.size bs/\g+1<wp2.heap.size):=ι ⟨⟨by unfold zX;rw[setRow_other _ _ _ _ ω];exact xM hr2.o.br _,by unfold zX;rw[setRow_other _ _ _ _ ω];exact xM hr2.o.bh _,hge,below_setRow (hr2.o.bel.alloc hr2.o.bel.size _) ω _⟩,setRow_heap _ _ _ _ _ _ (xI _ _),hgl⟩
   refine(λ(h:∀W3,Hid (wH w g rs (xKr rs s k) W3/\zX W3 wp2.heap.size bs/\g+1<wp2.heap.size)->wpList _ _ _ _ _ W3)=>h _ H8) ?_;clear H8 hgl hge hr2 HIb HZb;generalize wp2.heap.size=g2;intro w8 h8;have h0l:=HTL.o k;have h0u:=HTU.o k;generalize xKr rs s k=hs0 at h8 HSK h0l h0u
   have q4:=h8.o.2.1.cell (i:=4) ω;have y4:=h8.o.2.1.free 4;rw[HE4.o] at q4
   by_cases h16:z=16
   ·have H9:Hid (wH w g rs hs0 (w8.setCell ⟨g2,4,none⟩ (.int .u64 (IntKind.u64.wrap (e4+16777216))))/\zX (w8.setCell ⟨g2,4,none⟩ (.int .u64 (IntKind.u64.wrap (e4+16777216)))) g2 (tY ck)/\g+1<g2):=ι (by
     obtain⟨t1,t2,t3⟩:=h8.o;have t4:=t1.ge;refine⟨⟨t1.br.far (p:=⟨g2,4,none⟩) (by simp only[];omega) _,t1.bh.far (p:=⟨g2,4,none⟩) (by simp only[];omega) _,t4,t1.bel.setCell (p:=⟨g2,4,none⟩) (by simp only[];omega) _⟩,?_,t3⟩;rw[HBK.o,if_pos ω];exact t2.put 4 _)
    have hzi:(z:Int)=16:=ω;clear HBK HE4;clear h8;go_upto_region 10 with fail
    refine(λ(h:∀W3,Hid (wH w g rs hs0 W3/\zX W3 g2 (tY ck)/\g+1<g2)->Code.wp _ _ _ _ W3)=>h _ H9) ?_;clear H9;intro w9 h9;have hbkl:=xH4 ck;have hbku:=xOk ck;generalize tY ck=bk at HSK h9 hbkl hbku;have HA0:Hid (wH w g rs (vG hs0 bk 0) w9/\zX w9 g2 bk/\g+1<g2):=ι h9.o
    have HAS:Hid (∀i,vG hs0 bk (i+1)=(vG hs0 bk i).set i (IntKind.u64.wrap ((vG hs0 bk i).getD i 0+bk.getD i 0))):=ι (λi=>rfl);have HAL:Hid (∀i,(vG hs0 bk i).length=5):=ι (λi=>by rw[xDz,h0l]);have HAU:=ι (λi=>xOs bk h0u i);have HBU:=ι hbku;clear h9;go_wp2_with fail
    go_loopw [34] (λiv W=>∃i:Nat,i<=5/\iv=.int .i64 i/\Hid (wH w g rs (vG hs0 bk i) W/\zX W g2 bk/\g+1<g2)) (λiv _=>5- (intOf iv).toNat)
    case atStart=>exact⟨0,δ,rfl,HA0⟩
    case round=>
     clear HA0
     rename World=>wi
     obtain⟨i,hi,rfl,hri⟩:=hrel
     by_cases hlt:i<5
     ·have HS1:=ι (HAS.o i);have hol:=HAL.o i;have hou:=HAU.o i i;have hbi:=HBU.o i;generalize vG hs0 bk i=l at hri HS1 hol hou;obtain⟨x,hx⟩:∃x,l.getD i 0=x:=⟨_,rfl⟩;obtain⟨y,hy⟩:∃y,bk.getD i 0=y:=⟨_,rfl⟩;rw[hx] at HS1 hou;rw[hy] at HS1 hbi;obtain⟨x0,x1⟩:=hou
      obtain⟨y0,y1⟩:=hbi
      have HQ:Hid (∀W,Hid (wH w g rs l W/\zX W g2 bk/\g+1<g2)->W.cell? ⟨g+1,i,none⟩=some (.int .u64 x)/\W.cell? ⟨g2,i,none⟩=some (.int .u64 y)/\W.frozen? ⟨g+1,i,none⟩=false):=ι (λW h=>by
       refine⟨?_,?_,h.o.1.bh.free i⟩
       ·rw[h.o.1.bh.cell (i:=i) ω,hx]
       ·rw[h.o.2.1.cell (i:=i) ω,hy])
      have HPT:Hid (∀W,Hid (wH w g rs l W/\zX W g2 bk/\g+1<g2)->Hid (wH w g rs (vG hs0 bk (i+1)) (W.setCell ⟨g+1,i,none⟩ (.int .u64 (IntKind.u64.wrap (x+y))))/\zX (W.setCell ⟨g+1,i,none⟩ (.int .u64 (IntKind.u64.wrap (x+y)))) g2 bk/\g+1<g2)):=ι (λW h=>ι (by
       refine⟨by rw[HS1.o];exact h.o.1.put i _,h.o.2.1.far (p:=⟨g+1,i,none⟩) (by have:=h.o.2.2;simp only[];omega) _,h.o.2.2⟩))
      have hii:(i:Int)<5:=ω;have HBI:Hid (i<bk.length):=ι ω;have HY:=ι hy;clear hx hy hol;obtain⟨l1,hl1⟩:∃x,vG hs0 bk (i+1)=x:=⟨_,rfl⟩;rw[hl1] at HPT;have HL1:=ι hl1;clear hl1 HS1;go_upto_region 13 with fail
      refine RG.yM 9 (λL W=>Hid (wH w g rs (if L 8 then l1 else l) W/\zX W g2 bk/\g+1<g2)) (λL L' W h hI=>by rw[<-h 8 δ];exact hI) κ κ rfl (ι ⟨⟨hri.o.1.br,hri.o.1.bh,hri.o.1.ge,hri.o.1.bel.drew⟩,hri.o.2⟩) ?_;iterate 2 refine RG.cS ?_
      apply RG.xN
      ·rfl
      ·rfl
      ·intro L w9 h0 hcl xP hw9;have e1:=hcl.not 6 (i:=8) h0 κ;have hs9:=hw9;rw[e1,if_neg σ] at hs9;have q:=(HQ.o w9 hs9).1;clear e1 hs9;repeat go_step
       refine RG.xB ?_;exact⟨xP,hw9⟩
      ·rfl
      iterate 2 refine RG.cS ?_
      apply RG.xN
      ·rfl
      ·rfl
      ·intro L w9 h0 hcl xP hw9;have q:w9.cell? ⟨g2,i,none⟩=some (.int .u64 y):=by rw[hw9.o.2.1.cell (i:=i) HBI.o,HY.o]
       repeat go_step
       refine RG.xB ?_;exact⟨xP,hw9⟩
      ·rfl
      iterate 2 refine RG.cS ?_
      apply RG.xN
      ·rfl
      ·rfl
      ·intro L w9 h0 hcl xP hw9;have hs9:=hw9;rw[h0,if_neg σ] at hs9;obtain⟨q1,q2,q3⟩:=HQ.o w9 hs9;have hp:=HPT.o w9 hs9;repeat go_step
       refine RG.xB ?_;refine⟨xP,?_⟩;show Hid (wH w g rs (if (true:Bool)=true then l1 else l) _/\zX _ g2 bk/\g+1<g2);rw[if_pos rfl];with_reducible exact hp
      ·rfl
      refine RG.xY (λw9 hw9=>?_);go_wp2;exact⟨⟨i+1,ω,by go_num,by rw[HL1.o];exact hw9⟩,by simp[intOf];omega⟩
     ·have hie:i=5:=ω;have hneg:¬((i:Int)<5):=ω;have HSi:=ι (HSK.o i hie);have hol:=HAL.o i;have hou:yE (vG hs0 bk i):=HAU.o i;generalize vG hs0 bk i=l at hri HSi hol hou;have HIl:Hid ((prog.info? 377).map (·.size)=some (xE l).size):=ι (xAh hol)
      have HML:=ι (λW=>xTd l rs W hol hou hrl hru);obtain⟨l2,hl2⟩:∃x,xXq l rs=x:=⟨_,rfl⟩;have xZk:l2.length=5:=hl2▸xHz l rs;rw[hl2] at HML HSi;have HI2:Hid ((prog.info? 377).map (·.size)=some (xE l2).size):=ι (xAh xZk)
      have HZ2:Hid ((xE l).size=(xE l2).size):=ι (by rw[xQ,xQ,hol,xZk]);clear hl2 hol hou HSK HAS HAL HAU HBU hie hi hlt;go_upto_region 15 with fail
      refine wp_region_lit ?_;refine wpList_load_row rfl _ _ rfl (g+1) rfl _ (xE l) (0,0) _ hri.o.1.bh underlying377 rfl HIl.o ?_;refine wpList_load_row rfl _ _ rfl g rfl _ (xE rs) (0,0) _ hri.o.1.br underlying377 rfl HIr.o ?_;repeat go_step
      refine(HML.o _).mono ?_;rintro e wm ⟨rfl,hb⟩;have hm:=ι (hri.o.1.below hb);clear hri hb HML;simp only[]
      rename ∀(a:Act) (w:World),wpList _ _ _ _ a w->_=>hkk
      refine hkk _ _ ?_;clear hkk;refine wpList_store_row rfl _ _ _ rfl (g+1) (xE l2) rfl rfl _ _ hm.o.bh HI2.o HZ2.o (xR _) ?_
      have hm2:Hid (wH w g rs l2 (wm.setRow (g+1) (xE l2))):=ι ⟨by unfold zX;rw[setRow_other _ _ _ _ ω];exact hm.o.br,setRow_heap _ _ _ _ _ _ hm.o.bh,hm.o.ge,below_setRow hm.o.bel (by have:=hm.o.ge;omega) _⟩
      refine(λ(h:∀W3,Hid (wH w g rs l2 W3)->wpList _ _ _ _ _ W3)=>h _ hm2) ?_;clear hm hm2;intro wn hwn;go_wp2;refine⟨⟨k+1,HKB.o,by first|(rw[HNX.o];done)|rw[HNX.o,<-h2,h16],by rw[HSi.o];exact hwn⟩,?_⟩;have hns:=HNS.o;simp[lenOf];omega
   ·have H9:Hid (wH w g rs hs0 w8/\zX w8 g2 (tY ck)/\g+1<g2):=ι (by
     rw[HBK.o,if_neg ω];exact h8.o)
    have hzi:¬((z:Int)=16):=ω;clear HBK HE4;clear h8;go_upto_region 10 with fail
    refine(λ(h:∀W3,Hid (wH w g rs hs0 W3/\zX W3 g2 (tY ck)/\g+1<g2)->Code.wp _ _ _ _ W3)=>h _ H9) ?_;clear H9;intro w9 h9;have hbkl:=xH4 ck;have hbku:=xOk ck;generalize tY ck=bk at HSK h9 hbkl hbku;have HA0:Hid (wH w g rs (vG hs0 bk 0) w9/\zX w9 g2 bk/\g+1<g2):=ι h9.o
    have HAS:Hid (∀i,vG hs0 bk (i+1)=(vG hs0 bk i).set i (IntKind.u64.wrap ((vG hs0 bk i).getD i 0+bk.getD i 0))):=ι (λi=>rfl);have HAL:Hid (∀i,(vG hs0 bk i).length=5):=ι (λi=>by rw[xDz,h0l]);have HAU:=ι (λi=>xOs bk h0u i);have HBU:=ι hbku;clear h9;go_wp2_with fail
    go_loopw [34] (λiv W=>∃i:Nat,i<=5/\iv=.int .i64 i/\Hid (wH w g rs (vG hs0 bk i) W/\zX W g2 bk/\g+1<g2)) (λiv _=>5- (intOf iv).toNat)
    case atStart=>exact⟨0,δ,rfl,HA0⟩
    case round=>
     clear HA0
     rename World=>wi
     obtain⟨i,hi,rfl,hri⟩:=hrel
     by_cases hlt:i<5
     ·have HS1:=ι (HAS.o i);have hol:=HAL.o i;have hou:=HAU.o i i;have hbi:=HBU.o i;generalize vG hs0 bk i=l at hri HS1 hol hou;obtain⟨x,hx⟩:∃x,l.getD i 0=x:=⟨_,rfl⟩;obtain⟨y,hy⟩:∃y,bk.getD i 0=y:=⟨_,rfl⟩;rw[hx] at HS1 hou;rw[hy] at HS1 hbi;obtain⟨x0,x1⟩:=hou
      obtain⟨y0,y1⟩:=hbi
      have HQ:Hid (∀W,Hid (wH w g rs l W/\zX W g2 bk/\g+1<g2)->W.cell? ⟨g+1,i,none⟩=some (.int .u64 x)/\W.cell? ⟨g2,i,none⟩=some (.int .u64 y)/\W.frozen? ⟨g+1,i,none⟩=false):=ι (λW h=>by
       refine⟨?_,?_,h.o.1.bh.free i⟩
       ·rw[h.o.1.bh.cell (i:=i) ω,hx]
       ·rw[h.o.2.1.cell (i:=i) ω,hy])
      have HPT:Hid (∀W,Hid (wH w g rs l W/\zX W g2 bk/\g+1<g2)->Hid (wH w g rs (vG hs0 bk (i+1)) (W.setCell ⟨g+1,i,none⟩ (.int .u64 (IntKind.u64.wrap (x+y))))/\zX (W.setCell ⟨g+1,i,none⟩ (.int .u64 (IntKind.u64.wrap (x+y)))) g2 bk/\g+1<g2)):=ι (λW h=>ι (by
       refine⟨by rw[HS1.o];exact h.o.1.put i _,h.o.2.1.far (p:=⟨g+1,i,none⟩) (by have:=h.o.2.2;simp only[];omega) _,h.o.2.2⟩))
      have hii:(i:Int)<5:=ω;have HBI:Hid (i<bk.length):=ι ω;have HY:=ι hy;clear hx hy hol;obtain⟨l1,hl1⟩:∃x,vG hs0 bk (i+1)=x:=⟨_,rfl⟩;rw[hl1] at HPT;have HL1:=ι hl1;clear hl1 HS1;go_upto_region 13 with fail
      refine RG.yM 9 (λL W=>Hid (wH w g rs (if L 8 then l1 else l) W/\zX W g2 bk/\g+1<g2)) (λL L' W h hI=>by rw[<-h 8 δ];exact hI) κ κ rfl (ι ⟨⟨hri.o.1.br,hri.o.1.bh,hri.o.1.ge,hri.o.1.bel.drew⟩,hri.o.2⟩) ?_;iterate 2 refine RG.cS ?_
      apply RG.xN
      ·rfl
      ·rfl
      ·intro L w9 h0 hcl xP hw9;have e1:=hcl.not 6 (i:=8) h0 κ;have hs9:=hw9;rw[e1,if_neg σ] at hs9;have q:=(HQ.o w9 hs9).1;clear e1 hs9;repeat go_step
       refine RG.xB ?_;exact⟨xP,hw9⟩
      ·rfl
      iterate 2 refine RG.cS ?_
      apply RG.xN
      ·rfl
      ·rfl
      ·intro L w9 h0 hcl xP hw9;have q:w9.cell? ⟨g2,i,none⟩=some (.int .u64 y):=by rw[hw9.o.2.1.cell (i:=i) HBI.o,HY.o]
       repeat go_step
       refine RG.xB ?_;exact⟨xP,hw9⟩
      ·rfl
      iterate 2 refine RG.cS ?_
      apply RG.xN
      ·rfl
      ·rfl
      ·intro L w9 h0 hcl xP hw9;have hs9:=hw9;rw[h0,if_neg σ] at hs9;obtain⟨q1,q2,q3⟩:=HQ.o w9 hs9;have hp:=HPT.o w9 hs9;repeat go_step
       refine RG.xB ?_;refine⟨xP,?_⟩;show Hid (wH w g rs (if (true:Bool)=true then l1 else l) _/\zX _ g2 bk/\g+1<g2);rw[if_pos rfl];with_reducible exact hp
      ·rfl
      refine RG.xY (λw9 hw9=>?_);go_wp2;exact⟨⟨i+1,ω,by go_num,by rw[HL1.o];exact hw9⟩,by simp[intOf];omega⟩
     ·have hie:i=5:=ω;have hneg:¬((i:Int)<5):=ω;have HSi:=ι (HSK.o i hie);have hol:=HAL.o i;have hou:yE (vG hs0 bk i):=HAU.o i;generalize vG hs0 bk i=l at hri HSi hol hou;have HIl:Hid ((prog.info? 377).map (·.size)=some (xE l).size):=ι (xAh hol)
      have HML:=ι (λW=>xTd l rs W hol hou hrl hru);obtain⟨l2,hl2⟩:∃x,xXq l rs=x:=⟨_,rfl⟩;have xZk:l2.length=5:=hl2▸xHz l rs;rw[hl2] at HML HSi;have HI2:Hid ((prog.info? 377).map (·.size)=some (xE l2).size):=ι (xAh xZk)
      have HZ2:Hid ((xE l).size=(xE l2).size):=ι (by rw[xQ,xQ,hol,xZk]);clear hl2 hol hou HSK HAS HAL HAU HBU hie hi hlt;go_upto_region 15 with fail
      refine wp_region_lit ?_;refine wpList_load_row rfl _ _ rfl (g+1) rfl _ (xE l) (0,0) _ hri.o.1.bh underlying377 rfl HIl.o ?_;refine wpList_load_row rfl _ _ rfl g rfl _ (xE rs) (0,0) _ hri.o.1.br underlying377 rfl HIr.o ?_;repeat go_step
      refine(HML.o _).mono ?_;rintro e wm ⟨rfl,hb⟩;have hm:=ι (hri.o.1.below hb);clear hri hb HML;simp only[]
      rename ∀(a:Act) (w:World),wpList _ _ _ _ a w->_=>hkk
      refine hkk _ _ ?_;clear hkk;refine wpList_store_row rfl _ _ _ rfl (g+1) (xE l2) rfl rfl _ _ hm.o.bh HI2.o HZ2.o (xR _) ?_
      have hm2:Hid (wH w g rs l2 (wm.setRow (g+1) (xE l2))):=ι ⟨by unfold zX;rw[setRow_other _ _ _ _ ω];exact hm.o.br,setRow_heap _ _ _ _ _ _ hm.o.bh,hm.o.ge,below_setRow hm.o.bel (by have:=hm.o.ge;omega) _⟩
      refine(λ(h:∀W3,Hid (wH w g rs l2 W3)->wpList _ _ _ _ _ W3)=>h _ hm2) ?_;clear hm hm2;intro wn hwn;go_wp2;refine⟨⟨k+1,HKB.o,by first|(rw[HNX.o];done)|rw[HNX.o,<-h2,h16],by rw[HSi.o];exact hwn⟩,?_⟩;have hns:=HNS.o;simp[lenOf];omega
  ·have hke:k=(s.size+15) / 16:=by unfold kJ at hlt hoff;split at hlt<;>split at hoff<;>omega
   have HF:=ι (HP.o k hke);have hol:=HTL.o k;have hou:=HTU.o k;have h0:s.size-kJ s.size k=0:=ω;rw[h0] at hts;generalize s.extract (kJ s.size k) s.size=t at hts⊢;generalize xKr rs s k=l at hr HF hol hou
   have HIl:Hid ((prog.info? 377).map (·.size)=some (xE l).size):=ι (xAh hol);have HLE:=ι (λW=>xTp l W hol hou);have xZk:(tN l).length=5:=by rw[xQ0,hol]
   have hl2u:=xXt hou;have hk2:(key.extract 16 32).size=16:=by simp;omega
   have hk3:key.extract 16 32=key.extract 16 key.size:=by
    congr 1
    omega
   rw[hk3] at hk2 HF;have HFI:=ι (λW=>xMe (tN l) (key.extract 16 key.size) W xZk hl2u hk2);generalize tN l=l2 at HLE HFI HF;clear HP HTS HTL HTU HCL hke hk hoff hlt h0 hol hou xZk hl2u hk2 hk3;go_upto_region 17 with fail
   refine RG.xH (λW=>Hid (wH w g rs l W)) κ κ (ι ⟨hr.o.br,hr.o.bh,hr.o.ge,hr.o.bel.drew⟩) ?_;apply RG.xG
   ·intro w9 hw9;refine wpList_load_row rfl _ _ rfl (g+1) rfl _ (xE l) (0,0) _ hw9.o.bh underlying377 rfl HIl.o ?_;repeat go_step
    exact RG.xB hw9
   ·rfl
   apply RG.xG
   ·intro w9 hw9;repeat go_step
    refine(HLE.o _).mono ?_;rintro e w10 ⟨rfl,yP⟩;simp only[];repeat go_step
    refine RG.xB ?_;exact ι (hw9.o.below yP)
   ·rfl
   iterate 2 refine RG.dS ?_
   apply RG.xG
   ·intro w9 hw9;repeat go_step
    refine(HFI.o _).mono ?_;rintro e w10 ⟨rfl,yP⟩;simp only[];repeat go_step
    refine RG.xB ?_;exact ι (hw9.o.below yP)
   ·rfl
   iterate 2 refine RG.dS ?_
   refine RG.xL (λw9 hw9=>?_);go_wp2;go_ret2;rw[HF.o];exact⟨rfl,hw9.o.bel⟩
end Go.Proofs.SH
namespace Mailsack
def xZd (n:Nat):Nat:=(16-n % 16) % 16
def qG (l:Bs):Bs:=l++xO (xZd l.length)
def vC (n:Int) (c:Nat):Bs:=(List.range c).map λi=>oct (Go.IntKind.u64.wrap n / 2^(8*i))
theorem xPb (n:Int) (c:Nat):vC n (c+1)=vC n c++[oct (Go.IntKind.u64.wrap n / 2^(8*c))]:=by
 unfold vC;rw[List.range_succ,List.map_append];rfl
theorem xBk (n:Int) (c:Nat):(vC n c).length=c:=by unfold vC;simp
end Mailsack
namespace Go.Proofs.SH
open Go.RowKit Mailsack MM BB
structure xIv (w:World) (v:Value) (w':World) (v':Value):Prop where
 grown:w.grownBy w' v.ownBlock
 own:∀k,v'.ownBlock=some k->v.ownBlock=some k∨w.heap.size<=k
theorem xIv.refl (w:World) (v:Value):xIv w v w v:=⟨⟨rfl,rfl,rfl,Nat.le_refl _,λ_ _ _=>rfl⟩,λ_ h=>.inl h⟩
theorem xIv.trans {w w1 w2:World} {v v1 v2:Value} (h:xIv w v w1 v1) (k:xIv w1 v1 w2 v2):xIv w v w2 v2:=by
 refine⟨⟨k.grown.os.trans h.grown.os,k.grown.tape.trans h.grown.tape,k.grown.output.trans h.grown.output,Nat.le_trans h.grown.size k.grown.size,λb hb hne=>?_⟩,λb hb=>?_⟩
 ·refine(k.grown.block b (Nat.lt_of_lt_of_le hb h.grown.size) (λe=>?_)).trans (h.grown.block b hb hne);rcases h.own b e.symm with h1|h1
  ·exact hne h1.symm
  ·omega
 ·rcases k.own b hb with h1|h1
  ·exact h.own b h1
  ·exact .inr (Nat.le_trans h.grown.size h1)
theorem xIv.push {w w1:World} {v:Value} {o:Obj} {g n cap:Nat} (hg:(w.alloc o).grownBy w1 v.ownBlock) (hl:v.ownBlock=some g∨g=w.heap.size+1):xIv w v w1 (.slice (some ⟨g,0,none⟩) n cap):=by
 refine⟨⟨hg.os,hg.tape,hg.output,Nat.le_trans σ hg.size,λb hb hne=>?_⟩,λb hb=>?_⟩
 ·exact(hg.block b (by simp;omega) hne).trans (Below.heap_alloc w o b hb)
 ·have hb':g=b:=by simpa[Value.ownBlock] using hb
  subst hb';rcases hl with h|h
  ·exact .inl h
  ·exact .inr ω
theorem xIv.below {w w':World} {v v':Value} (h:xIv w v w' v') {base:Nat} {l:Bs} (ho:zT w base v l) (hb:base<=w.heap.size):Below base w w':=
 ⟨h.grown.os,h.grown.tape,h.grown.output,h.grown.size,λk hk=>h.grown.block k ω (λe=>by
  have:=(World.ownsRow.lt ho k e.symm).1;omega)⟩
theorem one_y (z:Int):∀v∈[Value.int .u8 z],v.oneCell'=true:=by simp[Value.oneCell']
theorem xN6 (n:Int) (v:Value) (l:Bs) (w:World) (base:Nat) (ho:zT w base v l) (hb:base<=w.heap.size) (hl:l.length<4294967281):
  Calls prog 257 #[v,.int .i64 n] w λe w'=>∃v',e=.returned v'/\zT w' base v' (l++vC n 8)/\xIv w v w' v':=by
 obtain⟨i0,hi,hz0,hz1,hz2⟩:=kP xQ8;have HO:=ι ho;have HU:=wrap_u64 n;have HSE:Hid (∀c,c=8->l++vC n c=l++vC n 8):=ι (λc hc=>by rw[hc]);have HS0:Hid (l++vC n 0=l):=ι (by simp[vC]);have HSS:=ι (λc=>xPb n c);generalize hres:l++vC n 8=res at HSE⊢;clear ho hres
 go_enter func257,ntmps257;go_wp2_with fail
 go_loopw [0,6] (λlv iv wr=>∃k:Nat,k<=8/\iv=.int .i64 k/\Hid (zT wr base lv (l++vC n k))/\Hid (xIv w v wr lv)) (λ_ iv _=>8- (intOf iv).toNat)
 case atStart=>exact⟨0,Nat.zero_le _,rfl,ι (by rw[HS0.o];exact HO.o),ι (xIv.refl _ _)⟩
 case round=>
  obtain⟨k,hk,rfl,hown,xU9⟩:=hrel
  by_cases hlt:k<8
  ·have HL0:=(show(l++vC n k).length=l.length+k by rw[List.length_append,xBk]);have HLe:Hid (l++vC n (k+1)=(l++vC n k)++[oct (IntKind.u64.wrap n / 2^(8*k))]):=ι (by rw[HSS.o,List.append_assoc]);obtain⟨L1,hL1⟩:∃L,l++vC n (k+1)=L:=⟨_,rfl⟩;rw[hL1] at HLe;have HL1:=ι hL1;clear hL1
   generalize l++vC n k=L at hown HL0 HLe;have HL:=ι HL0;have HK:=ι hlt;obtain⟨u,hu⟩:∃u,IntKind.u64.wrap n=u:=⟨_,rfl⟩;obtain⟨u0,u1⟩:=hu▸HU;rw[hu] at HLe;clear HL0
   go_wp2_with (at_builtin;refine wpList_append_lies _ rfl _ _ 125 rfl base 5 i0 (.int .u8 0) 1 1 underlying125 hi hz0 hz1 hz2 rfl δ _ _ _ rfl (hown.o.alloc _) ⟨wr.heap.size,0,none⟩ 1 1 [.int .u8 (u / 2^(8*k) % 256)] rfl rfl (cell_one_new _ _ _) (one_y _) δ (by have:=HL.o;have:=HK.o;unfold maxLen;omega) (by have:=HL.o;have:=HK.o;omega) (by have:=xU9.o.grown.size;simp;omega) (wr.heap.size+1) σ ?_;intro g cap w1 hown1 hgrow hat hlt1)
   have he2:=xU9.o.trans (xIv.push (n:=L.length+1) (cap:=cap) hgrow hat);have ho2:=ι hown1;clear hown1 hgrow hat
   go_roundw
   case rel=>exact⟨k+1,ω,by go_num,ι (by
    rw[HL1.o,HLe.o];refine zT.of ?_;simp only[List.map_cons,List.map_nil,xAy];exact ho2.o),ι he2⟩
   case measure=>simp[intOf];omega
  ·have hke:k=8:=ω;have h8:=HSE.o k hke;rw[h8] at hown;have hneg:¬((k:Int)<8):=ω;clear h8 HSE HSS HS0;go_wp2;go_ret;exact⟨_,rfl,hown.o,xU9.o⟩
theorem xKi (v:Value) (l:Bs) (w:World) (base:Nat) (ho:zT w base v l) (hb:base<=w.heap.size) (hl:l.length<4294967281):
  Calls prog 256 #[v] w λe w'=>∃v',e=.returned v'/\zT w' base v' (qG l)/\xIv w v w' v':=by
 obtain⟨i0,hi,hz0,hz1,hz2⟩:=kP xQ8;obtain⟨A0,c0,rfl,hc0⟩:=ho.form;have HO:=ι ho;have HPN:Hid (xZd l.length<16/\(l.length+xZd l.length) % 16=0):=ι (by unfold xZd;omega);have HSE:Hid (∀k,k=xZd l.length->l++xO k=qG l):=ι (λk hk=>by rw[hk];rfl)
 have HS0:Hid (l++xO 0=l):=ι (by simp[xO]);have HSS:Hid (∀k,l++xO (k+1)=(l++xO k)++[0]):=ι (λk=>by rw[List.append_assoc];congr 1;unfold xO;rw[List.replicate_succ']);generalize qG l=res at HSE⊢;generalize xZd l.length=pn at HPN HSE;clear ho;go_enter func256,ntmps256
 go_wp2_with fail
 go_loopw [0] (λlv wr=>∃(k:Nat) (A:Option Addr) (c:Nat),k<=pn/\lv=.slice A (l.length+k) c/\Hid (zT wr base lv (l++xO k))/\Hid (xIv w (.slice A0 l.length c0) wr lv)) (λlv _=>match lv with|.slice _ m _=>l.length+pn-m|_=>0)
 case atStart=>exact⟨0,A0,c0,Nat.zero_le _,rfl,ι (by rw[HS0.o];exact HO.o),ι (xIv.refl _ _)⟩
 case round=>
  obtain⟨k,A,c,hk,rfl,hown,xU9⟩:=hrel;obtain⟨p1,p2⟩:=HPN.o
  by_cases hlt:k<pn
  ·have hm:((l.length+k:Nat):Int) % 16≠0:=ω;have hmb:((((l.length+k:Nat):Int) % 16)!=0)=true:=by simp;omega
   have HL0:(l++xO k).length=l.length+k:=by rw[List.length_append,yS]
   have HROW:Hid (wr.ownsRow base 5 1 (.slice A (l.length+k) c) (l.length+k) ((l++xO k).map λc=>Value.int .u8 (c.toNat:Int))):=ι (by have h:=hown.o.row;rwa [HL0] at h);have HSk:=ι (HSS.o k);obtain⟨L1,hL1⟩:∃L,l++xO (k+1)=L:=⟨_,rfl⟩;rw[hL1] at HSk;have HL1:=ι hL1;clear hL1 hown
   generalize l++xO k=L at HROW HSk HL0;have HL:=ι HL0;have HK:=ι hlt;have HP1:=ι p1;have HLL:=ι hl;clear HL0 p1 p2 hlt hk
   go_wp2_with (at_builtin;refine wpList_append_lies _ rfl _ _ 125 rfl base 5 i0 (.int .u8 0) 1 1 underlying125 hi hz0 hz1 hz2 rfl δ _ _ _ rfl (HROW.o.alloc _) ⟨wr.heap.size,0,none⟩ 1 1 [.int .u8 0] rfl rfl (cell_one_new _ _ _) (one_y _) δ (by have:=HLL.o;have:=HK.o;have:=HP1.o;unfold maxLen;omega) (by have:=HLL.o;have:=HK.o;have:=HP1.o;omega) (by have:=xU9.o.grown.size;simp;omega) (wr.heap.size+1) σ ?_;intro g cap w1 hown1 hgrow hat hlt1)
   have he2:=xU9.o.trans (xIv.push (n:=l.length+k+1) (cap:=cap) hgrow hat);have ho2:=ι hown1;clear hown1 hgrow hat
   go_roundw
   case rel=>exact⟨k+1,_,cap,by have:=HK.o;omega,rfl,ι (by
    rw[HL1.o,HSk.o];refine zT.of ?_;rw[HL.o];exact ho2.o),ι he2⟩
   case measure=>show l.length+pn- (l.length+k+1)<l.length+pn- (l.length+k);have:=HK.o;omega
  ·have hke:k=pn:=ω;have hm:((l.length+k:Nat):Int) % 16=0:=ω;have hmb:((((l.length+k:Nat):Int) % 16)!=0)=false:=by simp;omega
   have h8:=HSE.o k hke;rw[h8] at hown;clear h8 HSE HSS HS0 p1 p2;go_wp2;go_ret;exact⟨_,rfl,hown.o,xU9.o⟩
end Go.Proofs.SH
namespace Mailsack
def xR0 (ad text:ByteArray):Bs:=qG (qG ad.data.toList++text.data.toList)++vC ad.size 8++vC text.size 8
def xDf (key xS ad text:ByteArray):ByteArray:=tagP ((bsA (xCm key xS 0)).extract 0 32) (bsA (xR0 ad text))
theorem xH5 (key xS ad text:ByteArray):(xDf key xS ad text).size=16:=xSb _ _
theorem yAx (n:Nat):xZd n<16:=by unfold xZd;omega
theorem xCh (l:Bs):(qG l).length<=l.length+16:=by
 unfold qG;rw[List.length_append,yS];have:=yAx l.length;omega
theorem xYx (ad text:ByteArray):(xR0 ad text).length<=ad.size+text.size+64:=by
 unfold xR0;have h1:=xCh ad.data.toList;have h2:=xCh (qG ad.data.toList++text.data.toList);have h3:ad.data.toList.length=ad.size:=σ;have h4:text.data.toList.length=text.size:=σ;rw[List.length_append] at h2;rw[List.length_append,List.length_append,xBk,xBk];omega
end Mailsack
namespace Go.Proofs.SH
open Go.RowKit Mailsack MM BB
theorem xE4 {P:Program} {w:World} {ops:Array Oper} {rest:List Oper} {o:Oper} {a:Act} {Q:Exit->Act->World->Prop} (hgd:o.guard=none) (sl x:Operand) (t u:TypeId)
  (ho:o.op=.call {callee:=.builtin .append,args:=#[sl,x],argTypes:=#[t,u]})
  (base:Nat) (e:TypeId) (i:TypeInfo) (ht:P.underlying t=some (.slice e)) (hu:P.underlying u=some .string) (hi:P.info? e=some i) (hz:i.zero=some (.int .u8 0))
  (hsize:i.size=1) (hby:i.bytes=1)
  (v:Value) (n:Nat) (xs:List Value) (hs:a.eval sl=v) (hown:w.ownsRow base e 1 v n xs) (s:ByteArray) (hx:a.eval x=.string s)
  (h63:n+s.size<=maxLen) (hbytes:n+s.size<=140737488355328) (hbase:base<=w.heap.size)
  (h:∀v' w',w'.ownsRow base e 1 v' (n+s.size) (xs++Lib.strCells s)->w.grownBy w' v.ownBlock->wpList P ops Q rest (a.put o.dst v') w'):wpList P ops Q (o::rest) a w:=by
 refine wpList_plain hgd λK hK=>?_;obtain⟨v',w',hr,h2,h3,_⟩:=Lib.run_append_own_string (P:=P) w base t u o.type e i ht hu hi hz hsize hby v n xs hown s h63 hbytes hbase;unfold Oper.wp execOp
 simp only[ho,resolve,invoke,builtin,Sem.run_bind,Sem.run_pure,Result.andThen_ok,List.map_toArray,List.map_cons,List.map_nil,hs,hx,hr];exact hK _ _ (h v' w' h2 h3)
theorem xZ6 (key xS ad text:ByteArray) (w:World) (hk:key.size=32) (hn:xS.size=12) (ha:ad.size<=1000000000) (ht:text.size<=1000000000):
  Calls prog 164 #[.string key,.string xS,.string ad,.string text] w λe w'=>e=.returned (.tuple #[.string (xDf key xS ad text),.bool true])/\ψ w w':=by
 obtain⟨i0,hi,hz0,hz1,hz2⟩:=kP xQ8;have HC:=ι (xMs key xS 0 w hk hn ⟨δ,δ⟩);have hsz:(bsA (xCm key xS 0)).size=64:=by rw[uS];exact xB4 _
 have HT:Hid (∀W,Calls prog 258 #[.string ((bsA (xCm key xS 0)).extract 0 32),.string (bsA (xR0 ad text))] W λe w'=>e=.returned (.tuple #[.string (xDf key xS ad text),.bool true])/\ψ W w'):=ι (λW=>yAh _ _ W (by rw[ByteArray.size_extract,hsz];rfl) (by rw[uS];have:=xYx ad text;omega))
 generalize bsA (xCm key xS 0)=ks at HC HT hsz;have hD:Hid (xR0 ad text=qG (qG ad.data.toList++text.data.toList)++vC ad.size 8++vC text.size 8):=ι rfl;have hL1:=xCh ad.data.toList;have hL2:=xCh (qG ad.data.toList++text.data.toList);have hal:ad.data.toList.length=ad.size:=σ
 have htl:text.data.toList.length=text.size:=σ;rw[List.length_append] at hL2;have HMK:=ι (λW:World=>made W 0 (ad.size+text.size+48) ω ω)
 have HLS:Hid (ad.size<=1000000000/\text.size<=1000000000/\(qG ad.data.toList).length<=2000000000/\(qG (qG ad.data.toList++text.data.toList)).length<=4000000000):=ι ⟨ha,ht,ω,ω⟩;generalize xDf key xS ad text=res at HT⊢;generalize xR0 ad text=dd at HT hD;clear hL1 hL2 hk hn
 go_enter func164,ntmps164;go_wp2_with fail
 refine HC.o.mono ?_;rintro e w1 ⟨rfl,hb1⟩;have B1:=ι hb1;clear hb1 HC
 have hmk:∀W:World,(Instr.makeSlice 125 (.int .i64 0) (.int .i64 ((ad.size:Int)+(text.size:Int)+48))).run prog W=.ok (.slice (some ⟨W.heap.size,0,none⟩) 0 (ad.size+text.size+48)) (W.alloc (.cells (xX (xO (ad.size+text.size+48))) 5)):=HMK.o
 have HO0:=ι (zT.room w1 (ad.size+text.size+48) w.heap.size B1.o.size ω);have B2:=ι (B1.o.alloc B1.o.size (.cells (xX (xO (ad.size+text.size+48))) 5));go_upto_region 5 with fail
 clear hmk HMK;refine(λ(h:∀W3,Hid (zT W3 w.heap.size (.slice (some ⟨w1.heap.size,0,none⟩) 0 (ad.size+text.size+48)) []/\ψ w W3)->Code.wp _ _ _ _ W3)=>h _ (ι ⟨HO0.o,B2.o⟩)) ?_;clear HO0 B2 B1;generalize w1.heap.size=g;intro W2 H2;refine wp_region_lit ?_;iterate 6 go_step
 refine xE4 rfl _ _ 125 9 rfl w.heap.size 5 i0 underlying125 underlying9 hi hz0 hz1 hz2 _ 0 [] rfl H2.o.1 ad rfl (by unfold maxLen;omega) ω H2.o.2.size ?_;intro v3 w3 hown hgrow
 have HO3:Hid (zT w3 w.heap.size v3 ad.data.toList):=ι (by
  have h:=zT.of (l:=[]) (m:=ad.data.toList) (by rw[hal];exact hown);exact h)
 have HB3:=ι (H2.o.2.grown hgrow H2.o.2.size (λk hk=>(World.ownsRow.lt H2.o.1 k hk).1));have HA3:=ι (xKi v3 ad.data.toList w3 w.heap.size HO3.o HB3.o.size ω);clear hown hgrow H2;repeat go_step
 refine HA3.o.mono ?_;rintro e w4 ⟨v4,rfl,ho4,hx4⟩;have HO4:=ι ho4;have HB4:=ι (HB3.o.trans (hx4.below HO3.o HB3.o.size));clear ho4 hx4 HA3 HO3 HB3;go_upto_region 6 with fail
 refine wp_region_lit ?_;iterate 6 go_step
 refine xE4 rfl _ _ 125 9 rfl w.heap.size 5 i0 underlying125 underlying9 hi hz0 hz1 hz2 v4 _ _ rfl HO4.o.row text rfl (by have:=HLS.o;unfold maxLen;omega) (by have:=HLS.o;omega) HB4.o.size ?_;intro v5 w5 hown hgrow
 have HO5:Hid (zT w5 w.heap.size v5 (qG ad.data.toList++text.data.toList)):=ι (zT.of (by rw[htl];exact hown));have HB5:=ι (HB4.o.grown hgrow HB4.o.size (λk hk=>(World.ownsRow.lt HO4.o.row k hk).1))
 have HA5:=ι (xKi v5 _ w5 w.heap.size HO5.o HB5.o.size (by rw[List.length_append,htl];have:=HLS.o;omega));clear hown hgrow HO4 HB4;repeat go_step
 refine HA5.o.mono ?_;rintro e w6 ⟨v6,rfl,ho6,hx6⟩;have HO6:=ι ho6;have HB6:=ι (HB5.o.trans (hx6.below HO5.o HB5.o.size));clear ho6 hx6 HA5 HO5 HB5;have HS6:=ι (xN6 ad.size v6 _ w6 w.heap.size HO6.o HB6.o.size (by have:=HLS.o;omega));go_wp2_with fail
 refine HS6.o.mono ?_;rintro e w7 ⟨v7,rfl,ho7,hx7⟩;have HO7:=ι ho7;have HB7:=ι (HB6.o.trans (hx7.below HO6.o HB6.o.size));clear ho7 hx7 HS6 HO6 HB6;have HS7:=ι (xN6 text.size v7 _ w7 w.heap.size HO7.o HB7.o.size (by rw[List.length_append,xBk];have:=HLS.o;omega));go_wp2_with fail
 refine HS7.o.mono ?_;rintro e w8 ⟨v8,rfl,ho8,hx8⟩;have HO8:=ι ho8;have HB8:=ι (HB7.o.trans (hx8.below HO7.o HB7.o.size));clear ho8 hx8 HS7 HO7 HB7;rw[<-hD.o] at HO8;have hszi:(ks.size:Int)=64:=ω;clear hsz;go_upto_region 9 with fail
 refine RG.xH (λW=>Hid (zT W w.heap.size v8 dd/\ψ w W)) κ κ (ι ⟨HO8.o.drew,HB8.o.drew⟩) ?_;clear HO8 HB8;iterate 3 refine RG.dS ?_
 apply RG.xG
 ·intro w9 hw9;have q:(convert 125 9 v8).run prog w9=.ok (.string (bsA dd)) w9:=hw9.o.1.text;repeat go_step
  exact RG.xB hw9
 ·rfl
 apply RG.xG
 ·intro w9 hw9;repeat go_step
  refine(HT.o _).mono ?_;rintro e w10 ⟨rfl,yP⟩;simp only[];repeat go_step
  refine RG.xB ?_;exact ι ⟨zT.below hw9.o.1 yP,hw9.o.2.trans (yP.mono hw9.o.2.size)⟩
 ·rfl
 iterate 4 refine RG.dS ?_
 refine RG.xL (λw9 hw9=>?_);go_wp2;go_ret2;exact⟨rfl,hw9.o.2⟩
theorem xPs (key xS ad box:ByteArray) (w:World) (hk:key.size=32) (hn:xS.size=12) (hb:box.size<16):
  Calls prog 82 #[.string key,.string xS,.string ad,.string box] w λe w'=>e=.returned (.tuple #[.string ⟨#[]⟩,.int .i64 7])/\w'=w:=by
 have hki:(key.size:Int)=32:=ω;have hni:(xS.size:Int)=12:=ω;have hbi:(box.size:Int)<16:=ω;clear hk hn hb;go_enter func82,ntmps82;go_wp2;go_ret2;exact⟨rfl,rfl⟩
theorem xXi (key xS ad text given:ByteArray) (w:World) (hk:key.size=32) (hn:xS.size=12) (ha:ad.size<=1000000000) (ht:text.size<=1000000000) (hg:given.size=16) (hs:xHk (xDf key xS ad text) given=true):
  Calls prog 82 #[.string key,.string xS,.string ad,.string (text++given)] w λe w'=>e=.returned (.tuple #[.string (bsA (xZv key xS 1 text)),.int .i64 0])/\ψ w w':=by
 have HC:=ι (λW=>xGy key xS 1 text W hk hn ⟨δ,δ⟩ ω);have HT:=ι (λW=>xZ6 key xS ad text W hk hn ha ht);have htz:=xH5 key xS ad text;have HM:=ι (λW=>xNa (xDf key xS ad text) given W (by rw[htz];decide));rw[hs] at HM;generalize xDf key xS ad text=tg at HT htz HM;clear hs
 generalize bsA (xZv key xS 1 text)=pt at HC⊢;have hki:(key.size:Int)=32:=ω;have hni:(xS.size:Int)=12:=ω;have hbs:(text++given).size=text.size+16:=by rw[ByteArray.size_append,hg]
 have hx1:(text++given).extract 0 text.size=text:=by rw[ByteArray.extract_append_eq_left rfl]
 have hx2:(text++given).extract text.size (text.size+16)=given:=by rw[<-hg];rw[ByteArray.extract_append_eq_right rfl rfl]
 generalize text++given=box at hbs hx1 hx2⊢;obtain⟨n,hnn⟩:∃n,text.size=n:=⟨_,rfl⟩;rw[hnn] at hbs hx1 hx2;have hbi:(box.size:Int)=(n:Int)+16:=ω;have h16:¬((n:Int)+16<16):=ω;clear hk hn htz hg;go_enter func82,ntmps82;go_upto_region 5 with fail
 refine RG.xH (λW=>Hid (ψ w W)) κ κ (ι (Below.refl w.heap.size w).drew) ?_;iterate 12 refine RG.dS ?_
 refine RG.xL (λw1 hw1=>?_);clear h16 hbi hbs hki hni;go_wp2_with fail
 refine(HT.o _).mono ?_;rintro e w2 ⟨rfl,hb2⟩;have B2:=ι (hw1.o.trans (hb2.mono hw1.o.size));clear hb2 HT hw1;go_wp2_with fail
 refine(HM.o _).mono ?_;rintro e w3 ⟨rfl,hb3⟩;have B3:=ι (B2.o.trans (hb3.mono B2.o.size));clear hb3 HM B2;go_wp2_with fail
 refine(HC.o _).mono ?_;rintro e w4 ⟨rfl,hb4⟩;have B4:=ι (B3.o.trans (hb4.mono B3.o.size));clear hb4 HC B3;go_wp2;go_ret2;exact⟨rfl,B4.o⟩
theorem yB0 (key xS ad text given:ByteArray) (w:World) (hk:key.size=32) (hn:xS.size=12) (ha:ad.size<=1000000000) (ht:text.size<=1000000000) (hg:given.size=16) (hs:xHk (xDf key xS ad text) given=false):
  Calls prog 82 #[.string key,.string xS,.string ad,.string (text++given)] w λe w'=>e=.returned (.tuple #[.string ⟨#[]⟩,.int .i64 7])/\ψ w w':=by
 have HC:=ι (λW=>xGy key xS 1 text W hk hn ⟨δ,δ⟩ ω);have HT:=ι (λW=>xZ6 key xS ad text W hk hn ha ht);have htz:=xH5 key xS ad text;have HM:=ι (λW=>xNa (xDf key xS ad text) given W (by rw[htz];decide));rw[hs] at HM;generalize xDf key xS ad text=tg at HT htz HM;clear hs
 generalize bsA (xZv key xS 1 text)=pt at HC;have hki:(key.size:Int)=32:=ω;have hni:(xS.size:Int)=12:=ω;have hbs:(text++given).size=text.size+16:=by rw[ByteArray.size_append,hg]
 have hx1:(text++given).extract 0 text.size=text:=by rw[ByteArray.extract_append_eq_left rfl]
 have hx2:(text++given).extract text.size (text.size+16)=given:=by rw[<-hg];rw[ByteArray.extract_append_eq_right rfl rfl]
 generalize text++given=box at hbs hx1 hx2⊢;obtain⟨n,hnn⟩:∃n,text.size=n:=⟨_,rfl⟩;rw[hnn] at hbs hx1 hx2;have hbi:(box.size:Int)=(n:Int)+16:=ω;have h16:¬((n:Int)+16<16):=ω;clear hk hn htz hg;go_enter func82,ntmps82;go_upto_region 5 with fail
 refine RG.xH (λW=>Hid (ψ w W)) κ κ (ι (Below.refl w.heap.size w).drew) ?_;iterate 12 refine RG.dS ?_
 refine RG.xL (λw1 hw1=>?_);clear h16 hbi hbs hki hni;go_wp2_with fail
 refine(HT.o _).mono ?_;rintro e w2 ⟨rfl,hb2⟩;have B2:=ι (hw1.o.trans (hb2.mono hw1.o.size));clear hb2 HT hw1;go_wp2_with fail
 refine(HM.o _).mono ?_;rintro e w3 ⟨rfl,hb3⟩;have B3:=ι (B2.o.trans (hb3.mono B2.o.size));clear hb3 HM B2;clear HC;go_wp2;go_ret2;exact⟨rfl,B3.o⟩
end Go.Proofs.SH
namespace Mailsack
theorem xCv {ws:List Int} (h:ws.length=5):∃a b c d e,ws=[a,b,c,d,e]:=by
 match ws,h with
 |[a,b,c,d,e],_=>exact⟨a,b,c,d,e,rfl⟩
def nar (a b:Int):Int:=Go.IntKind.u64.wrap (Go.bits .and .u64 a 2251799813685247+b / 2251799813685248)
def nar0 (a b:Int):Int:=Go.IntKind.u64.wrap (Go.bits .and .u64 a 2251799813685247+19*(b / 2251799813685248))
def yR (l:List Int):List Int:=[nar0 (l.getD 0 0) (l.getD 4 0),nar (l.getD 1 0) (l.getD 0 0),nar (l.getD 2 0) (l.getD 1 0),nar (l.getD 3 0) (l.getD 2 0),nar (l.getD 4 0) (l.getD 3 0)]
theorem yN (l:List Int):(yR l).length=5:=rfl
theorem xCg {a b c d e:Int} (ha:U64 a) (hb:U64 b) (hc:U64 c) (hd:U64 d) (he:U64 e):yE [a,b,c,d,e]:=L5.all (l:=⟨a,b,c,d,e⟩) ⟨ha,hb,hc,hd,he⟩
theorem vX (l:List Int):yE (yR l):=xCg (wrap_u64 _) (wrap_u64 _) (wrap_u64 _) (wrap_u64 _) (wrap_u64 _)
end Mailsack
namespace Go.Proofs.FE
open Go.RowKit Mailsack MM BB SH
def uB (t:TypeId) (W:World) (g:Nat) (ws:List Int):Prop:=W.heap[g]?=some (.cells (xE ws) t (0,0))
theorem uB.blk {t:TypeId} {W:World} {g:Nat} {ws:List Int} (h:uB t W g ws):W.heap[g]?=some (.cells (xE ws) t (0,0)):=h
theorem uB.put {t:TypeId} {W:World} {g:Nat} {ws:List Int} (h:uB t W g ws) (i:Nat) (x:Int):uB t (W.setCell ⟨g,i,none⟩ (.int .u64 x)) g (ws.set i x):=by
 have:=yC h.blk i (.int .u64 x);rw[xOd] at this;exact this
theorem uB.far {t:TypeId} {W:World} {g:Nat} {ws:List Int} (h:uB t W g ws) {p:Addr} (hp:g≠p.block) (u:Value):uB t (W.setCell p u) g ws:=zL h.blk hp u
theorem uB.cell {t:TypeId} {W:World} {g:Nat} {ws:List Int} (h:uB t W g ws) {i:Nat} (hi:i<ws.length):W.cell? ⟨g,i,none⟩=some (.int .u64 (ws.getD i 0)):=by rw[xA h.blk,xAc hi]
theorem uB.free {t:TypeId} {W:World} {g:Nat} {ws:List Int} (h:uB t W g ws) (i:Nat):W.frozen? ⟨g,i,none⟩=false:=xD h.blk i
theorem uB.below {t:TypeId} {W W':World} {g:Nat} {ws:List Int} (h:uB t W g ws) (hb:ψ W W'):uB t W' g ws:=xC h.blk hb (xJ h.blk)
theorem vK (ws:List Int) (w:World) (hl:ws.length=5) (hu:yE ws):
  Calls prog 250 #[.agg (xE ws)] w λe w'=>e=.returned (.agg (xE (yR ws)))/\ψ w w':=by
 obtain⟨a,b,c,d,e,rfl⟩:=xCv hl;have ha:=hu 0;have hb:=hu 1;have hc:=hu 2;have hd:=hu 3;have he:=hu 4;simp only[List.getD_cons_zero,List.getD_cons_succ] at ha hb hc hd he;obtain⟨a0,a1⟩:=ha;obtain⟨b0,b1⟩:=hb;obtain⟨c0,c1⟩:=hc;obtain⟨d0,d1⟩:=hd;obtain⟨e0,e1⟩:=he;clear hl hu
 show Calls prog 250 #[.agg #[.int .u64 a,.int .u64 b,.int .u64 c,.int .u64 d,.int .u64 e]] w _;go_enter func250,ntmps250;go_wp2
 refine bodyPost_ret (results_cell_row rfl _ _ (w.heap.size+1) _ _ (0,0) _ rfl (zD _ _ _) underlying214 rfl (show(prog.info? 214).map (·.size)=some 5 by kernel_rfl)) rfl ?_;exact⟨rfl,(φ w _).alloc σ _⟩
end Go.Proofs.FE
/- Contracts of functions. Conditions: as stated. -/
import Derived.Test.YtacahegificeoaaGreatDoorImapLoginsProofB13
set_option maxHeartbeats 8000000
set_option maxRecDepth 100000
namespace Mailsack
theorem xDw {ws:List Int} (h:ws.length=5):∃a b c d e,ws=[a,b,c,d,e]:=by
 match ws,h with
 |[a,b,c,d,e],_=>exact⟨a,b,c,d,e,rfl⟩
def nar (a b:Int):Int:=Go.IntKind.u64.wrap (Go.bits .and .u64 a 2251799813685247+b / 2251799813685248)
def nar0 (a b:Int):Int:=Go.IntKind.u64.wrap (Go.bits .and .u64 a 2251799813685247+19*(b / 2251799813685248))
def zN (l:List Int):List Int:=[nar0 (l.getD 0 0) (l.getD 4 0),nar (l.getD 1 0) (l.getD 0 0),nar (l.getD 2 0) (l.getD 1 0),nar (l.getD 3 0) (l.getD 2 0),nar (l.getD 4 0) (l.getD 3 0)]
theorem zK (l:List Int):(zN l).length=5:=rfl
theorem xDe {a b c d e:Int} (ha:U64 a) (hb:U64 b) (hc:U64 c) (hd:U64 d) (he:U64 e):yV [a,b,c,d,e]:=L5.all (l:=⟨a,b,c,d,e⟩) ⟨ha,hb,hc,hd,he⟩
theorem wT (l:List Int):yV (zN l):=xDe (wrap_u64 _) (wrap_u64 _) (wrap_u64 _) (wrap_u64 _) (wrap_u64 _)
end Mailsack
namespace Go.Proofs.FE
open Go.RowKit Mailsack MM BB SH
def uU (t:TypeId) (W:World) (g:Nat) (ws:List Int):Prop:=W.heap[g]?=some (.cells (xH ws) t (0,0))
theorem uU.blk {t:TypeId} {W:World} {g:Nat} {ws:List Int} (h:uU t W g ws):W.heap[g]?=some (.cells (xH ws) t (0,0)):=h
theorem uU.put {t:TypeId} {W:World} {g:Nat} {ws:List Int} (h:uU t W g ws) (i:Nat) (x:Int):uU t (W.setCell ⟨g,i,none⟩ (.int .u64 x)) g (ws.set i x):=by
 have:=xY h.blk i (.int .u64 x);rw[xQg] at this;exact this
theorem uU.far {t:TypeId} {W:World} {g:Nat} {ws:List Int} (h:uU t W g ws) {p:Addr} (hp:g≠p.block) (u:Value):uU t (W.setCell p u) g ws:=yA h.blk hp u
theorem uU.cell {t:TypeId} {W:World} {g:Nat} {ws:List Int} (h:uU t W g ws) {i:Nat} (hi:i<ws.length):W.cell? ⟨g,i,none⟩=some (.int .u64 (ws.getD i 0)):=by rw[xA h.blk,xBe hi]
theorem uU.free {t:TypeId} {W:World} {g:Nat} {ws:List Int} (h:uU t W g ws) (i:Nat):W.frozen? ⟨g,i,none⟩=false:=xC h.blk i
theorem uU.below {t:TypeId} {W W':World} {g:Nat} {ws:List Int} (h:uU t W g ws) (hb:Below W.heap.size W W'):uU t W' g ws:=xB h.blk hb (xG h.blk)
theorem wJ (ws:List Int) (w:World) (hl:ws.length=5) (hu:yV ws):
  Calls Tryz.prog 250 #[.agg (xH ws)] w λe w'=>e=.returned (.agg (xH (zN ws)))/\Below w.heap.size w w':=by
 obtain⟨a,b,c,d,e,rfl⟩:=xDw hl;have ha:=hu 0;have hb:=hu 1;have hc:=hu 2;have hd:=hu 3;have he:=hu 4;simp only[List.getD_cons_zero,List.getD_cons_succ] at ha hb hc hd he;obtain⟨a0,a1⟩:=ha;obtain⟨b0,b1⟩:=hb;obtain⟨c0,c1⟩:=hc;obtain⟨d0,d1⟩:=hd;obtain⟨e0,e1⟩:=he;clear hl hu
 show Calls Tryz.prog 250 #[.agg #[.int .u64 a,.int .u64 b,.int .u64 c,.int .u64 d,.int .u64 e]] w _;go_enter Tryz.func250,Tryz.ntmps250;go_wp2
 refine bodyPost_ret (results_cell_row rfl _ _ (w.heap.size+1) _ _ (0,0) _ rfl (yX _ _ _) Tryz.underlying240 rfl (show(Tryz.prog.info? 240).map (·.size)=some 5 by kernel_rfl)) rfl ?_;exact⟨rfl,((Below.refl w.heap.size w).alloc ν _).alloc σ _⟩
end Go.Proofs.FE
namespace Mailsack
def xHd (a b:List Int):List Int:=zN (wD (zN a) (zN b) 5)
def xKx (a b:List Int):Nat->List Int
 |0=>a.set 0 (Go.IntKind.u64.wrap (a.getD 0 0+Go.IntKind.u64.wrap (4503599627370458-b.getD 0 0)))
 |i+1=>(xKx a b i).set (i+1) (Go.IntKind.u64.wrap ((xKx a b i).getD (i+1) 0+Go.IntKind.u64.wrap (4503599627370494-b.getD (i+1) 0)))
theorem xPb (a b:List Int):∀i,(xKx a b i).length=a.length
 |0=>by rw[xKx,List.length_set]
 |i+1=>by rw[xKx,List.length_set,xPb a b i]
theorem yC3 {a:List Int} (b:List Int) (h:yV a):∀i,yV (xKx a b i)
 |0=>h.set 0 (wrap_u64 _)
 |i+1=>(yC3 b h i).set (i+1) (wrap_u64 _)
def xHb (a b:List Int):List Int:=zN (xKx (zN a) (zN b) 4)
theorem xXq (a b:List Int):(xHd a b).length=5:=rfl
theorem xXm (a b:List Int):(xHb a b).length=5:=rfl
theorem yEz (a b:List Int):yV (xHd a b):=wT _
theorem yEx (a b:List Int):yV (xHb a b):=wT _
end Mailsack
namespace Go.Proofs.FE
open Go.RowKit Mailsack MM BB SH
theorem uF {ws:List Int} (h:ws.length=5):(Tryz.prog.info? 240).map (·.size)=some (xH ws).size:=by rw[xW,h];kernel_rfl
theorem xAf {xs ys:List Int} (h:xs.length=5) (h2:ys.length=5):(xH xs).size=(xH ys).size:=by rw[xW,xW,h,h2]
structure vT (w:World) (ax bx:List Int) (W:World):Prop where
 ba:uU 240 W w.heap.size ax
 bb:uU 240 W (w.heap.size+1) bx
 bz:uU 240 W (w.heap.size+2) (List.replicate 5 0)
 bel:Below w.heap.size w W
section
variable {w W W':World} {ax bx:List Int}
theorem vT.start (ax bx:List Int):vT w ax bx (((w.alloc (.cells (xH ax) 240)).alloc (.cells (xH bx) 240)).alloc (.cells (xH (List.replicate 5 0)) 240)):=
 ⟨xK (zG _ _ _) _,xK (yX _ _ _) _,by have h:=xL ((w.alloc (.cells (xH ax) 240)).alloc (.cells (xH bx) 240)) (.cells (xH (List.replicate 5 0)) 240);rw[show((w.alloc (.cells (xH ax) 240)).alloc (.cells (xH bx) 240)).heap.size=w.heap.size+2 by simp] at h;exact h,(((Below.refl w.heap.size w).alloc ν _).alloc σ _).alloc (by simp;omega) _⟩
theorem vT.below (h:vT w ax bx W) (hb:Below W.heap.size W W'):vT w ax bx W':=
 ⟨h.ba.below hb,h.bb.below hb,h.bz.below hb,h.bel.trans (hb.mono h.bel.size)⟩
theorem vT.drew (h:vT w ax bx W):vT w ax bx W.drew:=⟨h.ba,h.bb,h.bz,h.bel.drew⟩
theorem vT.put (h:vT w ax bx W) (i:Nat) (x:Int):vT w (ax.set i x) bx (W.setCell ⟨w.heap.size,i,none⟩ (.int .u64 x)):=
 ⟨h.ba.put i x,h.bb.far (p:=⟨w.heap.size,i,none⟩) σ _,h.bz.far (p:=⟨w.heap.size,i,none⟩) σ _,h.bel.setCell (p:=⟨w.heap.size,i,none⟩) ν _⟩
theorem vT.rowA (h:vT w ax bx W) (xs:List Int):vT w xs bx (W.setRow w.heap.size (xH xs)):=
 ⟨setRow_heap _ _ _ _ _ _ h.ba,(setRow_other _ _ _ _ ω).trans h.bb,(setRow_other _ _ _ _ ω).trans h.bz,below_setRow h.bel ν _⟩
theorem vT.rowB (h:vT w ax bx W) (xs:List Int):vT w ax xs (W.setRow (w.heap.size+1) (xH xs)):=
 ⟨(setRow_other _ _ _ _ ω).trans h.ba,setRow_heap _ _ _ _ _ _ h.bb,(setRow_other _ _ _ _ ω).trans h.bz,below_setRow h.bel ω _⟩
end
theorem xCc (ax bx:List Int) (w:World) (hl:ax.length=5) (hu:yV ax) (hl2:bx.length=5) (hu2:yV bx):
  Calls Tryz.prog 246 #[.agg (xH ax),.agg (xH bx)] w λe w'=>e=.returned (.agg (xH (xHd ax bx)))/\Below w.heap.size w w':=by
 have HNa:=ι (λW=>wJ ax W hl hu);have HNb:=ι (λW=>wJ bx W hl2 hu2);have HIa:=ι (uF hl);have HIb:=ι (uF hl2);have yBz:=ι (uF (zK ax));have yBy:=ι (uF (zK bx));have HZa:=ι (xAf hl (zK ax));have HZb:=ι (xAf hl2 (zK bx));have hna:=zK ax;have hnb:=zK bx;have hua:=wT ax;have hub:=wT bx
 have H0:=ι (vT.start (w:=w) ax bx);have HR:Hid (∀n,n=5->xHd ax bx=zN (wD (zN ax) (zN bx) n)):=ι (λn hn=>by rw[hn];rfl);obtain⟨res,hres⟩:∃x,xHd ax bx=x:=⟨_,rfl⟩;have hrl:res.length=5:=by rw[<-hres];rfl
 rw[hres] at HR⊢;clear hres hl hu hl2 hu2;generalize zN ax=na at HNa yBz HZa hna hua HR;generalize zN bx=nb at HNb yBy HZb hnb hub HR;go_enter Tryz.func246,Tryz.ntmps246;go_upto_region 1 with fail
 refine(λ(h:∀W3,Hid (vT w ax bx W3)->Code.wp _ _ _ _ W3)=>h _ H0) ?_;clear H0;intro W0 H0;refine RG.yT 6 (λL W=>Hid (vT w (if L 4 then na else ax) (if L 5 then nb else bx) W)) (λL L' W h hI=>by rw[<-h 4 δ,<-h 5 δ];exact hI) κ κ rfl (ι H0.o.drew) ?_;clear H0;apply RG.xR
 ·rfl
 ·rfl
 ·intro L w9 h0 hcl xN hw9;have e1:=hcl.not 6 (i:=4) h0 κ;have hs9:=hw9.o.ba;rw[e1,if_neg σ] at hs9;refine wpList_load_row rfl _ _ rfl w.heap.size rfl _ (xH ax) (0,0) _ hs9 Tryz.underlying240 rfl HIa.o ?_;repeat go_step
  with_reducible refine RG.xD ?_
  exact⟨xN,hw9⟩
 ·rfl
 apply RG.xR
 ·rfl
 ·rfl
 ·intro L w9 h0 hcl xN hw9;repeat go_step
  refine(HNa.o _).mono ?_;rintro e w10 ⟨rfl,zM⟩;simp only[];repeat go_step
  with_reducible refine RG.xD ?_
  exact⟨xN,ι (hw9.o.below zM)⟩
 ·rfl
 apply RG.xR
 ·rfl
 ·rfl
 ·intro L w9 h0 hcl xN hw9;have e1:=hcl.not 6 (i:=5) h0 κ;have hs9:=hw9.o.bb;rw[e1,if_neg σ] at hs9;refine wpList_load_row rfl _ _ rfl (w.heap.size+1) rfl _ (xH bx) (0,0) _ hs9 Tryz.underlying240 rfl HIb.o ?_;repeat go_step
  with_reducible refine RG.xD ?_
  exact⟨xN,hw9⟩
 ·rfl
 apply RG.xR
 ·rfl
 ·rfl
 ·intro L w9 h0 hcl xN hw9;repeat go_step
  refine(HNb.o _).mono ?_;rintro e w10 ⟨rfl,zM⟩;simp only[];repeat go_step
  with_reducible refine RG.xD ?_
  exact⟨xN,ι (hw9.o.below zM)⟩
 ·rfl
 apply RG.xR
 ·rfl
 ·rfl
 ·intro L w9 h0 hcl xN hw9;have hs9:=hw9.o;rw[h0,if_neg σ] at hs9;refine wpList_store_row rfl _ _ _ rfl w.heap.size (xH na) rfl rfl _ _ hs9.ba yBz.o HZa.o (yC _) ?_;repeat go_step
  with_reducible refine RG.xD ?_
  exact⟨xN,ι (hs9.rowA na)⟩
 ·rfl
 apply RG.xR
 ·rfl
 ·rfl
 ·intro L w9 h0 hcl xN hw9;have hs9:=hw9.o;rw[h0,if_neg (c:=false=true) σ] at hs9;refine wpList_store_row rfl _ _ _ rfl (w.heap.size+1) (xH nb) rfl rfl _ _ hs9.bb yBy.o HZb.o (yC _) ?_;repeat go_step
  with_reducible refine RG.xD ?_
  exact⟨xN,ι (hs9.rowB nb)⟩
 ·rfl
 refine RG.yI (λw9 hw9=>?_);rw[if_pos rfl,if_pos rfl] at hw9;go_wp2_with fail
 go_loopw [10] (λiv W=>∃i:Nat,i<=5/\iv=.int .i64 i/\Hid (vT w (wD na nb i) nb W)) (λiv _=>5- (intOf iv).toNat)
 case atStart=>exact⟨0,δ,rfl,hw9⟩
 case round=>
  obtain⟨i,hi,rfl,hr⟩:=hrel;clear hw9;have hxl:(wD na nb i).length=5:=by rw[xFj,hna]
  have hxu:=xQx nb hua i
  by_cases hlt:i<5
  ·have HS:Hid (wD na nb (i+1)=(wD na nb i).set i (IntKind.u64.wrap ((wD na nb i).getD i 0+nb.getD i 0))):=ι rfl;obtain⟨s,hs⟩:∃s,wD na nb (i+1)=s:=⟨_,rfl⟩;rw[hs] at HS;have HSE:=ι hs;clear hs;generalize wD na nb i=xs at hr hxl hxu HS;obtain⟨x,hx⟩:∃x,xs.getD i 0=x:=⟨_,rfl⟩
   obtain⟨y,hy⟩:∃y,nb.getD i 0=y:=⟨_,rfl⟩;obtain⟨x0,x1⟩:=hxu i;obtain⟨y0,y1⟩:=hub i;rw[hx] at x0 x1;rw[hy] at y0 y1;rw[hx,hy] at HS;have HX:=ι hx;obtain⟨z,hz⟩:∃z,IntKind.u64.wrap (x+y)=z:=⟨_,rfl⟩;rw[hz] at HS;have HZ:=ι hz;go_upto_region 5 with fail
   refine RG.yT 9 (λL W=>Hid (vT w (if L 8 then xs.set i z else xs) nb W)) (λL L' W h hI=>by rw[<-h 8 δ];exact hI) κ κ rfl (ι hr.o.drew) ?_;iterate 2 refine RG.cS ?_
   apply RG.xR
   ·rfl
   ·rfl
   ·intro L w9 h0 hcl xN hw9;have e1:=hcl.not 9 (i:=8) h0 κ;have hs9:=hw9.o;rw[e1,if_neg σ] at hs9;have q:=hs9.ba.cell (i:=i) ω;rw[hx] at q;clear e1 hs9;repeat go_step
    with_reducible refine RG.xD ?_
    exact⟨xN,hw9⟩
   ·rfl
   iterate 2 refine RG.cS ?_
   apply RG.xR
   ·rfl
   ·rfl
   ·intro L w9 h0 hcl xN hw9;have q:=hw9.o.bb.cell (i:=i) ω;rw[hy] at q;repeat go_step
    with_reducible refine RG.xD ?_
    exact⟨xN,hw9⟩
   ·rfl
   refine RG.cS ?_;refine RG.cS ?_;apply RG.xR
   ·rfl
   ·rfl
   ·intro L w9 h0 hcl xN hw9;have hs9:=hw9.o;rw[h0,if_neg σ] at hs9;have q1:=hs9.ba.cell (i:=i) ω;have q2:=hs9.ba.free i;rw[hx] at q1;have hp:Hid (vT w (xs.set i z) nb (w9.setCell ⟨w.heap.size,i,none⟩ (.int .u64 z))):=ι (hs9.put i z);clear hs9;repeat go_step
    with_reducible refine RG.xD ?_
    refine⟨xN,?_⟩;show Hid (vT w (if (true:Bool)=true then xs.set i z else xs) nb _);rw[if_pos rfl];with_reducible exact hp
   ·rfl
   refine RG.yI (λw9 hw9=>?_);rw[if_pos rfl,<-HS.o] at hw9;clear hr;go_wp2;exact⟨⟨i+1,ω,by go_num,by rw[HSE.o];exact hw9⟩,by simp[intOf];omega⟩
  ·have HRi:=ι (HR.o i ω);generalize wD na nb i=xs at hr hxl hxu HRi;have HIx:=ι (uF hxl);have HIr:=ι (uF hrl);have HZr:Hid ((xH (List.replicate 5 0)).size=(xH res).size):=ι (xAf σ hrl);have HNx:=ι (λW=>wJ xs W hxl hxu);rw[<-HRi.o] at HNx;clear HNa HNb HRi hxu hxl
   go_upto_region 7 with fail
   refine wp_region_lit ?_;refine wpList_load_row rfl _ _ rfl w.heap.size rfl _ (xH xs) (0,0) _ hr.o.ba Tryz.underlying240 rfl HIx.o ?_;repeat go_step
   refine(HNx.o _).mono ?_;rintro e w7 ⟨rfl,hb7⟩;have h7:=hr.o.below hb7;go_wp2_with (refine wpList_store_row rfl _ _ _ rfl (w.heap.size+1+1) (xH res) rfl rfl _ _ h7.bz HIr.o HZr.o (yC _) ?_)
   refine bodyPost_ret (results_cell_row rfl _ _ (w.heap.size+1+1) _ _ (0,0) _ rfl (setRow_heap _ _ _ _ _ _ h7.bz) Tryz.underlying240 rfl HIr.o) rfl ?_;exact⟨rfl,below_setRow h7.bel ω _⟩
theorem yD9 (ax bx:List Int) (w:World) (hl:ax.length=5) (hu:yV ax) (hl2:bx.length=5) (hu2:yV bx):
  Calls Tryz.prog 247 #[.agg (xH ax),.agg (xH bx)] w λe w'=>e=.returned (.agg (xH (xHb ax bx)))/\Below w.heap.size w w':=by
 have HNa:=ι (λW=>wJ ax W hl hu);have HNb:=ι (λW=>wJ bx W hl2 hu2);have HIa:=ι (uF hl);have HIb:=ι (uF hl2);have yBz:=ι (uF (zK ax));have yBy:=ι (uF (zK bx));have HZa:=ι (xAf hl (zK ax));have HZb:=ι (xAf hl2 (zK bx));have hna:=zK ax;have hnb:=zK bx;have hua:=wT ax;have hub:=wT bx
 have H0:=ι (vT.start (w:=w) ax bx);have HR:Hid (∀n,n=4->xHb ax bx=zN (xKx (zN ax) (zN bx) n)):=ι (λn hn=>by rw[hn];rfl);obtain⟨res,hres⟩:∃x,xHb ax bx=x:=⟨_,rfl⟩;have hrl:res.length=5:=by rw[<-hres];rfl
 rw[hres] at HR⊢;clear hres hl hu hl2 hu2;generalize zN ax=na at HNa yBz HZa hna hua HR;generalize zN bx=nb at HNb yBy HZb hnb hub HR;go_enter Tryz.func247,Tryz.ntmps247;go_upto_region 1 with fail
 refine(λ(h:∀W3,Hid (vT w ax bx W3)->Code.wp _ _ _ _ W3)=>h _ H0) ?_;clear H0;intro W0 H0;refine RG.yT 6 (λL W=>Hid (vT w (if L 4 then na else ax) (if L 5 then nb else bx) W)) (λL L' W h hI=>by rw[<-h 4 δ,<-h 5 δ];exact hI) κ κ rfl (ι H0.o.drew) ?_;clear H0;apply RG.xR
 ·rfl
 ·rfl
 ·intro L w9 h0 hcl xN hw9;have e1:=hcl.not 6 (i:=4) h0 κ;have hs9:=hw9.o.ba;rw[e1,if_neg σ] at hs9;refine wpList_load_row rfl _ _ rfl w.heap.size rfl _ (xH ax) (0,0) _ hs9 Tryz.underlying240 rfl HIa.o ?_;repeat go_step
  with_reducible refine RG.xD ?_
  exact⟨xN,hw9⟩
 ·rfl
 apply RG.xR
 ·rfl
 ·rfl
 ·intro L w9 h0 hcl xN hw9;repeat go_step
  refine(HNa.o _).mono ?_;rintro e w10 ⟨rfl,zM⟩;simp only[];repeat go_step
  with_reducible refine RG.xD ?_
  exact⟨xN,ι (hw9.o.below zM)⟩
 ·rfl
 apply RG.xR
 ·rfl
 ·rfl
 ·intro L w9 h0 hcl xN hw9;have e1:=hcl.not 6 (i:=5) h0 κ;have hs9:=hw9.o.bb;rw[e1,if_neg σ] at hs9;refine wpList_load_row rfl _ _ rfl (w.heap.size+1) rfl _ (xH bx) (0,0) _ hs9 Tryz.underlying240 rfl HIb.o ?_;repeat go_step
  with_reducible refine RG.xD ?_
  exact⟨xN,hw9⟩
 ·rfl
 apply RG.xR
 ·rfl
 ·rfl
 ·intro L w9 h0 hcl xN hw9;repeat go_step
  refine(HNb.o _).mono ?_;rintro e w10 ⟨rfl,zM⟩;simp only[];repeat go_step
  with_reducible refine RG.xD ?_
  exact⟨xN,ι (hw9.o.below zM)⟩
 ·rfl
 apply RG.xR
 ·rfl
 ·rfl
 ·intro L w9 h0 hcl xN hw9;have hs9:=hw9.o;rw[h0,if_neg σ] at hs9;refine wpList_store_row rfl _ _ _ rfl w.heap.size (xH na) rfl rfl _ _ hs9.ba yBz.o HZa.o (yC _) ?_;repeat go_step
  with_reducible refine RG.xD ?_
  exact⟨xN,ι (hs9.rowA na)⟩
 ·rfl
 apply RG.xR
 ·rfl
 ·rfl
 ·intro L w9 h0 hcl xN hw9;have hs9:=hw9.o;rw[h0,if_neg (c:=false=true) σ] at hs9;refine wpList_store_row rfl _ _ _ rfl (w.heap.size+1) (xH nb) rfl rfl _ _ hs9.bb yBy.o HZb.o (yC _) ?_;repeat go_step
  with_reducible refine RG.xD ?_
  exact⟨xN,ι (hs9.rowB nb)⟩
 ·rfl
 refine RG.yI (λw9 hw9=>?_);rw[if_pos rfl,if_pos rfl] at hw9;have H1:Hid (vT w (xKx na nb 0) nb (w9.setCell ⟨w.heap.size,0,none⟩ (.int .u64 (IntKind.u64.wrap (na.getD 0 0+IntKind.u64.wrap (4503599627370458-nb.getD 0 0)))))):=ι (hw9.o.put 0 _);have q1:=hw9.o.ba.cell (i:=0) ω
 have q2:=hw9.o.bb.cell (i:=0) ω;have q3:=hw9.o.ba.free 0;obtain⟨x0,x1⟩:=hua 0;obtain⟨y0,y1⟩:=hub 0;generalize na.getD 0 0=x at q1 x0 x1 H1;generalize nb.getD 0 0=y at q2 y0 y1 H1;clear hw9;go_wp2_with fail
 clear q1 q2 q3 x0 x1 y0 y1
 go_loopw [5] (λiv W=>∃i k:Nat,i=k+1/\k<=4/\iv=.int .i64 i/\Hid (vT w (xKx na nb k) nb W)) (λiv _=>5- (intOf iv).toNat)
 case atStart=>exact⟨1,0,rfl,δ,rfl,H1⟩
 case round=>
  obtain⟨i,k,hik,hi,rfl,hr⟩:=hrel;clear H1;have hxl:(xKx na nb k).length=5:=by rw[xPb,hna]
  have hxu:=yC3 nb hua k
  by_cases hlt:i<5
  ·have HS:Hid (∀j,j=k+1->xKx na nb (k+1)=(xKx na nb k).set j (IntKind.u64.wrap ((xKx na nb k).getD j 0+IntKind.u64.wrap (4503599627370494-nb.getD j 0)))):=ι (λj hj=>by rw[hj];rfl)
   replace HS:=ι (HS.o i hik)
   obtain⟨s,hs⟩:∃s,xKx na nb (k+1)=s:=⟨_,rfl⟩;rw[hs] at HS;have HSE:=ι hs;clear hs;generalize xKx na nb k=xs at hr hxl hxu HS;obtain⟨x,hx⟩:∃x,xs.getD i 0=x:=⟨_,rfl⟩;obtain⟨y,hy⟩:∃y,nb.getD i 0=y:=⟨_,rfl⟩;obtain⟨x0,x1⟩:=hxu i;obtain⟨y0,y1⟩:=hub i;rw[hx] at x0 x1;rw[hy] at y0 y1
   rw[hx,hy] at HS;have HX:=ι hx;obtain⟨z,hz⟩:∃z,IntKind.u64.wrap (x+IntKind.u64.wrap (4503599627370494-y))=z:=⟨_,rfl⟩;rw[hz] at HS;have HZ:=ι hz;have HIK:=ι hik;clear hik;go_upto_region 6 with fail
   refine RG.yT 10 (λL W=>Hid (vT w (if L 9 then xs.set i z else xs) nb W)) (λL L' W h hI=>by rw[<-h 9 δ];exact hI) κ κ rfl (ι hr.o.drew) ?_;iterate 2 refine RG.cS ?_
   apply RG.xR
   ·rfl
   ·rfl
   ·intro L w9 h0 hcl xN hw9;have e1:=hcl.not 10 (i:=9) h0 κ;have hs9:=hw9.o;rw[e1,if_neg σ] at hs9;have q:=hs9.ba.cell (i:=i) ω;rw[hx] at q;clear e1 hs9;repeat go_step
    with_reducible refine RG.xD ?_
    exact⟨xN,hw9⟩
   ·rfl
   iterate 2 refine RG.cS ?_
   apply RG.xR
   ·rfl
   ·rfl
   ·intro L w9 h0 hcl xN hw9;have q:=hw9.o.bb.cell (i:=i) ω;rw[hy] at q;repeat go_step
    with_reducible refine RG.xD ?_
    exact⟨xN,hw9⟩
   ·rfl
   iterate 3 refine RG.cS ?_
   apply RG.xR
   ·rfl
   ·rfl
   ·intro L w9 h0 hcl xN hw9;have hs9:=hw9.o;rw[h0,if_neg σ] at hs9;have q1:=hs9.ba.cell (i:=i) ω;have q2:=hs9.ba.free i;rw[hx] at q1;have hp:Hid (vT w (xs.set i z) nb (w9.setCell ⟨w.heap.size,i,none⟩ (.int .u64 z))):=ι (hs9.put i z);clear hs9;repeat go_step
    with_reducible refine RG.xD ?_
    refine⟨xN,?_⟩;show Hid (vT w (if (true:Bool)=true then xs.set i z else xs) nb _);rw[if_pos rfl];with_reducible exact hp
   ·rfl
   refine RG.yI (λw9 hw9=>?_);rw[if_pos rfl,<-HS.o] at hw9;clear hr;go_wp2;exact⟨⟨i+1,k+1,by rw[HIK.o],by have:=HIK.o;omega,by go_num,by rw[HSE.o];exact hw9⟩,by simp[intOf];omega⟩
  ·have HRi:=ι (HR.o k ω);generalize xKx na nb k=xs at hr hxl hxu HRi;have HIx:=ι (uF hxl);have HIr:=ι (uF hrl);have HZr:Hid ((xH (List.replicate 5 0)).size=(xH res).size):=ι (xAf σ hrl);have HNx:=ι (λW=>wJ xs W hxl hxu);rw[<-HRi.o] at HNx;clear HNa HNb HRi hxu hxl hik
   go_upto_region 7 with fail
   refine wp_region_lit ?_;refine wpList_load_row rfl _ _ rfl w.heap.size rfl _ (xH xs) (0,0) _ hr.o.ba Tryz.underlying240 rfl HIx.o ?_;repeat go_step
   refine(HNx.o _).mono ?_;rintro e w7 ⟨rfl,hb7⟩;have h7:=hr.o.below hb7;go_wp2_with (refine wpList_store_row rfl _ _ _ rfl (w.heap.size+1+1) (xH res) rfl rfl _ _ h7.bz HIr.o HZr.o (yC _) ?_)
   refine bodyPost_ret (results_cell_row rfl _ _ (w.heap.size+1+1) _ _ (0,0) _ rfl (setRow_heap _ _ _ _ _ _ h7.bz) Tryz.underlying240 rfl HIr.o) rfl ?_;exact⟨rfl,below_setRow h7.bel ω _⟩
end Go.Proofs.FE
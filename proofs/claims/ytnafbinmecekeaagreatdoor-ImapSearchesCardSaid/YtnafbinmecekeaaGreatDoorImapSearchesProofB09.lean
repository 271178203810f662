/- Contracts of functions. Conditions: as stated. -/
import Derived.Test.YtnafbinmecekeaaGreatDoorImapSearchesProofB08
open Go.Proofs.Tryz
set_option maxHeartbeats 8000000
set_option maxRecDepth 100000
namespace Mailsack
def xFt (a b:List Int):List Int:=yR (vG (yR a) (yR b) 5)
def xJ5 (a b:List Int):Nat->List Int
 |0=>a.set 0 (Go.IntKind.u64.wrap (a.getD 0 0+Go.IntKind.u64.wrap (4503599627370458-b.getD 0 0)))
 |i+1=>(xJ5 a b i).set (i+1) (Go.IntKind.u64.wrap ((xJ5 a b i).getD (i+1) 0+Go.IntKind.u64.wrap (4503599627370494-b.getD (i+1) 0)))
theorem xN4 (a b:List Int):∀i,(xJ5 a b i).length=a.length
 |0=>by rw[xJ5,List.length_set]
 |i+1=>by rw[xJ5,List.length_set,xN4 a b i]
theorem xZ7 {a:List Int} (b:List Int) (h:yE a):∀i,yE (xJ5 a b i)
 |0=>h.set 0 (wrap_u64 _)
 |i+1=>(xZ7 b h i).set (i+1) (wrap_u64 _)
def xFr (a b:List Int):List Int:=yR (xJ5 (yR a) (yR b) 4)
theorem xUu (a b:List Int):(xFt a b).length=5:=rfl
theorem xUr (a b:List Int):(xFr a b).length=5:=rfl
theorem yC1 (a b:List Int):yE (xFt a b):=vX _
theorem yBz (a b:List Int):yE (xFr a b):=vX _
end Mailsack
namespace Go.Proofs.FE
open Go.RowKit Mailsack MM BB SH
theorem zS {ws:List Int} (h:ws.length=5):(prog.info? 214).map (·.size)=some (xE ws).size:=by rw[xQ,h];kernel_rfl
theorem rF {xs ys:List Int} (h:xs.length=5) (h2:ys.length=5):(xE xs).size=(xE ys).size:=by rw[xQ,xQ,h,h2]
structure vB (w:World) (ax bx:List Int) (W:World):Prop where
 ba:uB 214 W w.heap.size ax
 bb:uB 214 W (w.heap.size+1) bx
 bz:uB 214 W (w.heap.size+2) (List.replicate 5 0)
 bel:ψ w W
section
variable {w W W':World} {ax bx:List Int}
theorem vB.start (ax bx:List Int):vB w ax bx (((w.alloc (.cells (xE ax) 214)).alloc (.cells (xE bx) 214)).alloc (.cells (xE (List.replicate 5 0)) 214)):=
 ⟨xM (zK _ _ _) _,xM (zD _ _ _) _,by have h:=xI ((w.alloc (.cells (xE ax) 214)).alloc (.cells (xE bx) 214)) (.cells (xE (List.replicate 5 0)) 214);rw[show((w.alloc (.cells (xE ax) 214)).alloc (.cells (xE bx) 214)).heap.size=w.heap.size+2 by simp] at h;exact h,((φ w _).alloc σ _).alloc (by simp;omega) _⟩
theorem vB.below (h:vB w ax bx W) (hb:ψ W W'):vB w ax bx W':=
 ⟨h.ba.below hb,h.bb.below hb,h.bz.below hb,h.bel.trans (hb.mono h.bel.size)⟩
theorem vB.drew (h:vB w ax bx W):vB w ax bx W.drew:=⟨h.ba,h.bb,h.bz,h.bel.drew⟩
theorem vB.put (h:vB w ax bx W) (i:Nat) (x:Int):vB w (ax.set i x) bx (W.setCell ⟨w.heap.size,i,none⟩ (.int .u64 x)):=
 ⟨h.ba.put i x,h.bb.far (p:=⟨w.heap.size,i,none⟩) σ _,h.bz.far (p:=⟨w.heap.size,i,none⟩) σ _,h.bel.setCell (p:=⟨w.heap.size,i,none⟩) ν _⟩
theorem vB.rowA (h:vB w ax bx W) (xs:List Int):vB w xs bx (W.setRow w.heap.size (xE xs)):=
 ⟨setRow_heap _ _ _ _ _ _ h.ba,(setRow_other _ _ _ _ ω).trans h.bb,(setRow_other _ _ _ _ ω).trans h.bz,below_setRow h.bel ν _⟩
theorem vB.rowB (h:vB w ax bx W) (xs:List Int):vB w ax xs (W.setRow (w.heap.size+1) (xE xs)):=
 ⟨(setRow_other _ _ _ _ ω).trans h.ba,setRow_heap _ _ _ _ _ _ h.bb,(setRow_other _ _ _ _ ω).trans h.bz,below_setRow h.bel ω _⟩
end
theorem xBa (ax bx:List Int) (w:World) (hl:ax.length=5) (hu:yE ax) (hl2:bx.length=5) (hu2:yE bx):
  Calls prog 246 #[.agg (xE ax),.agg (xE bx)] w λe w'=>e=.returned (.agg (xE (xFt ax bx)))/\ψ w w':=by
 have HNa:=ι (λW=>vK ax W hl hu);have HNb:=ι (λW=>vK bx W hl2 hu2);have HIa:=ι (zS hl);have HIb:=ι (zS hl2);have xZ1:=ι (zS (yN ax));have xZ0:=ι (zS (yN bx));have HZa:=ι (rF hl (yN ax));have HZb:=ι (rF hl2 (yN bx));have hna:=yN ax;have hnb:=yN bx;have hua:=vX ax;have hub:=vX bx
 have H0:=ι (vB.start (w:=w) ax bx);have HR:Hid (∀n,n=5->xFt ax bx=yR (vG (yR ax) (yR bx) n)):=ι (λn hn=>by rw[hn];rfl);obtain⟨res,hres⟩:∃x,xFt ax bx=x:=⟨_,rfl⟩;have hrl:res.length=5:=by rw[<-hres];rfl
 rw[hres] at HR⊢;clear hres hl hu hl2 hu2;generalize yR ax=na at HNa xZ1 HZa hna hua HR;generalize yR bx=nb at HNb xZ0 HZb hnb hub HR;go_enter func246,ntmps246;go_upto_region 1 with fail
 refine(λ(h:∀W3,Hid (vB w ax bx W3)->Code.wp _ _ _ _ W3)=>h _ H0) ?_;clear H0;intro W0 H0;refine RG.yM 6 (λL W=>Hid (vB w (if L 4 then na else ax) (if L 5 then nb else bx) W)) (λL L' W h hI=>by rw[<-h 4 δ,<-h 5 δ];exact hI) κ κ rfl (ι H0.o.drew) ?_;clear H0;apply RG.xN
 ·rfl
 ·rfl
 ·intro L w9 h0 hcl xP hw9;have e1:=hcl.not 6 (i:=4) h0 κ;have hs9:=hw9.o.ba;rw[e1,if_neg σ] at hs9;refine wpList_load_row rfl _ _ rfl w.heap.size rfl _ (xE ax) (0,0) _ hs9 underlying214 rfl HIa.o ?_;repeat go_step
  refine RG.xB ?_;exact⟨xP,hw9⟩
 ·rfl
 apply RG.xN
 ·rfl
 ·rfl
 ·intro L w9 h0 hcl xP hw9;repeat go_step
  refine(HNa.o _).mono ?_;rintro e w10 ⟨rfl,yP⟩;simp only[];repeat go_step
  refine RG.xB ?_;exact⟨xP,ι (hw9.o.below yP)⟩
 ·rfl
 apply RG.xN
 ·rfl
 ·rfl
 ·intro L w9 h0 hcl xP hw9;have e1:=hcl.not 6 (i:=5) h0 κ;have hs9:=hw9.o.bb;rw[e1,if_neg σ] at hs9;refine wpList_load_row rfl _ _ rfl (w.heap.size+1) rfl _ (xE bx) (0,0) _ hs9 underlying214 rfl HIb.o ?_;repeat go_step
  refine RG.xB ?_;exact⟨xP,hw9⟩
 ·rfl
 apply RG.xN
 ·rfl
 ·rfl
 ·intro L w9 h0 hcl xP hw9;repeat go_step
  refine(HNb.o _).mono ?_;rintro e w10 ⟨rfl,yP⟩;simp only[];repeat go_step
  refine RG.xB ?_;exact⟨xP,ι (hw9.o.below yP)⟩
 ·rfl
 apply RG.xN
 ·rfl
 ·rfl
 ·intro L w9 h0 hcl xP hw9;have hs9:=hw9.o;rw[h0,if_neg σ] at hs9;refine wpList_store_row rfl _ _ _ rfl w.heap.size (xE na) rfl rfl _ _ hs9.ba xZ1.o HZa.o (xR _) ?_;repeat go_step
  refine RG.xB ?_;exact⟨xP,ι (hs9.rowA na)⟩
 ·rfl
 apply RG.xN
 ·rfl
 ·rfl
 ·intro L w9 h0 hcl xP hw9;have hs9:=hw9.o;rw[h0,if_neg (c:=false=true) σ] at hs9;refine wpList_store_row rfl _ _ _ rfl (w.heap.size+1) (xE nb) rfl rfl _ _ hs9.bb xZ0.o HZb.o (xR _) ?_;repeat go_step
  refine RG.xB ?_;exact⟨xP,ι (hs9.rowB nb)⟩
 ·rfl
 refine RG.xY (λw9 hw9=>?_);rw[if_pos rfl,if_pos rfl] at hw9;go_wp2_with fail
 go_loopw [10] (λiv W=>∃i:Nat,i<=5/\iv=.int .i64 i/\Hid (vB w (vG na nb i) nb W)) (λiv _=>5- (intOf iv).toNat)
 case atStart=>exact⟨0,δ,rfl,hw9⟩
 case round=>
  obtain⟨i,hi,rfl,hr⟩:=hrel;clear hw9;have hxl:(vG na nb i).length=5:=by rw[xDz,hna]
  have hxu:=xOs nb hua i
  by_cases hlt:i<5
  ·have HS:Hid (vG na nb (i+1)=(vG na nb i).set i (IntKind.u64.wrap ((vG na nb i).getD i 0+nb.getD i 0))):=ι rfl;obtain⟨s,hs⟩:∃s,vG na nb (i+1)=s:=⟨_,rfl⟩;rw[hs] at HS;have HSE:=ι hs;clear hs;generalize vG na nb i=xs at hr hxl hxu HS;obtain⟨x,hx⟩:∃x,xs.getD i 0=x:=⟨_,rfl⟩
   obtain⟨y,hy⟩:∃y,nb.getD i 0=y:=⟨_,rfl⟩;obtain⟨x0,x1⟩:=hxu i;obtain⟨y0,y1⟩:=hub i;rw[hx] at x0 x1;rw[hy] at y0 y1;rw[hx,hy] at HS;have HX:=ι hx;obtain⟨z,hz⟩:∃z,IntKind.u64.wrap (x+y)=z:=⟨_,rfl⟩;rw[hz] at HS;have HZ:=ι hz;go_upto_region 5 with fail
   refine RG.yM 9 (λL W=>Hid (vB w (if L 8 then xs.set i z else xs) nb W)) (λL L' W h hI=>by rw[<-h 8 δ];exact hI) κ κ rfl (ι hr.o.drew) ?_;iterate 2 refine RG.cS ?_
   apply RG.xN
   ·rfl
   ·rfl
   ·intro L w9 h0 hcl xP hw9;have e1:=hcl.not 9 (i:=8) h0 κ;have hs9:=hw9.o;rw[e1,if_neg σ] at hs9;have q:=hs9.ba.cell (i:=i) ω;rw[hx] at q;clear e1 hs9;repeat go_step
    refine RG.xB ?_;exact⟨xP,hw9⟩
   ·rfl
   iterate 2 refine RG.cS ?_
   apply RG.xN
   ·rfl
   ·rfl
   ·intro L w9 h0 hcl xP hw9;have q:=hw9.o.bb.cell (i:=i) ω;rw[hy] at q;repeat go_step
    refine RG.xB ?_;exact⟨xP,hw9⟩
   ·rfl
   refine RG.cS ?_;refine RG.cS ?_;apply RG.xN
   ·rfl
   ·rfl
   ·intro L w9 h0 hcl xP hw9;have hs9:=hw9.o;rw[h0,if_neg σ] at hs9;have q1:=hs9.ba.cell (i:=i) ω;have q2:=hs9.ba.free i;rw[hx] at q1;have hp:Hid (vB w (xs.set i z) nb (w9.setCell ⟨w.heap.size,i,none⟩ (.int .u64 z))):=ι (hs9.put i z);clear hs9;repeat go_step
    refine RG.xB ?_;refine⟨xP,?_⟩;show Hid (vB w (if (true:Bool)=true then xs.set i z else xs) nb _);rw[if_pos rfl];with_reducible exact hp
   ·rfl
   refine RG.xY (λw9 hw9=>?_);rw[if_pos rfl,<-HS.o] at hw9;clear hr;go_wp2;exact⟨⟨i+1,ω,by go_num,by rw[HSE.o];exact hw9⟩,by simp[intOf];omega⟩
  ·have HRi:=ι (HR.o i ω);generalize vG na nb i=xs at hr hxl hxu HRi;have HIx:=ι (zS hxl);have HIr:=ι (zS hrl);have HZr:Hid ((xE (List.replicate 5 0)).size=(xE res).size):=ι (rF σ hrl);have HNx:=ι (λW=>vK xs W hxl hxu);rw[<-HRi.o] at HNx;clear HNa HNb HRi hxu hxl
   go_upto_region 7 with fail
   refine wp_region_lit ?_;refine wpList_load_row rfl _ _ rfl w.heap.size rfl _ (xE xs) (0,0) _ hr.o.ba underlying214 rfl HIx.o ?_;repeat go_step
   refine(HNx.o _).mono ?_;rintro e w7 ⟨rfl,hb7⟩;have h7:=hr.o.below hb7;go_wp2_with (refine wpList_store_row rfl _ _ _ rfl (w.heap.size+1+1) (xE res) rfl rfl _ _ h7.bz HIr.o HZr.o (xR _) ?_)
   refine bodyPost_ret (results_cell_row rfl _ _ (w.heap.size+1+1) _ _ (0,0) _ rfl (setRow_heap _ _ _ _ _ _ h7.bz) underlying214 rfl HIr.o) rfl ?_;exact⟨rfl,below_setRow h7.bel ω _⟩
theorem yAk (ax bx:List Int) (w:World) (hl:ax.length=5) (hu:yE ax) (hl2:bx.length=5) (hu2:yE bx):
  Calls prog 247 #[.agg (xE ax),.agg (xE bx)] w λe w'=>e=.returned (.agg (xE (xFr ax bx)))/\ψ w w':=by
 have HNa:=ι (λW=>vK ax W hl hu);have HNb:=ι (λW=>vK bx W hl2 hu2);have HIa:=ι (zS hl);have HIb:=ι (zS hl2);have xZ1:=ι (zS (yN ax));have xZ0:=ι (zS (yN bx));have HZa:=ι (rF hl (yN ax));have HZb:=ι (rF hl2 (yN bx));have hna:=yN ax;have hnb:=yN bx;have hua:=vX ax;have hub:=vX bx
 have H0:=ι (vB.start (w:=w) ax bx);have HR:Hid (∀n,n=4->xFr ax bx=yR (xJ5 (yR ax) (yR bx) n)):=ι (λn hn=>by rw[hn];rfl);obtain⟨res,hres⟩:∃x,xFr ax bx=x:=⟨_,rfl⟩;have hrl:res.length=5:=by rw[<-hres];rfl
 rw[hres] at HR⊢;clear hres hl hu hl2 hu2;generalize yR ax=na at HNa xZ1 HZa hna hua HR;generalize yR bx=nb at HNb xZ0 HZb hnb hub HR;go_enter func247,ntmps247;go_upto_region 1 with fail
 refine(λ(h:∀W3,Hid (vB w ax bx W3)->Code.wp _ _ _ _ W3)=>h _ H0) ?_;clear H0;intro W0 H0;refine RG.yM 6 (λL W=>Hid (vB w (if L 4 then na else ax) (if L 5 then nb else bx) W)) (λL L' W h hI=>by rw[<-h 4 δ,<-h 5 δ];exact hI) κ κ rfl (ι H0.o.drew) ?_;clear H0;apply RG.xN
 ·rfl
 ·rfl
 ·intro L w9 h0 hcl xP hw9;have e1:=hcl.not 6 (i:=4) h0 κ;have hs9:=hw9.o.ba;rw[e1,if_neg σ] at hs9;refine wpList_load_row rfl _ _ rfl w.heap.size rfl _ (xE ax) (0,0) _ hs9 underlying214 rfl HIa.o ?_;repeat go_step
  refine RG.xB ?_;exact⟨xP,hw9⟩
 ·rfl
 apply RG.xN
 ·rfl
 ·rfl
 ·intro L w9 h0 hcl xP hw9;repeat go_step
  refine(HNa.o _).mono ?_;rintro e w10 ⟨rfl,yP⟩;simp only[];repeat go_step
  refine RG.xB ?_;exact⟨xP,ι (hw9.o.below yP)⟩
 ·rfl
 apply RG.xN
 ·rfl
 ·rfl
 ·intro L w9 h0 hcl xP hw9;have e1:=hcl.not 6 (i:=5) h0 κ;have hs9:=hw9.o.bb;rw[e1,if_neg σ] at hs9;refine wpList_load_row rfl _ _ rfl (w.heap.size+1) rfl _ (xE bx) (0,0) _ hs9 underlying214 rfl HIb.o ?_;repeat go_step
  refine RG.xB ?_;exact⟨xP,hw9⟩
 ·rfl
 apply RG.xN
 ·rfl
 ·rfl
 ·intro L w9 h0 hcl xP hw9;repeat go_step
  refine(HNb.o _).mono ?_;rintro e w10 ⟨rfl,yP⟩;simp only[];repeat go_step
  refine RG.xB ?_;exact⟨xP,ι (hw9.o.below yP)⟩
 ·rfl
 apply RG.xN
 ·rfl
 ·rfl
 ·intro L w9 h0 hcl xP hw9;have hs9:=hw9.o;rw[h0,if_neg σ] at hs9;refine wpList_store_row rfl _ _ _ rfl w.heap.size (xE na) rfl rfl _ _ hs9.ba xZ1.o HZa.o (xR _) ?_;repeat go_step
  refine RG.xB ?_;exact⟨xP,ι (hs9.rowA na)⟩
 ·rfl
 apply RG.xN
 ·rfl
 ·rfl
 ·intro L w9 h0 hcl xP hw9;have hs9:=hw9.o;rw[h0,if_neg (c:=false=true) σ] at hs9;refine wpList_store_row rfl _ _ _ rfl (w.heap.size+1) (xE nb) rfl rfl _ _ hs9.bb xZ0.o HZb.o (xR _) ?_;repeat go_step
  refine RG.xB ?_;exact⟨xP,ι (hs9.rowB nb)⟩
 ·rfl
 refine RG.xY (λw9 hw9=>?_);rw[if_pos rfl,if_pos rfl] at hw9;have H1:Hid (vB w (xJ5 na nb 0) nb (w9.setCell ⟨w.heap.size,0,none⟩ (.int .u64 (IntKind.u64.wrap (na.getD 0 0+IntKind.u64.wrap (4503599627370458-nb.getD 0 0)))))):=ι (hw9.o.put 0 _);have q1:=hw9.o.ba.cell (i:=0) ω
 have q2:=hw9.o.bb.cell (i:=0) ω;have q3:=hw9.o.ba.free 0;obtain⟨x0,x1⟩:=hua 0;obtain⟨y0,y1⟩:=hub 0;generalize na.getD 0 0=x at q1 x0 x1 H1;generalize nb.getD 0 0=y at q2 y0 y1 H1;clear hw9;go_wp2_with fail
 clear q1 q2 q3 x0 x1 y0 y1
 go_loopw [5] (λiv W=>∃i k:Nat,i=k+1/\k<=4/\iv=.int .i64 i/\Hid (vB w (xJ5 na nb k) nb W)) (λiv _=>5- (intOf iv).toNat)
 case atStart=>exact⟨1,0,rfl,δ,rfl,H1⟩
 case round=>
  obtain⟨i,k,hik,hi,rfl,hr⟩:=hrel;clear H1;have hxl:(xJ5 na nb k).length=5:=by rw[xN4,hna]
  have hxu:=xZ7 nb hua k
  by_cases hlt:i<5
  ·have HS:Hid (∀j,j=k+1->xJ5 na nb (k+1)=(xJ5 na nb k).set j (IntKind.u64.wrap ((xJ5 na nb k).getD j 0+IntKind.u64.wrap (4503599627370494-nb.getD j 0)))):=ι (λj hj=>by rw[hj];rfl)
   replace HS:=ι (HS.o i hik)
   obtain⟨s,hs⟩:∃s,xJ5 na nb (k+1)=s:=⟨_,rfl⟩;rw[hs] at HS;have HSE:=ι hs;clear hs;generalize xJ5 na nb k=xs at hr hxl hxu HS;obtain⟨x,hx⟩:∃x,xs.getD i 0=x:=⟨_,rfl⟩;obtain⟨y,hy⟩:∃y,nb.getD i 0=y:=⟨_,rfl⟩;obtain⟨x0,x1⟩:=hxu i;obtain⟨y0,y1⟩:=hub i;rw[hx] at x0 x1;rw[hy] at y0 y1
   rw[hx,hy] at HS;have HX:=ι hx;obtain⟨z,hz⟩:∃z,IntKind.u64.wrap (x+IntKind.u64.wrap (4503599627370494-y))=z:=⟨_,rfl⟩;rw[hz] at HS;have HZ:=ι hz;have HIK:=ι hik;clear hik;go_upto_region 6 with fail
   refine RG.yM 10 (λL W=>Hid (vB w (if L 9 then xs.set i z else xs) nb W)) (λL L' W h hI=>by rw[<-h 9 δ];exact hI) κ κ rfl (ι hr.o.drew) ?_;iterate 2 refine RG.cS ?_
   apply RG.xN
   ·rfl
   ·rfl
   ·intro L w9 h0 hcl xP hw9;have e1:=hcl.not 10 (i:=9) h0 κ;have hs9:=hw9.o;rw[e1,if_neg σ] at hs9;have q:=hs9.ba.cell (i:=i) ω;rw[hx] at q;clear e1 hs9;repeat go_step
    refine RG.xB ?_;exact⟨xP,hw9⟩
   ·rfl
   iterate 2 refine RG.cS ?_
   apply RG.xN
   ·rfl
   ·rfl
   ·intro L w9 h0 hcl xP hw9;have q:=hw9.o.bb.cell (i:=i) ω;rw[hy] at q;repeat go_step
    refine RG.xB ?_;exact⟨xP,hw9⟩
   ·rfl
   iterate 3 refine RG.cS ?_
   apply RG.xN
   ·rfl
   ·rfl
   ·intro L w9 h0 hcl xP hw9;have hs9:=hw9.o;rw[h0,if_neg σ] at hs9;have q1:=hs9.ba.cell (i:=i) ω;have q2:=hs9.ba.free i;rw[hx] at q1;have hp:Hid (vB w (xs.set i z) nb (w9.setCell ⟨w.heap.size,i,none⟩ (.int .u64 z))):=ι (hs9.put i z);clear hs9;repeat go_step
    refine RG.xB ?_;refine⟨xP,?_⟩;show Hid (vB w (if (true:Bool)=true then xs.set i z else xs) nb _);rw[if_pos rfl];with_reducible exact hp
   ·rfl
   refine RG.xY (λw9 hw9=>?_);rw[if_pos rfl,<-HS.o] at hw9;clear hr;go_wp2;exact⟨⟨i+1,k+1,by rw[HIK.o],by have:=HIK.o;omega,by go_num,by rw[HSE.o];exact hw9⟩,by simp[intOf];omega⟩
  ·have HRi:=ι (HR.o k ω);generalize xJ5 na nb k=xs at hr hxl hxu HRi;have HIx:=ι (zS hxl);have HIr:=ι (zS hrl);have HZr:Hid ((xE (List.replicate 5 0)).size=(xE res).size):=ι (rF σ hrl);have HNx:=ι (λW=>vK xs W hxl hxu);rw[<-HRi.o] at HNx;clear HNa HNb HRi hxu hxl hik
   go_upto_region 7 with fail
   refine wp_region_lit ?_;refine wpList_load_row rfl _ _ rfl w.heap.size rfl _ (xE xs) (0,0) _ hr.o.ba underlying214 rfl HIx.o ?_;repeat go_step
   refine(HNx.o _).mono ?_;rintro e w7 ⟨rfl,hb7⟩;have h7:=hr.o.below hb7;go_wp2_with (refine wpList_store_row rfl _ _ _ rfl (w.heap.size+1+1) (xE res) rfl rfl _ _ h7.bz HIr.o HZr.o (xR _) ?_)
   refine bodyPost_ret (results_cell_row rfl _ _ (w.heap.size+1+1) _ _ (0,0) _ rfl (setRow_heap _ _ _ _ _ _ h7.bz) underlying214 rfl HIr.o) rfl ?_;exact⟨rfl,below_setRow h7.bel ω _⟩
end Go.Proofs.FE
namespace Mailsack
def yF (y:Int) (k:Nat):Int:=if 5<=k then Go.IntKind.u64.wrap (y*19) else y
theorem yF_u {y:Int} (h:U64 y) (k:Nat):U64 (yF y k):=by
 unfold yF;split
 ·exact wrap_u64 _
 ·exact h
def mT (x y:Int) (k:Nat) (s:List Int×List Int):List Int×List Int:=
 (s.1.set k (Go.IntKind.u64.wrap (s.1.getD k 0+Go.IntKind.u64.wrap (x*y / 18446744073709551616+(s.2.getD k 0+x*y % 18446744073709551616) / 18446744073709551616))),s.2.set k ((s.2.getD k 0+x*y % 18446744073709551616) % 18446744073709551616))
def mS (x:Int) (i:Nat) (b:List Int) (s:List Int×List Int):Nat->List Int×List Int
 |0=>s
 |j+1=>mT x (yF (b.getD j 0) (i+j)) (kK (i+j)) (mS x i b s j)
def mI (a b:List Int):Nat->List Int×List Int
 |0=>(List.replicate 5 0,List.replicate 5 0)
 |i+1=>mS (a.getD i 0) i b (mI a b i) 5
def xMx (s:List Int×List Int):Prop:=s.1.length=5/\s.2.length=5/\yE s.1/\yE s.2
theorem mT_ok (x y:Int) (k:Nat) {s:List Int×List Int} (h:xMx s):xMx (mT x y k s):=by
 obtain⟨h1,h2,h3,h4⟩:=h;exact⟨by simp[mT,h1],by simp[mT,h2],h3.set k (wrap_u64 _),h4.set k (xCt _)⟩
theorem yB7 (x:Int) (i:Nat) (b:List Int) {s:List Int×List Int} (h:xMx s):∀j,xMx (mS x i b s j)
 |0=>h
 |j+1=>mT_ok _ _ _ (yB7 x i b h j)
theorem yB8 (a b:List Int):∀i,xMx (mI a b i)
 |0=>⟨by simp[mI],by simp[mI],xAr 5,xAr 5⟩
 |i+1=>yB7 _ _ _ (yB8 a b i) 5
def prC (hi lo:List Int) (k:Nat):Int:=Go.bits .or .u64 (Go.IntKind.u64.wrap (hi.getD k 0*8192)) (lo.getD k 0 / 2251799813685248)
def prA (lo p:List Int) (k:Nat):List Int:=p.set k (Go.IntKind.u64.wrap (p.getD k 0+Go.bits .and .u64 (lo.getD k 0) 2251799813685247))
def prI (hi lo:List Int):Nat->List Int
 |0=>List.replicate 5 0
 |k+1=>if k+1<5 then(prA lo (prI hi lo k) k).set (k+1) (Go.IntKind.u64.wrap ((prA lo (prI hi lo k) k).getD (k+1) 0+prC hi lo k)) else(prA lo (prI hi lo k) k).set 0 (Go.IntKind.u64.wrap ((prA lo (prI hi lo k) k).getD 0 0+Go.IntKind.u64.wrap (19*prC hi lo k)))
theorem xT0 (lo p:List Int) (k:Nat):(prA lo p k).length=p.length:=by simp[prA]
theorem yAw (lo:List Int) {p:List Int} (h:yE p) (k:Nat):yE (prA lo p k):=h.set k (wrap_u64 _)
theorem xLt (hi lo:List Int):∀k,(prI hi lo k).length=5
 |0=>by simp[prI]
 |k+1=>by
  rw[prI];split<;>simp[xT0,xLt hi lo k]
theorem xXe (hi lo:List Int):∀k,yE (prI hi lo k)
 |0=>xAr 5
 |k+1=>by
  rw[prI];split
  ·exact(yAw lo (xXe hi lo k) k).set _ (wrap_u64 _)
  ·exact(yAw lo (xXe hi lo k) k).set _ (wrap_u64 _)
def xZt (s:List Int×List Int):List Int:=yR (prI s.1 s.2 5)
def uA (a b:List Int):List Int:=xZt (mI (yR a) (yR b) 5)
theorem uM (a b:List Int):(uA a b).length=5:=rfl
theorem qC (a b:List Int):yE (uA a b):=vX _
end Mailsack
namespace Go.Proofs.FE
open Go.RowKit Mailsack MM BB SH
theorem xTg (x y:Int) (hx:U64 x) (hy:U64 y) (w:World):
  Calls prog 251 #[.int .u64 x,.int .u64 y] w λe w'=>e=.returned (.tuple #[.int .u64 (x*y / 18446744073709551616),.int .u64 (x*y % 18446744073709551616)])/\w'=w:=by
 obtain⟨x0,x1⟩:=hx;obtain⟨y0,y1⟩:=hy;have h:=Tryz.bits_Mul64 x.toNat y.toNat ω ω w;have e1:((x.toNat:Nat):Int)=x:=ω;have e2:((y.toNat:Nat):Int)=y:=ω
 have e3:((x.toNat*y.toNat / 18446744073709551616:Nat):Int)=x*y / 18446744073709551616:=by rw[Int.natCast_ediv,Int.natCast_mul,e1,e2];rfl
 have e4:((x.toNat*y.toNat % 18446744073709551616:Nat):Int)=x*y % 18446744073709551616:=by rw[Int.natCast_emod,Int.natCast_mul,e1,e2];rfl
 rw[e1,e2,e3,e4] at h;exact h
structure MuM (w:World) (na nb:List Int) (g:Nat) (s:List Int×List Int) (W:World):Prop where
 two:vB w na nb W
 bh:uB 213 W g s.1
 bl:uB 213 W (g+1) s.2
 ge:w.heap.size+3<=g
section
variable {w W W':World} {na nb:List Int} {g:Nat} {s:List Int×List Int}
theorem MuM.below (h:MuM w na nb g s W) (hb:ψ W W'):MuM w na nb g s W':=⟨h.two.below hb,h.bh.below hb,h.bl.below hb,h.ge⟩
theorem vB.far (h:vB w na nb W) {p:Addr} (hp:w.heap.size+3<=p.block) (u:Value):vB w na nb (W.setCell p u):=
 ⟨h.ba.far ω u,h.bb.far ω u,h.bz.far ω u,h.bel.setCell ω u⟩
theorem MuM.lo (h:MuM w na nb g s W) (k:Nat) (x:Int):MuM w na nb g (s.1,s.2.set k x) (W.setCell ⟨g+1,k,none⟩ (.int .u64 x)):=by
 have hg:=h.ge;exact⟨h.two.far (p:=⟨g+1,k,none⟩) (by simp only[];omega) _,h.bh.far (p:=⟨g+1,k,none⟩) σ _,h.bl.put k x,hg⟩
theorem MuM.hi (h:MuM w na nb g s W) (k:Nat) (x:Int):MuM w na nb g (s.1.set k x,s.2) (W.setCell ⟨g,k,none⟩ (.int .u64 x)):=by
 have hg:=h.ge;exact⟨h.two.far (p:=⟨g,k,none⟩) (by simp only[];omega) _,h.bh.put k x,h.bl.far (p:=⟨g,k,none⟩) σ _,hg⟩
end
structure PrM (w:World) (na nb:List Int) (g:Nat) (s:List Int×List Int) (gp:Nat) (p:List Int) (W:World):Prop where
 mu:MuM w na nb g s W
 bp:uB 214 W gp p
 gt:g+1<gp
section
variable {w W W':World} {na nb:List Int} {g gp:Nat} {s:List Int×List Int} {p:List Int}
theorem PrM.below (h:PrM w na nb g s gp p W) (hb:ψ W W'):PrM w na nb g s gp p W':=⟨h.mu.below hb,h.bp.below hb,h.gt⟩
theorem PrM.drew (h:PrM w na nb g s gp p W):PrM w na nb g s gp p W.drew:=⟨⟨h.mu.two.drew,h.mu.bh,h.mu.bl,h.mu.ge⟩,h.bp,h.gt⟩
theorem PrM.put (h:PrM w na nb g s gp p W) (k:Nat) (x:Int):PrM w na nb g s gp (p.set k x) (W.setCell ⟨gp,k,none⟩ (.int .u64 x)):=by
 have hg:=h.mu.ge;have hp:=h.gt;exact⟨⟨h.mu.two.far (p:=⟨gp,k,none⟩) (by simp only[];omega) _,h.mu.bh.far (p:=⟨gp,k,none⟩) (by simp only[];omega) _,h.mu.bl.far (p:=⟨gp,k,none⟩) (by simp only[];omega) _,hg⟩,h.bp.put k x,hp⟩
end
theorem tT (ax bx:List Int) (w:World) (hl:ax.length=5) (hu:yE ax) (hl2:bx.length=5) (hu2:yE bx):
  Calls prog 161 #[.agg (xE ax),.agg (xE bx)] w λe w'=>e=.returned (.agg (xE (uA ax bx)))/\ψ w w':=by
 have HNa:=ι (λW=>vK ax W hl hu);have HNb:=ι (λW=>vK bx W hl2 hu2);have HIa:=ι (zS hl);have HIb:=ι (zS hl2);have xZ1:=ι (zS (yN ax));have xZ0:=ι (zS (yN bx));have HZa:=ι (rF hl (yN ax));have HZb:=ι (rF hl2 (yN bx));have hna:=yN ax;have hnb:=yN bx;have hua:=vX ax;have hub:=vX bx
 have H0:=ι (vB.start (w:=w) ax bx);have HR:Hid (∀n,n=5->uA ax bx=xZt (mI (yR ax) (yR bx) n)):=ι (λn hn=>by rw[hn];rfl);obtain⟨res,hres⟩:∃x,uA ax bx=x:=⟨_,rfl⟩;have hrl:res.length=5:=by rw[<-hres];rfl
 rw[hres] at HR⊢;clear hres hl hu hl2 hu2;generalize yR ax=na at HNa xZ1 HZa hna hua HR;generalize yR bx=nb at HNb xZ0 HZb hnb hub HR;go_enter func161,ntmps161;go_upto_region 1 with fail
 refine(λ(h:∀W3,Hid (vB w ax bx W3)->Code.wp _ _ _ _ W3)=>h _ H0) ?_;clear H0;intro W0 H0;refine RG.yM 6 (λL W=>Hid (vB w (if L 4 then na else ax) (if L 5 then nb else bx) W)) (λL L' W h hI=>by rw[<-h 4 δ,<-h 5 δ];exact hI) κ κ rfl (ι H0.o.drew) ?_;clear H0;apply RG.xN
 ·rfl
 ·rfl
 ·intro L w9 h0 hcl xP hw9;have e1:=hcl.not 6 (i:=4) h0 κ;have hs9:=hw9.o.ba;rw[e1,if_neg σ] at hs9;refine wpList_load_row rfl _ _ rfl w.heap.size rfl _ (xE ax) (0,0) _ hs9 underlying214 rfl HIa.o ?_;repeat go_step
  refine RG.xB ?_;exact⟨xP,hw9⟩
 ·rfl
 apply RG.xN
 ·rfl
 ·rfl
 ·intro L w9 h0 hcl xP hw9;repeat go_step
  refine(HNa.o _).mono ?_;rintro e w10 ⟨rfl,yP⟩;simp only[];repeat go_step
  refine RG.xB ?_;exact⟨xP,ι (hw9.o.below yP)⟩
 ·rfl
 apply RG.xN
 ·rfl
 ·rfl
 ·intro L w9 h0 hcl xP hw9;have e1:=hcl.not 6 (i:=5) h0 κ;have hs9:=hw9.o.bb;rw[e1,if_neg σ] at hs9;refine wpList_load_row rfl _ _ rfl (w.heap.size+1) rfl _ (xE bx) (0,0) _ hs9 underlying214 rfl HIb.o ?_;repeat go_step
  refine RG.xB ?_;exact⟨xP,hw9⟩
 ·rfl
 apply RG.xN
 ·rfl
 ·rfl
 ·intro L w9 h0 hcl xP hw9;repeat go_step
  refine(HNb.o _).mono ?_;rintro e w10 ⟨rfl,yP⟩;simp only[];repeat go_step
  refine RG.xB ?_;exact⟨xP,ι (hw9.o.below yP)⟩
 ·rfl
 apply RG.xN
 ·rfl
 ·rfl
 ·intro L w9 h0 hcl xP hw9;have hs9:=hw9.o;rw[h0,if_neg σ] at hs9;refine wpList_store_row rfl _ _ _ rfl w.heap.size (xE na) rfl rfl _ _ hs9.ba xZ1.o HZa.o (xR _) ?_;repeat go_step
  refine RG.xB ?_;exact⟨xP,ι (hs9.rowA na)⟩
 ·rfl
 apply RG.xN
 ·rfl
 ·rfl
 ·intro L w9 h0 hcl xP hw9;have hs9:=hw9.o;rw[h0,if_neg (c:=false=true) σ] at hs9;refine wpList_store_row rfl _ _ _ rfl (w.heap.size+1) (xE nb) rfl rfl _ _ hs9.bb xZ0.o HZb.o (xR _) ?_;repeat go_step
  refine RG.xB ?_;exact⟨xP,ι (hs9.rowB nb)⟩
 ·rfl
 refine RG.xY (λw9 hw9=>?_);rw[if_pos rfl,if_pos rfl] at hw9;have HS0:Hid (xMx (mI na nb 0)):=ι (yB8 na nb 0);have HG:Hid (w.heap.size+3<=w9.heap.size):=ι (by have:=xJ hw9.o.bz;omega)
 have H1:Hid (MuM w na nb w9.heap.size (mI na nb 0) ((w9.alloc (.cells (xE (List.replicate 5 0)) 213)).alloc (.cells (xE (List.replicate 5 0)) 213))):=ι ⟨(hw9.o.below (φ w9 (.cells (xE (List.replicate 5 0)) 213))).below ((Below.refl _ _).alloc ν _),zK _ _ _,zD _ _ _,HG.o⟩
 have HL:=ι (λi=>yB8 na nb i);have HPS:Hid (∀i n,n=5->mI na nb (i+1)=mS (na.getD i 0) i nb (mI na nb i) n):=ι (λi n hn=>by rw[hn];rfl);go_upto_region 3 with fail
 refine(λ(h:∀W3,Hid (MuM w na nb w9.heap.size (mI na nb 0) W3)->Code.wp _ _ _ _ W3)=>h _ H1) ?_;clear H1 HG hw9;generalize w9.heap.size=g;intro W1 H1;refine wp_region_lit ?_
 refine wpList_load_row rfl _ _ rfl w.heap.size rfl _ (xE na) (0,0) _ H1.o.two.ba underlying214 rfl xZ1.o ?_;go_wp2_with fail
 go_loopw [23] (λiv W=>∃i:Nat,i<=5/\iv=.int .i64 i/\Hid (MuM w na nb g (mI na nb i) W)) (λiv _=>5- (intOf iv).toNat)
 case atStart=>exact⟨0,δ,rfl,H1⟩
 case round=>
  clear H1
  rename World=>wi
  obtain⟨i,hi,rfl,hr⟩:=hrel
  by_cases hlt:i<5
  ·have HS:=ι (HPS.o i);have hl0:=HL.o i;obtain⟨x,hx⟩:∃x,na.getD i 0=x:=⟨_,rfl⟩;have ux:=hua i;rw[hx] at ux HS;have ix:=λW=>vW (P:=prog) underlying214 underlying212 κ (xE na) (.int .u64 x) i hlt (by rw[xAc ω,hx]) W;obtain⟨d1,hd1⟩:∃d,mI na nb (i+1)=d:=⟨_,rfl⟩
   rw[hd1] at HS;have HD1:=ι hd1;clear hd1;generalize mI na nb i=d0 at hr hl0 HS;have HT0:Hid (MuM w na nb g (mS x i nb d0 0) wi):=ι hr.o;have HTS:Hid (∀j,mS x i nb d0 (j+1)=mT x (yF (nb.getD j 0) (i+j)) (kK (i+j)) (mS x i nb d0 j)):=ι (λj=>rfl)
   have HTL:Hid (∀j,xMx (mS x i nb d0 j)):=ι (λj=>yB7 _ _ _ hl0 j);have HX:=ι ux;have HBU:=ι hub;have hrr:=hr;have HUA:=ι hua;clear hr hx ux hl0 hua hub;go_upto_region 6 with fail
   clear ix;refine wp_region_lit ?_;refine wpList_load_row rfl _ _ rfl (w.heap.size+1) rfl _ (xE nb) (0,0) _ hrr.o.two.bb underlying214 rfl xZ0.o ?_;clear hrr;go_wp2_with fail
   go_loopw [28] (λjv W=>∃j:Nat,j<=5/\jv=.int .i64 j/\Hid (MuM w na nb g (mS x i nb d0 j) W)) (λjv _=>5- (intOf jv).toNat)
   case atStart=>exact⟨0,δ,rfl,HT0⟩
   case round=>
    clear HT0
    rename World=>wj
    obtain⟨j,hj,rfl,hr⟩:=hrel
    by_cases hlt2:j<5
    ·have hTS:=HTS.o j;obtain⟨hTL1,hTL2,hTU1,hTU2⟩:=HTL.o j;obtain⟨t1,ht1⟩:∃t,mS x i nb d0 (j+1)=t:=⟨_,rfl⟩;rw[ht1] at hTS;have HT1:=ι ht1;clear ht1;generalize mS x i nb d0 j=t0 at hr hTS hTL1 hTL2 hTU1 hTU2;obtain⟨y,hy⟩:∃y,nb.getD j 0=y:=⟨_,rfl⟩;have uy:=HBU.o j
     rw[hy] at uy hTS;have uyf:=yF_u uy (i+j);have ix:=λW=>vW (P:=prog) underlying214 underlying212 κ (xE nb) (.int .u64 y) j hlt2 (by rw[xAc ω,hy]) W;have hK:kK (i+j)<5:=by unfold kK;split<;>omega
     have h1:=hTU1 (kK (i+j));have h2:=hTU2 (kK (i+j));unfold mT at hTS;obtain⟨yy,hyy⟩:∃yy,yF y (i+j)=yy:=⟨_,rfl⟩;rw[hyy] at uyf hTS;obtain⟨x0,x1⟩:=HX.o;obtain⟨y0,y1⟩:=uyf
     have HM:Hid (∀W,Calls prog 251 #[.int .u64 x,.int .u64 yy] W λe w'=>e=.returned (.tuple #[.int .u64 (x*yy / 18446744073709551616),.int .u64 (x*yy % 18446744073709551616)])/\w'=W):=ι (λW=>xTg x yy ⟨x0,x1⟩ ⟨y0,y1⟩ W);have hpl:=xCt (x*yy)
     have hph:0<=x*yy / 18446744073709551616/\x*yy / 18446744073709551616<18446744073709551616:=by
      have m0:0<=x*yy:=Int.mul_nonneg x0 y0;have m1:x*yy<=18446744073709551615*18446744073709551615:=Int.mul_le_mul ω ω y0 δ;omega
     generalize x*yy / 18446744073709551616=ph at HM hTS hph;generalize x*yy % 18446744073709551616=pl at HM hTS hpl;generalize hk:kK (i+j)=k at hK h1 h2 hTS;have q0:=hr.o.bl.cell (i:=k) ω;have q1:=hr.o.bh.cell (i:=k) ω;have f0:=hr.o.bl.free k;have f1:=hr.o.bh.free k
     obtain⟨l,hlv⟩:∃l,t0.2.getD k 0=l:=⟨_,rfl⟩;obtain⟨hh,hhv⟩:∃l,t0.1.getD k 0=l:=⟨_,rfl⟩;rw[hlv] at q0 h2 hTS;rw[hhv] at q1 h1 hTS;obtain⟨l0,l1⟩:=h2;obtain⟨hh0,hh1⟩:=h1;obtain⟨p0,p1⟩:=hpl;obtain⟨r0,r1⟩:=hph
     have HP:=ι ((hr.o.lo k ((l+pl) % 18446744073709551616)).hi k (IntKind.u64.wrap (hh+IntKind.u64.wrap (ph+(l+pl) / 18446744073709551616))));rw[<-hTS] at HP
     have A1:∀W,(callFunc 252 #[.int .u64 l,.int .u64 pl,.int .u64 0]).run prog W=.ok (.value (.tuple #[.int .u64 ((l+pl) % 18446744073709551616),.int .u64 ((l+pl) / 18446744073709551616)])) W:=λW=>by
      have h:=yCf l pl 0 l0 p0 δ δ W;rw[Int.add_zero] at h;exact h
     have hc0:0<=(l+pl) / 18446744073709551616:=ω;have hc1:(l+pl) / 18446744073709551616<18446744073709551616:=ω;obtain⟨ls0,ls1⟩:=xCt (l+pl);generalize (l+pl) % 18446744073709551616=ls at HP A1 ls0 ls1;generalize (l+pl) / 18446744073709551616=cs at HP A1 hc0 hc1
     clear hTS hr hlv hhv hy l0 l1 hTL1 hTL2 hTU1 hTU2 uy
     by_cases h5:5<=i+j
     ·have hk5:kK (i+j)=i+j-5:=if_pos h5;have hy5:yF y (i+j)=IntKind.u64.wrap (y*19):=if_pos h5;rw[hyy] at hy5;rw[hk] at hk5;have hii:(i:Int)+(j:Int)=(k:Int)+5:=ω;have h5i:(5:Int)<=(k:Int)+5:=ω;have HY5:=ι hy5.symm;clear hk5 h5 hy5 hk hyy;go_upto_region 13 with fail
      rw[HY5.o];go_wp2_with fail
      refine(HM.o _).mono ?_;rintro e w3 ⟨rfl,rfl⟩;go_wp2;exact⟨⟨j+1,ω,by go_num,by rw[HT1.o];exact HP⟩,by simp[intOf];omega⟩
     ·have hk5:kK (i+j)=i+j:=if_neg h5;have hy5:yF y (i+j)=y:=if_neg h5;rw[hyy] at hy5;rw[hk] at hk5;have hii:(i:Int)+(j:Int)=(k:Int):=ω;have h5i:¬((5:Int)<=(k:Int)):=ω;subst hy5;clear hk5 h5 hk hyy;go_upto_region 13 with fail
      go_wp2_with fail
      refine(HM.o _).mono ?_;rintro e w3 ⟨rfl,rfl⟩;go_wp2;exact⟨⟨j+1,ω,by go_num,by rw[HT1.o];exact HP⟩,by simp[intOf];omega⟩
    ·have hje:j=5:=ω;have hneg:¬((j:Int)<5):=ω;have HS1:=ι (HS.o j hje);clear hje hlt2 hj HTS HTL HS;go_wp2;exact⟨⟨i+1,ω,by go_num,by rw[HD1.o,HS1.o];exact hr⟩,by simp[intOf];omega⟩
  ·have hie:i=5:=ω;have hneg:¬((i:Int)<5):=ω;have HP:=ι (HR.o i hie);obtain⟨hs1,hs2,hs3,hs4⟩:=HL.o i;generalize mI na nb i=s at hr HP hs1 hs2 hs3 hs4;have HE:Hid (∀n,n=5->res=yR (prI s.1 s.2 n)):=ι (λn hn=>by rw[hn];exact HP.o);clear HP HPS HR HL hie HNa HNb hua hub
   have H5:Hid (PrM w na nb g s wi.heap.size (prI s.1 s.2 0) (wi.alloc (.cells (xE (List.replicate 5 0)) 214))):=ι ⟨hr.o.below (φ wi _),xI _ _,xJ hr.o.bl⟩;go_upto_region 20 with fail
   refine(λ(h:∀W3,Hid (PrM w na nb g s wi.heap.size (prI s.1 s.2 0) W3)->Code.wp _ _ _ _ W3)=>h _ H5) ?_;clear H5 hr hneg hlt hi;generalize wi.heap.size=gp;intro W5 H5;go_wp2_with fail
   go_loopw [67] (λkv W=>∃k:Nat,k<=5/\kv=.int .i64 k/\Hid (PrM w na nb g s gp (prI s.1 s.2 k) W)) (λkv _=>5- (intOf kv).toNat)
   case atStart=>exact⟨0,δ,rfl,H5⟩
   case round=>
    clear H5
    rename World=>wk
    obtain⟨k,hk,rfl,hr⟩:=hrel
    by_cases hlk:k<5
    ·have hpl:=xLt s.1 s.2 k;have hpu:=xXe s.1 s.2 k;have HC:Hid (prC s.1 s.2 k=bits .or .u64 (IntKind.u64.wrap (s.1.getD k 0*8192)) (s.2.getD k 0 / 2251799813685248)):=ι rfl;obtain⟨h,hh⟩:∃h,s.1.getD k 0=h:=⟨_,rfl⟩;obtain⟨l,hl⟩:∃l,s.2.getD k 0=l:=⟨_,rfl⟩;obtain⟨h0,h1⟩:=hs3 k
     obtain⟨l0,l1⟩:=hs4 k;rw[hh] at h0 h1 HC;rw[hl] at l0 l1 HC;have HA:Hid (prA s.2 (prI s.1 s.2 k) k=(prI s.1 s.2 k).set k (IntKind.u64.wrap ((prI s.1 s.2 k).getD k 0+bits .and .u64 l 2251799813685247))):=ι (by rw[<-hl];rfl);have hal:=xT0 s.2 (prI s.1 s.2 k) k
     have hau:=yAw s.2 hpu k
     have HSt:Hid (∀j,j=k+1->prI s.1 s.2 j=if j<5 then(prA s.2 (prI s.1 s.2 k) k).set j (IntKind.u64.wrap ((prA s.2 (prI s.1 s.2 k) k).getD j 0+prC s.1 s.2 k)) else(prA s.2 (prI s.1 s.2 k) k).set 0 (IntKind.u64.wrap ((prA s.2 (prI s.1 s.2 k) k).getD 0 0+IntKind.u64.wrap (19*prC s.1 s.2 k)))):=ι (λj hj=>by rw[hj];rfl)
     obtain⟨c,hc⟩:∃c,prC s.1 s.2 k=c:=⟨_,rfl⟩;rw[hc] at HC HSt;have hcu:U64 c:=by rw[HC.o];exact yJ _ _ _
     obtain⟨c0,c1⟩:=hcu;have hcc:=HC.o.symm;obtain⟨pa,hpa⟩:∃pa,prA s.2 (prI s.1 s.2 k) k=pa:=⟨_,rfl⟩;rw[hpa] at HA hal hau HSt;generalize prI s.1 s.2 k=p0 at hr hpl hpu HA hal;clear hpa hc;obtain⟨x,hx⟩:∃x,p0.getD k 0=x:=⟨_,rfl⟩;obtain⟨x0,x1⟩:=hpu k;rw[hx] at x0 x1 HA
     obtain⟨m,hm⟩:∃m,bits .and .u64 l 2251799813685247=m:=⟨_,rfl⟩;obtain⟨m0,m1⟩:=hm▸yJ .and l 2251799813685247;rw[hm] at HA;obtain⟨z,hz⟩:∃z,IntKind.u64.wrap (x+m)=z:=⟨_,rfl⟩;rw[hz] at HA;go_upto_region 23 with fail
     refine RG.xH (λW=>Hid (PrM w na nb g s gp p0 W)) κ κ (ι hr.o.drew) ?_
     iterate 10
      apply RG.xG
      ·intro w9 hw9;have q1:=hw9.o.mu.bh.cell (i:=k) ω;have q2:=hw9.o.mu.bl.cell (i:=k) ω;rw[hh] at q1;rw[hl] at q2;repeat go_step
       exact RG.xB hw9
      ·rfl
     refine RG.xL (λw9 hw9=>?_);clear hr;go_upto_region 24 with fail
     refine RG.yM 10 (λL W=>Hid (PrM w na nb g s gp (if L 9 then p0.set k z else p0) W)) (λL L' W h hI=>by rw[<-h 9 δ];exact hI) κ κ rfl (ι hw9.o.drew) ?_;clear hw9;iterate 2 refine RG.cS ?_
     apply RG.xN
     ·rfl
     ·rfl
     ·intro L w9 h0 hcl xP hw9;have e1:=hcl.not 10 (i:=9) h0 κ;have hs9:=hw9.o;rw[e1,if_neg σ] at hs9;have q:=hs9.bp.cell (i:=k) ω;rw[hx] at q;clear e1 hs9;repeat go_step
      refine RG.xB ?_;exact⟨xP,hw9⟩
     ·rfl
     iterate 2 refine RG.cS ?_
     apply RG.xN
     ·rfl
     ·rfl
     ·intro L w9 h0 hcl xP hw9;have q2:=hw9.o.mu.bl.cell (i:=k) ω;rw[hl] at q2;repeat go_step
      refine RG.xB ?_;exact⟨xP,hw9⟩
     ·rfl
     iterate 3 refine RG.cS ?_
     apply RG.xN
     ·rfl
     ·rfl
     ·intro L w9 h0 hcl xP hw9;have hs9:=hw9.o;rw[h0,if_neg σ] at hs9;have q1:=hs9.bp.cell (i:=k) ω;have q2:=hs9.bp.free k;rw[hx] at q1;have hp:Hid (PrM w na nb g s gp (p0.set k z) (w9.setCell ⟨gp,k,none⟩ (.int .u64 z))):=ι (hs9.put k z);clear hs9;repeat go_step
      refine RG.xB ?_;refine⟨xP,?_⟩;show Hid (PrM w na nb g s gp (if (true:Bool)=true then p0.set k z else p0) _);rw[if_pos rfl];with_reducible exact hp
     ·rfl
     refine RG.xY (λw9 hw9=>?_);rw[if_pos rfl,<-HA.o] at hw9;clear hx hm hz hcc hh hl h0 h1 l0 l1 x0 x1 m0 m1 HA
     by_cases hk1:k+1<5
     ·have HN:=ι (HSt.o (k+1) rfl);rw[if_pos hk1] at HN;have hki:(k:Int)+1<5:=ω;have q1:=hw9.o.bp.cell (i:=k+1) ω;have q2:=hw9.o.bp.free (k+1);have hv:=hau (k+1);obtain⟨v,hvv⟩:∃v,pa.getD (k+1) 0=v:=⟨_,rfl⟩;rw[hvv] at q1 hv HN;obtain⟨v0,v1⟩:=hv
      have HF:=ι (hw9.o.put (k+1) (IntKind.u64.wrap (v+c)));rw[<-HN.o] at HF;clear hw9 hk1 hvv HSt HN;go_wp2;exact⟨⟨k+1,ω,by go_num,HF⟩,by simp[intOf];omega⟩
     ·have HN:=ι (HSt.o (k+1) rfl);rw[if_neg hk1] at HN;have hki:¬((k:Int)+1<5):=ω;have q1:=hw9.o.bp.cell (i:=0) ω;have q2:=hw9.o.bp.free 0;have hv:=hau 0;obtain⟨v,hvv⟩:∃v,pa.getD 0 0=v:=⟨_,rfl⟩;rw[hvv] at q1 hv HN;obtain⟨v0,v1⟩:=hv
      have HF:=ι (hw9.o.put 0 (IntKind.u64.wrap (v+IntKind.u64.wrap (19*c))));rw[<-HN.o] at HF;clear hw9 hk1 hvv HSt HN;go_wp2;exact⟨⟨k+1,ω,by go_num,HF⟩,by simp[intOf];omega⟩
    ·have hke:k=5:=ω;have HRi:=ι (HE.o k hke);have hxl:=xLt s.1 s.2 k;have hxu:=xXe s.1 s.2 k;generalize prI s.1 s.2 k=xs at hr hxl hxu HRi;have HIx:=ι (zS hxl);have HIr:=ι (zS hrl);have HZr:Hid ((xE (List.replicate 5 0)).size=(xE res).size):=ι (rF σ hrl)
     have HNx:=ι (λW=>vK xs W hxl hxu);rw[<-HRi.o] at HNx;have hneg:¬((k:Int)<5):=ω;clear HRi hxu hxl hke hlk hk HE;go_upto_region 29 with fail
     refine wp_region_lit ?_;refine wpList_load_row rfl _ _ rfl gp rfl _ (xE xs) (0,0) _ hr.o.bp underlying214 rfl HIx.o ?_;repeat go_step
     refine(HNx.o _).mono ?_;rintro e w7 ⟨rfl,hb7⟩;have h7:=(hr.o.below hb7).mu.two;go_wp2_with (refine wpList_store_row rfl _ _ _ rfl (w.heap.size+1+1) (xE res) rfl rfl _ _ h7.bz HIr.o HZr.o (xR _) ?_)
     refine bodyPost_ret (results_cell_row rfl _ _ (w.heap.size+1+1) _ _ (0,0) _ rfl (setRow_heap _ _ _ _ _ _ h7.bz) underlying214 rfl HIr.o) rfl ?_;exact⟨rfl,below_setRow h7.bel ω _⟩
end Go.Proofs.FE
namespace Mailsack
def ovI (n:List Int):Nat->Int
 |0=>Go.IntKind.u64.wrap (n.getD 0 0+19) / 2251799813685248
 |k+1=>Go.IntKind.u64.wrap (n.getD (k+1) 0+ovI n k) / 2251799813685248
theorem yC4 (x:Int):0<=Go.IntKind.u64.wrap x / 2251799813685248/\Go.IntKind.u64.wrap x / 2251799813685248<8192:=by
 have ⟨h0,h1⟩:=wrap_u64 x;omega
theorem ovI_lt (n:List Int):∀k,0<=ovI n k/\ovI n k<8192
 |0=>yC4 _
 |_+1=>yC4 _
def lcI (n:List Int) (o:Int):Nat->List Int×Int
 |0=>(n,19*o)
 |i+1=>((lcI n o i).1.set i (Go.bits .and .u64 (Go.IntKind.u64.wrap ((lcI n o i).1.getD i 0+(lcI n o i).2)) 2251799813685247),Go.IntKind.u64.wrap ((lcI n o i).1.getD i 0+(lcI n o i).2) / 2251799813685248)
theorem xM5 (n:List Int) (o:Int):∀i,(lcI n o i).1.length=n.length
 |0=>rfl
 |i+1=>by simp[lcI,xM5 n o i]
theorem yBb {n:List Int} (o:Int) (h:yE n):∀i,yE (lcI n o i).1
 |0=>h
 |i+1=>(yBb o h i).set i (yJ _ _ _)
theorem lcI_c (n:List Int) {o:Int} (h0:0<=o) (h1:o<8192):∀i,0<=(lcI n o i).2/\(lcI n o i).2<200000
 |0=>by simp[lcI];omega
 |i+1=>by
  have:=yC4 ((lcI n o i).1.getD i 0+(lcI n o i).2);simp only[lcI];omega
def pW (a:List Int):List Int:=(lcI (yR a) (ovI (yR a) 4) 5).1
theorem xB7 (a:List Int):(pW a).length=5:=by rw[pW,xM5];rfl
theorem xUs (a:List Int):yE (pW a):=yBb _ (vX a) 5
def xCw (a:List Int) (n:Int):List Int:=uA a [n,0,0,0,0]
def sqI (a:List Int):Nat->List Int
 |0=>a
 |k+1=>uA (sqI a k) (sqI a k)
theorem xEc {a:List Int} (h:a.length=5):∀k,(sqI a k).length=5
 |0=>h
 |_+1=>uM _ _
theorem yAp {a:List Int} (h:yE a):∀k,yE (sqI a k)
 |0=>h
 |_+1=>qC _ _
end Mailsack
namespace Go.Proofs.FE
open Go.RowKit Mailsack MM BB SH
structure xFj (w:World) (ax:List Int) (W:World):Prop where
 ba:uB 214 W w.heap.size ax
 bz:uB 214 W (w.heap.size+1) (List.replicate 5 0)
 bel:ψ w W
section
variable {w W W':World} {ax:List Int}
theorem xFj.start (ax:List Int):xFj w ax ((w.alloc (.cells (xE ax) 214)).alloc (.cells (xE (List.replicate 5 0)) 214)):=
 ⟨zK _ _ _,zD _ _ _,(φ w _).alloc σ _⟩
theorem xFj.below (h:xFj w ax W) (hb:ψ W W'):xFj w ax W':=⟨h.ba.below hb,h.bz.below hb,h.bel.trans (hb.mono h.bel.size)⟩
theorem xFj.put (h:xFj w ax W) (i:Nat) (x:Int):xFj w (ax.set i x) (W.setCell ⟨w.heap.size,i,none⟩ (.int .u64 x)):=
 ⟨h.ba.put i x,h.bz.far (p:=⟨w.heap.size,i,none⟩) σ _,h.bel.setCell (p:=⟨w.heap.size,i,none⟩) ν _⟩
theorem xFj.row (h:xFj w ax W) (xs:List Int):xFj w xs (W.setRow w.heap.size (xE xs)):=
 ⟨setRow_heap _ _ _ _ _ _ h.ba,(setRow_other _ _ _ _ ω).trans h.bz,below_setRow h.bel ν _⟩
end
theorem xSm (ax:List Int) (n:Int) (w:World) (hl:ax.length=5) (hu:yE ax) (hn0:0<=n) (hn1:n<4294967296):
  Calls prog 248 #[.agg (xE ax),.int .u32 n] w λe w'=>e=.returned (.agg (xE (xCw ax n)))/\ψ w w':=by
 have HM:Hid (∀W,Calls prog 161 #[.agg (xE ax),.agg #[.int .u64 n,.int .u64 0,.int .u64 0,.int .u64 0,.int .u64 0]] W λe w'=>e=.returned (.agg (xE (xCw ax n)))/\ψ W w'):=ι (λW=>tT ax [n,0,0,0,0] W hl hu rfl (xCg ⟨hn0,ω⟩ ⟨δ,δ⟩ ⟨δ,δ⟩ ⟨δ,δ⟩ ⟨δ,δ⟩))
 have hrl:(xCw ax n).length=5:=rfl;have HI:=ι (zS hl);have H0:=ι (xFj.start (w:=w) ax);generalize xCw ax n=res at HM hrl⊢;have HIr:=ι (zS hrl);have HZr:Hid ((xE (List.replicate 5 0)).size=(xE res).size):=ι (rF σ hrl);clear hl hu;go_enter func248,ntmps248
 go_upto_region 1 with fail
 refine(λ(h:∀W3,Hid (xFj w ax W3)->Code.wp _ _ _ _ W3)=>h _ H0) ?_;clear H0;intro W0 H0;refine wp_region_lit ?_;refine wpList_load_row rfl _ _ rfl w.heap.size rfl _ (xE ax) (0,0) _ H0.o.ba underlying214 rfl HI.o ?_;repeat go_step
 refine(HM.o _).mono ?_;rintro e w7 ⟨rfl,hb7⟩;have h7:=H0.o.below hb7;go_wp2_with (refine wpList_store_row rfl _ _ _ rfl (w.heap.size+1) (xE res) rfl rfl _ _ h7.bz HIr.o HZr.o (xR _) ?_)
 refine bodyPost_ret (results_cell_row rfl _ _ (w.heap.size+1) _ _ (0,0) _ rfl (setRow_heap _ _ _ _ _ _ h7.bz) underlying214 rfl HIr.o) rfl ?_;exact⟨rfl,below_setRow h7.bel ω _⟩
theorem xLe (ax:List Int) (n:Nat) (w:World) (hl:ax.length=5) (hu:yE ax) (hn:n<=1000):
  Calls prog 253 #[.agg (xE ax),.int .i64 n] w λe w'=>e=.returned (.agg (xE (sqI ax n)))/\ψ w w':=by
 have HM:Hid (∀k W,Calls prog 161 #[.agg (xE (sqI ax k)),.agg (xE (sqI ax k))] W λe w'=>e=.returned (.agg (xE (sqI ax (k+1))))/\ψ W w'):=ι (λk W=>tT _ _ W (xEc hl k) (yAp hu k) (xEc hl k) (yAp hu k))
 have HI:Hid (∀k,(prog.info? 214).map (·.size)=some (xE (sqI ax k)).size):=ι (λk=>zS (xEc hl k));have HZ:Hid (∀k,(xE (sqI ax k)).size=5):=ι (λk=>by rw[xQ,xEc hl k]);have H0:Hid (xFj w (sqI ax 0) _):=ι (xFj.start (w:=w) ax);have HL:=ι hl;clear hl hu
 go_enter func253,ntmps253;go_upto_region 1 with fail
 refine(λ(h:∀W3,Hid (xFj w (sqI ax 0) W3)->Code.wp _ _ _ _ W3)=>h _ H0) ?_;clear H0;intro W0 H0;go_wp2_with fail
 go_loopw [6] (λiv W=>∃k:Nat,k<=n/\iv=.int .i64 k/\Hid (xFj w (sqI ax k) W)) (λiv _=>n- (intOf iv).toNat)
 case atStart=>exact⟨0,Nat.zero_le _,rfl,H0⟩
 case round=>
  clear H0;obtain⟨k,hk,rfl,hr⟩:=hrel
  by_cases hlt:k<n
  ·have HMk:=ι (HM.o k);have HIk:=ι (HI.o k);have HIn:=ι (HI.o (k+1));have HZk:Hid ((xE (sqI ax k)).size=(xE (sqI ax (k+1))).size):=ι (by rw[HZ.o,HZ.o]);obtain⟨s1,hs1⟩:∃s,sqI ax (k+1)=s:=⟨_,rfl⟩;rw[hs1] at HMk HIn HZk;have HS1:=ι hs1;clear hs1
   generalize sqI ax k=s0 at hr HMk HIk HZk;go_upto_region 3 with fail
   refine wp_region_lit ?_;refine wpList_load_row rfl _ _ rfl w.heap.size rfl _ (xE s0) (0,0) _ hr.o.ba underlying214 rfl HIk.o ?_;refine wpList_load_row rfl _ _ rfl w.heap.size rfl _ (xE s0) (0,0) _ hr.o.ba underlying214 rfl HIk.o ?_;repeat go_step
   refine(HMk.o _).mono ?_;rintro e w7 ⟨rfl,hb7⟩;have h7:=hr.o.below hb7;have h8:=ι (h7.row s1);go_wp2_with (refine wpList_store_row rfl _ _ _ rfl w.heap.size (xE s1) rfl rfl _ _ h7.ba HIn.o HZk.o (xR _) ?_)
   exact⟨⟨k+1,ω,by go_num,by rw[HS1.o];exact h8⟩,by simp[intOf];omega⟩
  ·have hke:k=n:=ω;subst hke;have HIr:=ι (HI.o k);have HZr:Hid ((xE (List.replicate 5 0)).size=(xE (sqI ax k)).size):=ι (by rw[HZ.o];rfl);clear HM;obtain⟨res,hres⟩:∃res,sqI ax k=res:=⟨_,rfl⟩
   have HE:Hid (Ending.returned (Value.agg (xE res))=.returned (.agg (xE (sqI ax k)))):=ι (by rw[hres]);rw[hres] at hr HIr HZr;clear hk hlt hres;go_upto_region 5 with fail
   refine wp_region_lit ?_;refine wpList_load_row rfl _ _ rfl w.heap.size rfl _ (xE res) (0,0) _ hr.o.ba underlying214 rfl HIr.o ?_;refine wpList_store_row rfl _ _ _ rfl (w.heap.size+1) (xE res) rfl rfl _ _ hr.o.bz HIr.o HZr.o (xR _) ?_;go_wp2
   refine bodyPost_ret (results_cell_row rfl _ _ (w.heap.size+1) _ _ (0,0) _ rfl (setRow_heap _ _ _ _ _ _ hr.o.bz) underlying214 rfl HIr.o) rfl ?_;exact⟨(by first|rfl|exact HE.o),below_setRow hr.o.bel ω _⟩
theorem xMg (ax:List Int) (w:World) (hl:ax.length=5) (hu:yE ax):
  Calls prog 249 #[.agg (xE ax)] w λe w'=>e=.returned (.agg (xE (pW ax)))/\ψ w w':=by
 have HN:=ι (λW=>vK ax W hl hu);have HIa:=ι (zS hl);have HIn:=ι (zS (yN ax));have HZa:=ι (rF hl (yN ax));have hnl:=yN ax;have hnu:=vX ax;have H0:=ι (xFj.start (w:=w) ax);have HR:Hid (∀m n,m=4->n=5->pW ax=(lcI (yR ax) (ovI (yR ax) m) n).1):=ι (λm n hm hn=>by rw[hm,hn];rfl)
 obtain⟨res,hres⟩:∃x,pW ax=x:=⟨_,rfl⟩;rw[hres] at HR⊢;clear hl hu hres;generalize yR ax=na at HN HIn HZa hnl hnu HR;go_enter func249,ntmps249;go_upto_region 1 with fail
 refine(λ(h:∀W3,Hid (xFj w ax W3)->Code.wp _ _ _ _ W3)=>h _ H0) ?_;clear H0;intro W0 H0;refine wp_region_lit ?_;refine wpList_load_row rfl _ _ rfl w.heap.size rfl _ (xE ax) (0,0) _ H0.o.ba underlying214 rfl HIa.o ?_;repeat go_step
 refine(HN.o _).mono ?_;rintro e w7 ⟨rfl,hb7⟩;have h7:=H0.o.below hb7;have H8:=ι (h7.row na);have HV:=ι (λk=>ovI_lt na k);have HV0:Hid (ovI na 0=IntKind.u64.wrap (na.getD 0 0+19) / 2251799813685248):=ι rfl;obtain⟨v,hv⟩:∃v,na.getD 0 0=v:=⟨_,rfl⟩;rw[hv] at HV0
 obtain⟨v0,v1⟩:=hv▸hnu 0;obtain⟨o0,ho0⟩:∃o,ovI na 0=o:=⟨_,rfl⟩;rw[ho0] at HV0;have HO0:=ι ho0;have q0:=H8.o.ba.cell (i:=0) ω;rw[hv] at q0;have HU0:=ι (wrap_u64 (v+19));clear ho0 hv H0 hb7
 go_wp2_with (refine wpList_store_row rfl _ _ _ rfl w.heap.size (xE na) rfl rfl _ _ h7.ba HIn.o HZa.o (xR _) ?_)
 clear q0 h7;generalize w7.setRow w.heap.size (xE na)=w8 at H8⊢
 go_loopw [3,4] (λov iv W=>∃i k:Nat,i=k+1/\k<=4/\iv=.int .i64 i/\ov=.int .u64 (ovI na k)/\Hid (xFj w na W)) (λ_ iv _=>5- (intOf iv).toNat)
 case atStart=>exact⟨1,0,rfl,δ,rfl,by rw[HO0.o,HV0.o],H8⟩
 case round=>
  obtain⟨i,k,hik,hk,rfl,rfl,hr⟩:=hrel;clear H8;obtain⟨o1,o2⟩:=HV.o k
  by_cases hlt:i<5
  ·have HS:Hid (∀j,j=k+1->ovI na (k+1)=IntKind.u64.wrap (na.getD j 0+ovI na k) / 2251799813685248):=ι (λj hj=>by rw[hj];rfl)
   replace HS:=ι (HS.o i hik)
   obtain⟨s,hs⟩:∃s,ovI na (k+1)=s:=⟨_,rfl⟩;rw[hs] at HS;have HSE:=ι hs;have q0:=hr.o.ba.cell (i:=i) ω;obtain⟨x0,x1⟩:=hnu i;generalize ovI na k=o at o1 o2 HS⊢;generalize na.getD i 0=x at q0 x0 x1 HS;have HIK:=ι hik;have HB:=ι (wrap_u64 (x+o));clear hs hik v0 v1;go_wp2
   exact⟨⟨i+1,k+1,by rw[HIK.o],by have:=HIK.o;omega,by go_num,by rw[HSE.o,HS.o],hr⟩,by simp[intOf];omega⟩
  ·have hke:k=4:=ω;have HRk:=ι (λn hn=>HR.o k n hke hn);have HLC:=ι (λi=>lcI_c na o1 o2 i);have HLL:=ι (λi=>xM5 na (ovI na k) i);have HLU:=ι (λi=>yBb (ovI na k) hnu i);have H9:Hid (xFj w (lcI na (ovI na k) 0).1 wr):=ι hr.o
   have HC0:Hid ((lcI na (ovI na k) 0).2=19*ovI na k):=ι rfl;generalize ovI na k=o at o1 o2 HRk HLC HLL HLU H9 HC0⊢;clear hr hke hk hik v0 v1;go_wp2_with fail
   go_loopw [5,26] (λcv jv W=>∃j:Nat,j<=5/\jv=.int .i64 j/\cv=.int .u64 (lcI na o j).2/\Hid (xFj w (lcI na o j).1 W)) (λ_ jv _=>5- (intOf jv).toNat)
   case atStart=>exact⟨0,δ,rfl,by rw[HC0.o],H9⟩
   case round=>
    rename World=>wj
    obtain⟨j,hj,rfl,rfl,hr⟩:=hrel;clear H9;obtain⟨c1,c2⟩:=HLC.o j;have hll:=HLL.o j;have hlu:=HLU.o j
    by_cases hlt2:j<5
    ·have HS:Hid (lcI na o (j+1)=((lcI na o j).1.set j (bits .and .u64 (IntKind.u64.wrap ((lcI na o j).1.getD j 0+(lcI na o j).2)) 2251799813685247),IntKind.u64.wrap ((lcI na o j).1.getD j 0+(lcI na o j).2) / 2251799813685248)):=ι rfl;obtain⟨s,hs⟩:∃s,lcI na o (j+1)=s:=⟨_,rfl⟩
     rw[hs] at HS;have HSE:=ι hs;generalize (lcI na o j).1=l at hr hll hlu HS;generalize (lcI na o j).2=c at c1 c2 HS⊢;have q0:=hr.o.ba.cell (i:=j) ω;have q1:=hr.o.ba.free j;obtain⟨x0,x1⟩:=hlu j;generalize l.getD j 0=x at q0 x0 x1 HS
     obtain⟨y,hy⟩:∃y,IntKind.u64.wrap (x+c)=y:=⟨_,rfl⟩;obtain⟨y0,y1⟩:=hy▸wrap_u64 (x+c);rw[hy] at HS;have HP:=ι (hr.o.put j (bits .and .u64 y 2251799813685247));clear hs hr o1 o2;go_wp2;refine⟨⟨j+1,ω,by go_num,by rw[HSE.o,HS.o],?_⟩,by simp[intOf];omega⟩;rw[HSE.o,HS.o]
     exact HP
    ·have hje:j=5:=ω;have HRj:=ι (HRk.o j hje);have HIr:Hid ((prog.info? 214).map (·.size)=some (xE res).size):=ι (zS (by rw[HRj.o,hll,hnl]));have HZr:Hid ((xE (List.replicate 5 0)).size=(xE res).size):=ι (rF σ (by rw[HRj.o,hll,hnl]));rw[<-HRj.o] at hr
     have hneg:¬((j:Int)<5):=ω;clear HRj hll hlu hje hj hlt2 HLC HLL HLU HRk HC0 o1 o2;go_upto_region 15 with fail
     refine wp_region_lit ?_;refine wpList_load_row rfl _ _ rfl w.heap.size rfl _ (xE res) (0,0) _ hr.o.ba underlying214 rfl HIr.o ?_;refine wpList_store_row rfl _ _ _ rfl (w.heap.size+1) (xE res) rfl rfl _ _ hr.o.bz HIr.o HZr.o (xR _) ?_;go_wp2
     refine bodyPost_ret (results_cell_row rfl _ _ (w.heap.size+1) _ _ (0,0) _ rfl (setRow_heap _ _ _ _ _ _ hr.o.bz) underlying214 rfl HIr.o) rfl ?_;exact⟨(by first|rfl|exact HE.o),below_setRow hr.o.bel ω _⟩
end Go.Proofs.FE
namespace Mailsack
theorem xWh {a b:Int} (ha:U64 a) (hb:U64 b):Go.bits .xor .u64 a (Go.bits .xor .u64 a b)=b:=by
 obtain⟨a0,a1⟩:=ha;obtain⟨b0,b1⟩:=hb;obtain⟨x,rfl⟩:=Int.eq_ofNat_of_zero_le a0;obtain⟨y,rfl⟩:=Int.eq_ofNat_of_zero_le b0;have hx:x<18446744073709551616:=ω;have hy:y<18446744073709551616:=ω;have hz:x ^^^y<18446744073709551616:=Nat.xor_lt_two_pow (n:=64) hx hy
 rw[Go.bits_xor_u64_nat x y hx hy,Go.bits_xor_u64_nat x (x ^^^y) hx hz,<-Nat.xor_assoc,Nat.xor_self,Nat.zero_xor]
theorem xRg {a b:Int} (ha:U64 a) (hb:U64 b):Go.bits .xor .u64 b (Go.bits .xor .u64 a b)=a:=by
 obtain⟨a0,a1⟩:=ha;obtain⟨b0,b1⟩:=hb;obtain⟨x,rfl⟩:=Int.eq_ofNat_of_zero_le a0;obtain⟨y,rfl⟩:=Int.eq_ofNat_of_zero_le b0;have hx:x<18446744073709551616:=ω;have hy:y<18446744073709551616:=ω;have hz:x ^^^y<18446744073709551616:=Nat.xor_lt_two_pow (n:=64) hx hy
 rw[Go.bits_xor_u64_nat x y hx hy,Go.bits_xor_u64_nat y (x ^^^y) hy hz,Nat.xor_comm x y,<-Nat.xor_assoc,Nat.xor_self,Nat.zero_xor]
theorem xVr {a:Int} (ha:U64 a):Go.bits .and .u64 a 18446744073709551615=a:=by
 obtain⟨a0,a1⟩:=ha;obtain⟨x,rfl⟩:=Int.eq_ofNat_of_zero_le a0;have hx:x<18446744073709551616:=ω;have h:=Go.bits_and_u64_nat x 18446744073709551615 hx δ;rw[show((18446744073709551615:Nat):Int)=18446744073709551615 by rfl] at h
 rw[h,show(18446744073709551615:Nat)=2^64-1 by decide,Nat.and_two_pow_sub_one_eq_mod,Nat.mod_eq_of_lt hx]
theorem xYu {a:Int} (ha:U64 a):Go.bits .and .u64 a 0=0:=by
 obtain⟨a0,a1⟩:=ha;obtain⟨x,rfl⟩:=Int.eq_ofNat_of_zero_le a0;have hx:x<18446744073709551616:=ω;have h:=Go.bits_and_u64_nat x 0 hx δ;rw[show((0:Nat):Int)=0 by rfl] at h;rw[h,Nat.and_zero]
 rfl
theorem xN0 {a:Int} (ha:U64 a):Go.bits .xor .u64 a 0=a:=by
 obtain⟨a0,a1⟩:=ha;obtain⟨x,rfl⟩:=Int.eq_ofNat_of_zero_le a0;have hx:x<18446744073709551616:=ω;have h:=Go.bits_xor_u64_nat x 0 hx δ;rw[show((0:Nat):Int)=0 by rfl] at h;rw[h,Nat.xor_zero]
def swI (a b:List Int):Nat->List Int
 |0=>a
 |i+1=>(swI a b i).set i (b.getD i 0)
theorem xLa (a b:List Int):∀i,(swI a b i).length=a.length
 |0=>rfl
 |i+1=>by rw[swI,List.length_set,xLa a b i]
theorem xSf (a b:List Int):∀i j,i<=j->(swI a b i).getD j 0=a.getD j 0
 |0,_,_=>rfl
 |i+1,j,h=>by
  rw[swI,List.getD_eq_getElem?_getD,List.getElem?_set,if_neg ω,<-List.getD_eq_getElem?_getD];exact xSf a b i j ω
theorem xSg {a b:List Int} (h:a.length=5) (h2:b.length=5):swI a b 5=b:=by
 obtain⟨x0,x1,x2,x3,x4,rfl⟩:=xCv h;obtain⟨y0,y1,y2,y3,y4,rfl⟩:=xCv h2
 rfl
end Mailsack
namespace Go.Proofs.FE
open Go.RowKit Mailsack MM BB SH
theorem wT {P:Program} {fn:Func} {p q:Tmp} {ty:TypeId} (h:fn.results=#[.cell p ty,.cell q ty]) (tmps:Array Value) (w:World) (g k:Nat) (t t':TypeId) (cs ds:Array Value) (fr fr':Nat×Nat) (d:TypeDesc)
  (hp:tmps.getD p undef=.pointer (some ⟨g,0,none⟩)) (hq:tmps.getD q undef=.pointer (some ⟨k,0,none⟩)) (hg:w.heap[g]?=some (.cells cs t fr)) (hk:w.heap[k]?=some (.cells ds t' fr'))
  (hu:P.underlying ty=some d) (hd:(match d with|.struct _|.array _ _=>true|_=>false)=true) (hi:(P.info? ty).map (·.size)=some cs.size) (hi2:(P.info? ty).map (·.size)=some ds.size):
  (results fn tmps).run P w=.ok (.tuple #[.agg cs,.agg ds]) w:=by
 have hp':tmps[p]?.getD undef=.pointer (some ⟨g,0,none⟩):=by simpa using hp
 have hq':tmps[q]?.getD undef=.pointer (some ⟨k,0,none⟩):=by simpa using hq
 simp[results,h,hp',hq',asAddr,run_loadVar_row w g t ty cs fr d hg hu hd hi,run_loadVar_row w k t' ty ds fr' d hk hu hd hi2]
structure SwM (w:World) (ax bx rx sx:List Int) (W:World):Prop where
 ba:uB 214 W w.heap.size ax
 bb:uB 214 W (w.heap.size+1) bx
 br:uB 214 W (w.heap.size+2) rx
 bs:uB 214 W (w.heap.size+3) sx
 bel:ψ w W
section
variable {w W W':World} {ax bx rx sx:List Int}
theorem SwM.start (ax bx:List Int):SwM w ax bx (List.replicate 5 0) (List.replicate 5 0) ((((w.alloc (.cells (xE ax) 214)).alloc (.cells (xE bx) 214)).alloc (.cells (xE (List.replicate 5 0)) 214)).alloc (.cells (xE (List.replicate 5 0)) 214)):=by
 have h:=vB.start (w:=w) ax bx;have hz:(((w.alloc (.cells (xE ax) 214)).alloc (.cells (xE bx) 214)).alloc (.cells (xE (List.replicate 5 0)) 214)).heap.size=w.heap.size+3:=σ
 have hn:=xI (((w.alloc (.cells (xE ax) 214)).alloc (.cells (xE bx) 214)).alloc (.cells (xE (List.replicate 5 0)) 214)) (.cells (xE (List.replicate 5 0)) 214);rw[hz] at hn;exact⟨xM h.ba _,xM h.bb _,xM h.bz _,hn,h.bel.alloc (by rw[hz];omega) _⟩
theorem SwM.drew (h:SwM w ax bx rx sx W):SwM w ax bx rx sx W.drew:=⟨h.ba,h.bb,h.br,h.bs,h.bel.drew⟩
theorem SwM.putA (h:SwM w ax bx rx sx W) (i:Nat) (x:Int):SwM w (ax.set i x) bx rx sx (W.setCell ⟨w.heap.size,i,none⟩ (.int .u64 x)):=
 ⟨h.ba.put i x,h.bb.far (p:=⟨w.heap.size,i,none⟩) σ _,h.br.far (p:=⟨w.heap.size,i,none⟩) σ _,h.bs.far (p:=⟨w.heap.size,i,none⟩) σ _,h.bel.setCell (p:=⟨w.heap.size,i,none⟩) ν _⟩
theorem SwM.xZb (h:SwM w ax bx rx sx W) (i:Nat) (x:Int):SwM w ax (bx.set i x) rx sx (W.setCell ⟨w.heap.size+1,i,none⟩ (.int .u64 x)):=
 ⟨h.ba.far (p:=⟨w.heap.size+1,i,none⟩) σ _,h.bb.put i x,h.br.far (p:=⟨w.heap.size+1,i,none⟩) σ _,h.bs.far (p:=⟨w.heap.size+1,i,none⟩) σ _,h.bel.setCell (p:=⟨w.heap.size+1,i,none⟩) σ _⟩
theorem SwM.rowR (h:SwM w ax bx rx sx W) (xs:List Int):SwM w ax bx xs sx (W.setRow (w.heap.size+2) (xE xs)):=
 ⟨(setRow_other _ _ _ _ ω).trans h.ba,(setRow_other _ _ _ _ ω).trans h.bb,setRow_heap _ _ _ _ _ _ h.br,(setRow_other _ _ _ _ ω).trans h.bs,below_setRow h.bel ω _⟩
theorem SwM.rowS (h:SwM w ax bx rx sx W) (xs:List Int):SwM w ax bx rx xs (W.setRow (w.heap.size+3) (xE xs)):=
 ⟨(setRow_other _ _ _ _ ω).trans h.ba,(setRow_other _ _ _ _ ω).trans h.bb,(setRow_other _ _ _ _ ω).trans h.br,setRow_heap _ _ _ _ _ _ h.bs,below_setRow h.bel ω _⟩
end
theorem xWz (ax bx:List Int) (w:World) (hl:ax.length=5) (hu:yE ax) (hl2:bx.length=5) (hu2:yE bx):
  Calls prog 245 #[.agg (xE ax),.agg (xE bx),.bool true] w λe w'=>e=.returned (.tuple #[.agg (xE bx),.agg (xE ax)])/\ψ w w':=by
 have H0:Hid (SwM w (swI ax bx 0) (swI bx ax 0) (List.replicate 5 0) (List.replicate 5 0) _):=ι (SwM.start (w:=w) ax bx);have HL:=ι (λi=>xLa ax bx i);have HL2:=ι (λi=>xLa bx ax i)
 have HE:Hid (∀n,n=5->swI ax bx n=bx/\swI bx ax n=ax):=ι (λn hn=>by rw[hn];exact⟨xSg hl hl2,xSg hl2 hl⟩);have HA:=ι (λi=>xSf ax bx i i ν);have HA2:=ι (λi=>xSf bx ax i i ν);go_enter func245,ntmps245;go_upto_region 1 with fail
 refine(λ(h:∀W3,Hid (SwM w (swI ax bx 0) (swI bx ax 0) (List.replicate 5 0) (List.replicate 5 0) W3)->Code.wp _ _ _ _ W3)=>h _ H0) ?_;clear H0;intro W0 H0;go_wp2_with fail
 rw[show bits .xor .u64 IntKind.u64.max 0=18446744073709551615 by decide]
 go_loopw [14] (λiv W=>∃i:Nat,i<=5/\iv=.int .i64 i/\Hid (SwM w (swI ax bx i) (swI bx ax i) (List.replicate 5 0) (List.replicate 5 0) W)) (λiv _=>5- (intOf iv).toNat)
 case atStart=>exact⟨0,δ,rfl,H0⟩
 case round=>
  clear H0;obtain⟨i,hi,rfl,hr⟩:=hrel
  by_cases hlt:i<5
  ·have hll:=HL.o i;have hll2:=HL2.o i;have HPX:=ι (HA.o i);have HQX:=ι (HA2.o i);obtain⟨x0,x1⟩:=hu i;obtain⟨y0,y1⟩:=hu2 i;have HS:Hid (swI ax bx (i+1)=(swI ax bx i).set i (bx.getD i 0)/\swI bx ax (i+1)=(swI bx ax i).set i (ax.getD i 0)):=ι ⟨rfl,rfl⟩
   obtain⟨s1,hs1⟩:∃s,swI ax bx (i+1)=s:=⟨_,rfl⟩;obtain⟨s2,hs2⟩:∃s,swI bx ax (i+1)=s:=⟨_,rfl⟩;rw[hs1,hs2] at HS;have HS0:=HS;have HS1:=ι hs1;have HS2:=ι hs2;clear hs1 hs2;generalize swI ax bx i=p at hr hll HS HS0 HPX;generalize swI bx ax i=q at hr hll2 HS HS0 HQX
   generalize ax.getD i 0=x at x0 x1 HS HS0 HPX;generalize bx.getD i 0=y at y0 y1 HS HS0 HQX;obtain⟨d,hd⟩:∃d,bits .and .u64 (bits .xor .u64 x y) 18446744073709551615=d:=⟨_,rfl⟩;have hd1:bits .xor .u64 x d=y:=by rw[<-hd,xVr (yJ _ _ _)];exact xWh ⟨x0,x1⟩ ⟨y0,y1⟩
   have hd2:bits .xor .u64 y d=x:=by rw[<-hd,xVr (yJ _ _ _)];exact xRg ⟨x0,x1⟩ ⟨y0,y1⟩
   obtain⟨d0,d3⟩:=hd▸yJ .and (bits .xor .u64 x y) 18446744073709551615;have hpl:=hll.trans hl;have hql:=hll2.trans hl2;clear HS;go_upto_region 7 with fail
   refine RG.xH (λW=>Hid (SwM w p q (List.replicate 5 0) (List.replicate 5 0) W)) κ κ (ι hr.o.drew) ?_
   iterate 10
    apply RG.xG
    ·intro w9 hw9;have q1:=hw9.o.ba.cell (i:=i) ω;have q2:=hw9.o.bb.cell (i:=i) ω;rw[HPX.o] at q1;rw[HQX.o] at q2;repeat go_step
     exact RG.xB hw9
    ·rfl
   refine RG.xL (λw9 hw9=>?_);have HP:=ι ((hw9.o.putA i y).xZb i x);rw[<-HS0.o.1,<-HS0.o.2] at HP;have q0:=hw9.o.ba.cell (i:=i) ω;have q1:=hw9.o.bb.cell (i:=i) ω;rw[HPX.o] at q0;rw[HQX.o] at q1;have f0:=hw9.o.ba.free i;have f1:=hw9.o.bb.free i;clear hw9 hr;go_wp2
   exact⟨⟨i+1,ω,by go_num,by rw[HS1.o,HS2.o];exact HP⟩,by simp[intOf];omega⟩
  ·have hie:i=5:=ω;obtain⟨e1,e2⟩:=HE.o i hie;rw[e1,e2] at hr;have HIa:=ι (zS hl2);have HIb:=ι (zS hl);have HZa:Hid ((xE (List.replicate 5 0)).size=(xE bx).size):=ι (rF σ hl2);have HZb:Hid ((xE (List.replicate 5 0)).size=(xE ax).size):=ι (rF σ hl)
   clear HA HA2 HL HL2 HE hie e1 e2 hu hu2 hl hl2;go_upto_region 11 with fail
   refine RG.yM 4 (λL W=>Hid (SwM w bx ax (if L 2 then bx else List.replicate 5 0) (if L 3 then ax else List.replicate 5 0) W)) (λL L' W h hI=>by rw[<-h 2 δ,<-h 3 δ];exact hI) κ κ rfl (ι hr.o.drew) ?_;clear hr;apply RG.xN
   ·rfl
   ·rfl
   ·intro L w9 h0 hcl xP hw9;refine wpList_load_row rfl _ _ rfl w.heap.size rfl _ (xE bx) (0,0) _ hw9.o.ba underlying214 rfl HIa.o ?_;repeat go_step
    refine RG.xB ?_;exact⟨xP,hw9⟩
   ·rfl
   apply RG.xN
   ·rfl
   ·rfl
   ·intro L w9 h0 hcl xP hw9;refine wpList_load_row rfl _ _ rfl (w.heap.size+1) rfl _ (xE ax) (0,0) _ hw9.o.bb underlying214 rfl HIb.o ?_;repeat go_step
    refine RG.xB ?_;exact⟨xP,hw9⟩
   ·rfl
   apply RG.xN
   ·rfl
   ·rfl
   ·intro L w9 h0 hcl xP hw9;have hs9:=hw9.o;rw[h0,if_neg σ] at hs9;refine wpList_store_row rfl _ _ _ rfl (w.heap.size+2) (xE bx) rfl rfl _ _ hs9.br HIa.o HZa.o (xR _) ?_;repeat go_step
    refine RG.xB ?_;exact⟨xP,ι (hs9.rowR bx)⟩
   ·rfl
   apply RG.xN
   ·rfl
   ·rfl
   ·intro L w9 h0 hcl xP hw9;have hs9:=hw9.o;rw[h0,if_neg (c:=false=true) σ] at hs9;refine wpList_store_row rfl _ _ _ rfl (w.heap.size+3) (xE ax) rfl rfl _ _ hs9.bs HIb.o HZb.o (xR _) ?_;repeat go_step
    refine RG.xB ?_;exact⟨xP,ι (hs9.rowS ax)⟩
   ·rfl
   refine RG.xY (λw9 hw9=>?_);rw[if_pos rfl,if_pos rfl] at hw9;go_wp2;refine bodyPost_ret (wT rfl _ _ (w.heap.size+2) (w.heap.size+3) _ _ _ _ (0,0) (0,0) _ rfl rfl hw9.o.br hw9.o.bs underlying214 rfl HIa.o HIb.o) rfl ?_;exact⟨rfl,hw9.o.bel⟩
theorem set_self {l:List Int} {i:Nat} {x:Int} (h:i<l.length) (hx:l.getD i 0=x):l.set i x=l:=by
 rw[<-hx,List.getD_eq_getElem?_getD,List.getElem?_eq_getElem h];exact List.set_getElem_self h
theorem yAj (ax bx:List Int) (w:World) (hl:ax.length=5) (hu:yE ax) (hl2:bx.length=5) (hu2:yE bx):
  Calls prog 245 #[.agg (xE ax),.agg (xE bx),.bool false] w λe w'=>e=.returned (.tuple #[.agg (xE ax),.agg (xE bx)])/\ψ w w':=by
 have H0:=ι (SwM.start (w:=w) ax bx);go_enter func245,ntmps245;go_upto_region 1 with fail
 refine(λ(h:∀W3,Hid (SwM w ax bx (List.replicate 5 0) (List.replicate 5 0) W3)->Code.wp _ _ _ _ W3)=>h _ H0) ?_;clear H0;intro W0 H0;go_wp2_with fail
 go_loopw [14] (λiv W=>∃i:Nat,i<=5/\iv=.int .i64 i/\Hid (SwM w ax bx (List.replicate 5 0) (List.replicate 5 0) W)) (λiv _=>5- (intOf iv).toNat)
 case atStart=>exact⟨0,δ,rfl,H0⟩
 case round=>
  clear H0;obtain⟨i,hi,rfl,hr⟩:=hrel
  by_cases hlt:i<5
  ·obtain⟨x,hx⟩:∃x,ax.getD i 0=x:=⟨_,rfl⟩;obtain⟨y,hy⟩:∃y,bx.getD i 0=y:=⟨_,rfl⟩;obtain⟨x0,x1⟩:=hx▸hu i;obtain⟨y0,y1⟩:=hy▸hu2 i;have HSX:=ι (set_self ω hx);have HSY:=ι (set_self ω hy);have HPX:=ι hx;have HQX:=ι hy;have hd:bits .and .u64 (bits .xor .u64 x y) 0=0:=xYu (yJ _ _ _)
   have hd1:bits .xor .u64 x 0=x:=xN0 ⟨x0,x1⟩;have hd2:bits .xor .u64 y 0=y:=xN0 ⟨y0,y1⟩;clear hx hy;go_upto_region 7 with fail
   refine RG.xH (λW=>Hid (SwM w ax bx (List.replicate 5 0) (List.replicate 5 0) W)) κ κ (ι hr.o.drew) ?_
   iterate 10
    apply RG.xG
    ·intro w9 hw9;have q1:=hw9.o.ba.cell (i:=i) ω;have q2:=hw9.o.bb.cell (i:=i) ω;rw[HPX.o] at q1;rw[HQX.o] at q2;repeat go_step
     exact RG.xB hw9
    ·rfl
   refine RG.xL (λw9 hw9=>?_);have HP:=ι ((hw9.o.putA i x).xZb i y);rw[HSX.o,HSY.o] at HP;have q0:=hw9.o.ba.cell (i:=i) ω;have q1:=hw9.o.bb.cell (i:=i) ω;rw[HPX.o] at q0;rw[HQX.o] at q1;have f0:=hw9.o.ba.free i;have f1:=hw9.o.bb.free i;clear hw9 hr;go_wp2
   exact⟨⟨i+1,ω,by go_num,HP⟩,by simp[intOf];omega⟩
  ·have hie:i=5:=ω;have HIa:=ι (zS hl);have HIb:=ι (zS hl2);have HZa:Hid ((xE (List.replicate 5 0)).size=(xE ax).size):=ι (rF σ hl);have HZb:Hid ((xE (List.replicate 5 0)).size=(xE bx).size):=ι (rF σ hl2);clear hie hu hu2 hl hl2;go_upto_region 11 with fail
   refine RG.yM 4 (λL W=>Hid (SwM w ax bx (if L 2 then ax else List.replicate 5 0) (if L 3 then bx else List.replicate 5 0) W)) (λL L' W h hI=>by rw[<-h 2 δ,<-h 3 δ];exact hI) κ κ rfl (ι hr.o.drew) ?_;clear hr;apply RG.xN
   ·rfl
   ·rfl
   ·intro L w9 h0 hcl xP hw9;refine wpList_load_row rfl _ _ rfl w.heap.size rfl _ (xE ax) (0,0) _ hw9.o.ba underlying214 rfl HIa.o ?_;repeat go_step
    refine RG.xB ?_;exact⟨xP,hw9⟩
   ·rfl
   apply RG.xN
   ·rfl
   ·rfl
   ·intro L w9 h0 hcl xP hw9;refine wpList_load_row rfl _ _ rfl (w.heap.size+1) rfl _ (xE bx) (0,0) _ hw9.o.bb underlying214 rfl HIb.o ?_;repeat go_step
    refine RG.xB ?_;exact⟨xP,hw9⟩
   ·rfl
   apply RG.xN
   ·rfl
   ·rfl
   ·intro L w9 h0 hcl xP hw9;have hs9:=hw9.o;rw[h0,if_neg σ] at hs9;refine wpList_store_row rfl _ _ _ rfl (w.heap.size+2) (xE ax) rfl rfl _ _ hs9.br HIa.o HZa.o (xR _) ?_;repeat go_step
    refine RG.xB ?_;exact⟨xP,ι (hs9.rowR ax)⟩
   ·rfl
   apply RG.xN
   ·rfl
   ·rfl
   ·intro L w9 h0 hcl xP hw9;have hs9:=hw9.o;rw[h0,if_neg (c:=false=true) σ] at hs9;refine wpList_store_row rfl _ _ _ rfl (w.heap.size+3) (xE bx) rfl rfl _ _ hs9.bs HIb.o HZb.o (xR _) ?_;repeat go_step
    refine RG.xB ?_;exact⟨xP,ι (hs9.rowS bx)⟩
   ·rfl
   refine RG.xY (λw9 hw9=>?_);rw[if_pos rfl,if_pos rfl] at hw9;go_wp2;refine bodyPost_ret (wT rfl _ _ (w.heap.size+2) (w.heap.size+3) _ _ _ _ (0,0) (0,0) _ rfl rfl hw9.o.br hw9.o.bs underlying214 rfl HIa.o HIb.o) rfl ?_;exact⟨rfl,hw9.o.bel⟩
end Go.Proofs.FE
namespace Mailsack
def tC (l:List Int):List Int:=[Go.bits .or .u64 (l.getD 0 0) (Go.IntKind.u64.wrap (l.getD 1 0*2251799813685248)),Go.bits .or .u64 (l.getD 1 0 / 8192) (Go.IntKind.u64.wrap (l.getD 2 0*274877906944)),Go.bits .or .u64 (l.getD 2 0 / 67108864) (Go.IntKind.u64.wrap (l.getD 3 0*33554432)),Go.bits .or .u64 (l.getD 3 0 / 549755813888) (Go.IntKind.u64.wrap (l.getD 4 0*4096))]
theorem xWk (l:List Int):yE (tC l):=by
 intro i
 match i with
 |0=>unfold tC;simp only[List.getD_cons_zero];exact yJ _ _ _
 |1=>unfold tC;simp only[List.getD_cons_zero,List.getD_cons_succ];exact yJ _ _ _
 |2=>unfold tC;simp only[List.getD_cons_zero,List.getD_cons_succ];exact yJ _ _ _
 |3=>unfold tC;simp only[List.getD_cons_zero,List.getD_cons_succ];exact yJ _ _ _
 |n+4=>
  rw[List.getD_eq_getElem?_getD,List.getElem?_eq_none (by simp[tC])];exact⟨δ,δ⟩
def xR7 (ws:List Int):Nat->Bs
 |0=>xO 32
 |i+1=>(xR7 ws i).set i (oct (ws.getD (i / 8) 0 / 2^(8*(i % 8))))
theorem xHv (ws:List Int):∀i,(xR7 ws i).length=32
 |0=>yS 32
 |i+1=>by rw[xR7,List.length_set,xHv ws i]
def xB8 (a:List Int):ByteArray:=bsA (xR7 (tC (pW a)) 32)
theorem xK7 (a:List Int):(xB8 a).size=32:=by rw[xB8,uS,xHv]
def wI (s:ByteArray):Nat->List Int
 |0=>List.replicate 4 0
 |i+1=>(wI s i).set (i / 8) (Go.bits .or .u64 ((wI s i).getD (i / 8) 0) (Go.IntKind.u64.wrap (yO s i*2^(8*(i % 8)))))
theorem xZ3 (s:ByteArray):∀i,(wI s i).length=4
 |0=>by simp[wI]
 |i+1=>by rw[wI,List.length_set,xZ3 s i]
theorem wI_u (s:ByteArray):∀i,yE (wI s i)
 |0=>xAr 4
 |i+1=>(wI_u s i).set _ (yJ _ _ _)
def xTn (w:List Int):List Int:=[Go.bits .and .u64 (w.getD 0 0) 2251799813685247,Go.bits .and .u64 (Go.bits .or .u64 (w.getD 0 0 / 2251799813685248) (Go.IntKind.u64.wrap (w.getD 1 0*8192))) 2251799813685247,Go.bits .and .u64 (Go.bits .or .u64 (w.getD 1 0 / 274877906944) (Go.IntKind.u64.wrap (w.getD 2 0*67108864))) 2251799813685247,Go.bits .and .u64 (Go.bits .or .u64 (w.getD 2 0 / 33554432) (Go.IntKind.u64.wrap (w.getD 3 0*549755813888))) 2251799813685247,Go.bits .and .u64 (w.getD 3 0 / 4096) 2251799813685247]
def xZs (s:ByteArray):List Int:=xTn (wI s 32)
theorem xYf (s:ByteArray):(xZs s).length=5:=rfl
theorem xXs (w:List Int):yE (xTn w):=xCg (yJ _ _ _) (yJ _ _ _) (yJ _ _ _) (yJ _ _ _) (yJ _ _ _)
theorem feOf_u (s:ByteArray):yE (xZs s):=xXs _
theorem yBy {ws:List Int} (h:ws.length=4):∃a b c d,ws=[a,b,c,d]:=by
 match ws,h with
 |[a,b,c,d],_=>exact⟨a,b,c,d,rfl⟩
end Mailsack
namespace Go.Proofs.FE
open Go.RowKit Mailsack MM BB SH
structure ByM (w:World) (ax:List Int) (W:World):Prop where
 ba:uB 214 W w.heap.size ax
 bel:ψ w W
structure ByL (w:World) (g:Nat) (ws:List Int) (l:Bs) (W:World):Prop where
 bw:uB 300 W g ws
 bo:W.heap[g+1]?=some (.cells (xX l) 299 (0,0))
 bel:ψ w W
 ge:w.heap.size<=g
theorem ByL.put {w W:World} {g:Nat} {ws:List Int} {l:Bs} (h:ByL w g ws l W) (i:Nat) (z:Int):ByL w g ws (l.set i (oct z)) (W.setCell ⟨g+1,i,none⟩ (.int .u8 (z % 256))):=by
 have hg:=h.ge;have h2:=yC h.bo i (.int .u8 (z % 256));rw[xCb] at h2;exact⟨h.bw.far (p:=⟨g+1,i,none⟩) σ _,h2,h.bel.setCell (p:=⟨g+1,i,none⟩) (by simp only[];omega) _,hg⟩
theorem xVh (ax:List Int) (w:World) (hl:ax.length=5) (hu:yE ax):
  Calls prog 160 #[.agg (xE ax)] w λe w'=>e=.returned (.string (xB8 ax))/\ψ w w':=by
 have HN:=ι (λW=>xMg ax W hl hu);have HIa:=ι (zS hl);have HIn:=ι (zS (xB7 ax));have HZa:=ι (rF hl (xB7 ax));have hnl:=xB7 ax;have hnu:=xUs ax;have H0:Hid (ByM w ax (w.alloc (.cells (xE ax) 214))):=ι ⟨xI _ _,φ w _⟩
 have HR:Hid (∀n,n=32->xB8 ax=bsA (xR7 (tC (pW ax)) n)):=ι (λn hn=>by rw[hn];rfl);generalize xB8 ax=res at HR⊢;generalize pW ax=na at HN HIn HZa hnl hnu HR;clear hl hu;go_enter func160,ntmps160;go_upto_region 1 with fail
 refine(λ(h:∀W3,Hid (ByM w ax W3)->Code.wp _ _ _ _ W3)=>h _ H0) ?_;clear H0;intro W0 H0;refine wp_region_lit ?_;refine wpList_load_row rfl _ _ rfl w.heap.size rfl _ (xE ax) (0,0) _ H0.o.ba underlying214 rfl HIa.o ?_;repeat go_step
 refine(HN.o _).mono ?_;rintro e w7 ⟨rfl,hb7⟩;have h7:ByM w ax w7:=⟨H0.o.ba.below hb7,H0.o.bel.trans (hb7.mono H0.o.bel.size)⟩;have H8:Hid (ByM w na (w7.setRow w.heap.size (xE na))):=ι ⟨setRow_heap _ _ _ _ _ _ h7.ba,below_setRow h7.bel ν _⟩;clear H0 hb7
 obtain⟨a,b,c,d,e,rfl⟩:=xCv hnl;have ha:=hnu 0;have hb:=hnu 1;have hc:=hnu 2;have hd:=hnu 3;have he:=hnu 4;simp only[List.getD_cons_zero,List.getD_cons_succ] at ha hb hc hd he;obtain⟨a0,a1⟩:=ha;obtain⟨b0,b1⟩:=hb;obtain⟨c0,c1⟩:=hc;obtain⟨d0,d1⟩:=hd;obtain⟨e0,e1⟩:=he
 have q0:(w7.setRow w.heap.size (xE [a,b,c,d,e])).cell? ⟨w.heap.size,0,none⟩=some (.int .u64 a):=H8.o.ba.cell (i:=0) σ;have q1:(w7.setRow w.heap.size (xE [a,b,c,d,e])).cell? ⟨w.heap.size,1,none⟩=some (.int .u64 b):=H8.o.ba.cell (i:=1) σ
 have q2:(w7.setRow w.heap.size (xE [a,b,c,d,e])).cell? ⟨w.heap.size,2,none⟩=some (.int .u64 c):=H8.o.ba.cell (i:=2) σ;have q3:(w7.setRow w.heap.size (xE [a,b,c,d,e])).cell? ⟨w.heap.size,3,none⟩=some (.int .u64 d):=H8.o.ba.cell (i:=3) σ
 have q4:(w7.setRow w.heap.size (xE [a,b,c,d,e])).cell? ⟨w.heap.size,4,none⟩=some (.int .u64 e):=H8.o.ba.cell (i:=4) σ;clear hnu hnl HN;generalize hrow:xE [a,b,c,d,e]=row at*
 go_wp2_with (refine wpList_store_row rfl _ _ _ rfl w.heap.size row rfl rfl _ _ h7.ba HIn.o HZa.o (by rw[<-hrow];exact xR _) ?_)
 clear q0 q1 q2 q3 q4 HIn HZa HIa;have hz:(w7.setRow w.heap.size row).heap.size=w7.heap.size:=setRow_size _ _ _;have h1:=xM (xI (w7.setRow w.heap.size row) (.cells (xE (tC [a,b,c,d,e])) 300)) (.cells (xX (xO 32)) 299)
 have h2:=xI ((w7.setRow w.heap.size row).alloc (.cells (xE (tC [a,b,c,d,e])) 300)) (.cells (xX (xO 32)) 299);rw[uQ] at h2;rw[hz] at h1 h2
 refine(λ(h:∀W3,Hid (ByL w w7.heap.size (tC [a,b,c,d,e]) (xO 32) W3)->Code.wp _ _ _ _ W3)=>h _ (ι ⟨h1,h2,(H8.o.bel.alloc (by rw[hz];exact h7.bel.size) _).alloc (by rw[uQ,hz];have:=h7.bel.size;omega) _,h7.bel.size⟩)) ?_;clear H8 h7 hz h1 h2 hrow;have hwu:=xWk [a,b,c,d,e]
 have hwl:(tC [a,b,c,d,e]).length=4:=rfl;generalize tC [a,b,c,d,e]=ws at hwu hwl HR⊢;generalize w7.heap.size=g;clear a0 a1 b0 b1 c0 c1 d0 d1 e0 e1;intro W1 H1;have H2:Hid (ByL w g ws (xR7 ws 0) W1):=H1;clear H1;have HL:=ι (λi=>xHv ws i)
 go_loopw [36] (λiv W=>∃i:Nat,i<=32/\iv=.int .i64 i/\Hid (ByL w g ws (xR7 ws i) W)) (λiv _=>32- (intOf iv).toNat)
 case atStart=>exact⟨0,δ,rfl,H2⟩
 case round=>
  clear H2;obtain⟨i,hi,rfl,hr⟩:=hrel
  by_cases hlt:i<32
  ·have HS:Hid (∀q r,q=i / 8->r=i % 8->xR7 ws (i+1)=(xR7 ws i).set i (oct (ws.getD q 0 / 2^(8*r)))):=ι (λq r hq hr=>by rw[hq,hr];rfl);have hll:=HL.o i;obtain⟨q,hq⟩:∃q,q=i / 8:=⟨_,rfl⟩;obtain⟨r,hrr⟩:∃r,r=i % 8:=⟨_,rfl⟩
   replace HS:=ι (HS.o q r hq hrr)
   have hq4:q<4:=ω;have hr8:r<8:=ω;have hiq:(i:Int) / 8=(q:Int):=ω;have hir:(i:Int) % 8=(r:Int):=ω;obtain⟨s1,hs1⟩:∃s,xR7 ws (i+1)=s:=⟨_,rfl⟩;rw[hs1] at HS;have HS1:=ι hs1;clear hs1 hq hrr;generalize xR7 ws i=l at hr hll HS;obtain⟨x0,x1⟩:=hwu q;have q0:=hr.o.bw.cell (i:=q) ω
   generalize ws.getD q 0=x at q0 x0 x1 HS;have q1:=xA hr.o.bo i;rw[kU ω] at q1;have q2:=xD hr.o.bo i;generalize ((l.getD i 0).toNat:Int)=old at q1;have HP:=ι (hr.o.put i (x / 2^(8*r)));rw[<-HS.o] at HP;clear hr HS;go_wp2
   exact⟨⟨i+1,ω,by go_num,by rw[HS1.o];exact HP⟩,by simp[intOf];omega⟩
  ·have hie:i=32:=ω;have HRi:=ι (HR.o i hie);have HT:=xBh (t:=299) hr.o.bo 32 32 (HL.o i);have hneg:¬((i:Int)<32):=ω;clear HR HL hie hlt hi;generalize xR7 ws i=l at hr HRi HT;go_wp2;go_ret;rw[HRi.o];exact⟨rfl,hr.o.bel⟩
structure OfM (w:World) (ws:List Int) (W:World):Prop where
 bz:uB 214 W w.heap.size (List.replicate 5 0)
 bw:uB 300 W (w.heap.size+1) ws
 bel:ψ w W
theorem OfM.drew {w W:World} {ws:List Int} (h:OfM w ws W):OfM w ws W.drew:=⟨h.bz,h.bw,h.bel.drew⟩
theorem OfM.put {w W:World} {ws:List Int} (h:OfM w ws W) (i:Nat) (x:Int):OfM w (ws.set i x) (W.setCell ⟨w.heap.size+1,i,none⟩ (.int .u64 x)):=
 ⟨h.bz.far (p:=⟨w.heap.size+1,i,none⟩) σ _,h.bw.put i x,h.bel.setCell (p:=⟨w.heap.size+1,i,none⟩) σ _⟩
theorem of_any (s:ByteArray) (w:World) (hs:s.size=32):
  Calls prog 157 #[.string s] w λe w'=>e=.returned (.tuple #[.agg (xE (xZs s)),.bool true])/\ψ w w':=by
 have hsi:(s.size:Int)=32:=ω;have H0:Hid (OfM w (wI s 0) ((w.alloc (.cells (xE (List.replicate 5 0)) 214)).alloc (.cells (xE (List.replicate 4 0)) 300))):=ι ⟨zK _ _ _,zD _ _ _,(φ w _).alloc σ _⟩;have HR:Hid (∀n,n=32->xZs s=xTn (wI s n)):=ι (λn hn=>by rw[hn];rfl)
 have HL:=ι (λi=>xZ3 s i);have HU:=ι (λi=>wI_u s i);obtain⟨res,hres⟩:∃x,xZs s=x:=⟨_,rfl⟩;have hrl:res.length=5:=by rw[<-hres];rfl
 rw[hres] at HR⊢;have HS:=ι hs;clear hres hs;go_enter func157,ntmps157;go_upto_region 4 with fail
 refine(λ(h:∀W3,Hid (OfM w (wI s 0) W3)->Code.wp _ _ _ _ W3)=>h _ H0) ?_;clear H0;intro W0 H0;go_wp2_with fail
 go_loopw [12] (λiv W=>∃i:Nat,i<=32/\iv=.int .i64 i/\Hid (OfM w (wI s i) W)) (λiv _=>32- (intOf iv).toNat)
 case atStart=>exact⟨0,δ,rfl,H0⟩
 case round=>
  clear H0;obtain⟨i,hi,rfl,hr⟩:=hrel
  by_cases hlt:i<32
  ·have HSt:Hid (∀q r,q=i / 8->r=i % 8->wI s (i+1)=(wI s i).set q (bits .or .u64 ((wI s i).getD q 0) (IntKind.u64.wrap (yO s i*2^(8*r))))):=ι (λq r hq hr=>by rw[hq,hr];rfl);have hll:=HL.o i;obtain⟨q,hq⟩:∃q,q=i / 8:=⟨_,rfl⟩;obtain⟨r,hrr⟩:∃r,r=i % 8:=⟨_,rfl⟩
   replace HSt:=ι (HSt.o q r hq hrr)
   have hq4:q<4:=ω;have hr8:r<8:=ω;have hiq:(i:Int) / 8=(q:Int):=ω;have hir:(i:Int) % 8=(r:Int):=ω;obtain⟨s1,hs1⟩:∃z,wI s (i+1)=z:=⟨_,rfl⟩;rw[hs1] at HSt;have HS1:=ι hs1;have hu:=HU.o i q;have ix:=λw=>zG (P:=prog) underlying9 s (i:Int) i rfl (by rw[HS.o];exact hlt) w
   obtain⟨b0,b1⟩:=yZ s i;clear hs1 hq hrr;generalize wI s i=l at hr hll hu HSt;obtain⟨x,hx⟩:∃x,l.getD q 0=x:=⟨_,rfl⟩;rw[hx] at hu HSt;obtain⟨x0,x1⟩:=hu;have HX:=ι hx;generalize yO s i=b at ix b0 b1 HSt;obtain⟨z,hz⟩:∃z,bits .or .u64 x (IntKind.u64.wrap (b*2^(8*r)))=z:=⟨_,rfl⟩
   rw[hz] at HSt;have HZ:=ι hz;clear hx;go_upto_region 7 with fail
   refine RG.yM 15 (λL W=>Hid (OfM w (if L 14 then l.set q z else l) W)) (λL L' W h hI=>by rw[<-h 14 δ];exact hI) κ κ rfl (ι hr.o.drew) ?_;iterate 3 refine RG.cS ?_
   apply RG.xN
   ·rfl
   ·rfl
   ·intro L w9 h0 hcl xP hw9;have e1:=hcl.not 15 (i:=14) h0 κ;have hs9:=hw9.o;rw[e1,if_neg σ] at hs9;have q:=hs9.bw.cell (i:=q) ω;rw[HX.o] at q;clear e1 hs9;repeat go_step
    refine RG.xB ?_;exact⟨xP,hw9⟩
   ·rfl
   iterate 10 refine RG.cS ?_
   apply RG.xN
   ·rfl
   ·rfl
   ·intro L w9 h0 hcl xP hw9;have hs9:=hw9.o;rw[h0,if_neg σ] at hs9;have q1:=hs9.bw.cell (i:=q) ω;have q2:=hs9.bw.free q;rw[HX.o] at q1;have hp:Hid (OfM w (l.set q z) (w9.setCell ⟨w.heap.size+1,q,none⟩ (.int .u64 z))):=ι (hs9.put q z);clear hs9;repeat go_step
    refine RG.xB ?_;refine⟨xP,?_⟩;show Hid (OfM w (if (true:Bool)=true then l.set q z else l) _);rw[if_pos rfl];with_reducible exact hp
   ·rfl
   refine RG.xY (λw9 hw9=>?_);rw[if_pos rfl,<-HSt.o] at hw9;clear hr;go_wp2;exact⟨⟨i+1,ω,by go_num,by rw[HS1.o];exact hw9⟩,by simp[intOf];omega⟩
  ·have hie:i=32:=ω;have HRi:=ι (HR.o i hie);obtain⟨a,b,c,d,habcd⟩:=yBy (HL.o i);have hu:=HU.o i;rw[habcd] at hr HRi hu;have ha:=hu 0;have hb:=hu 1;have hc:=hu 2;have hd:=hu 3;simp only[List.getD_cons_zero,List.getD_cons_succ] at ha hb hc hd;obtain⟨a0,a1⟩:=ha;obtain⟨b0,b1⟩:=hb
   obtain⟨c0,c1⟩:=hc;obtain⟨d0,d1⟩:=hd;have q0:wr.cell? ⟨w.heap.size+1,0,none⟩=some (.int .u64 a):=hr.o.bw.cell (i:=0) σ;have q1:wr.cell? ⟨w.heap.size+1,1,none⟩=some (.int .u64 b):=hr.o.bw.cell (i:=1) σ
   have q2:wr.cell? ⟨w.heap.size+1,2,none⟩=some (.int .u64 c):=hr.o.bw.cell (i:=2) σ;have q3:wr.cell? ⟨w.heap.size+1,3,none⟩=some (.int .u64 d):=hr.o.bw.cell (i:=3) σ;have hneg:¬((i:Int)<32):=ω;have HBZ:=ι hr.o.bz;have HBE:=ι hr.o.bel;clear HR HL HU hu habcd hr hie hlt hi
   go_wp2_with (refine wpList_store_row rfl _ _ _ rfl w.heap.size _ rfl rfl _ _ HBZ.o (show(prog.info? 214).map (·.size)=some 5 by kernel_rfl) rfl (by simp[Value.oneCell']) ?_)
   refine bodyPost_ret (SH.results_cell_tmp rfl _ _ w.heap.size _ _ (0,0) _ rfl (setRow_heap _ _ _ _ _ _ HBZ.o) underlying214 rfl (show(prog.info? 214).map (·.size)=some 5 by kernel_rfl)) rfl ?_;rw[HRi.o];exact⟨rfl,below_setRow HBE.o ν _⟩
end Go.Proofs.FE
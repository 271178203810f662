/- Contracts of functions. Conditions: as stated. -/
import Derived.Test.YtjdkeibcoiiliaaGreatDoorVaultWholeProofB04
open Go.Proofs.Tryz
set_option maxHeartbeats 8000000
set_option maxRecDepth 100000
namespace Mailsack
theorem yIp (a b:Nat) (ha:a<256) (hb:b<256):Go.bits .or .i64 (a:Int) ((b:Int)*256)=(a:Int)+256*b:=by
 have hx:b*256 |||a=b*256+a:=by
  have:=Fq (i:=8) (b:=a) ω b;rw[show 2^8*b=b*256 by omega] at this;exact this.symm
 have h1:(BitVec.ofInt 64 (a:Int)).toNat=a:=by
  rw[Ey,Fy];exact Dx ω
 have h2:(BitVec.ofInt 64 ((b:Int)*256)).toNat=b*256:=by
  rw[show(b:Int)*256=((b*256:Nat):Int) by omega,Ey,Fy];exact Dx ω
 show Go.IntKind.i64.wrap ((BitVec.ofInt 64 (a:Int) |||BitVec.ofInt 64 ((b:Int)*256)).toNat:Int)=_;rw[BitVec.toNat_or,h1,h2,Nat.or_comm,hx,Go.IntKind.wrap_i64];omega
theorem xWg (s:ByteArray) (i:Nat):yU s i=(bN s.data.toList i:Int):=rfl
end Mailsack
namespace Go.Proofs.ST
open Go.RowKit Mailsack MM BB SH SV RK DS
structure DcM (w:World) (g:Nat) (t:Slot) (W:World):Prop where
 o:W.heap[w.heap.size]?=some (kQ noSlot)
 s:W.heap[g]?=some (kQ t)
 bel:ψ w W
 lt:w.heap.size<g
theorem xYh (s:ByteArray) (w:World) (hs:s.size=64):
  Calls prog 77 #[.string s] w (pv (xKq (xMj s.data.toList)) w):=by
 have i0:=λw=>zN (P:=prog) underlying9 s (0:Int) 0 rfl ω w;have i1:=λw=>zN (P:=prog) underlying9 s (1:Int) 1 rfl ω w;have i2:=λw=>zN (P:=prog) underlying9 s (2:Int) 2 rfl ω w;have i3:=λw=>zN (P:=prog) underlying9 s (3:Int) 3 rfl ω w
 have i4:=λw=>zN (P:=prog) underlying9 s (4:Int) 4 rfl ω w;have i5:=λw=>zN (P:=prog) underlying9 s (5:Int) 5 rfl ω w;rw[xWg] at i0 i1 i2 i3 i4 i5;have l0:=xYx s.data.toList 0;have l1:=xYx s.data.toList 1;have l2:=xYx s.data.toList 2
 have l3:=xYx s.data.toList 3;have l4:=xYx s.data.toList 4;have l5:=xYx s.data.toList 5;have xU6:Hid (xMj s.data.toList=if xM0 s.data.toList=true then(if s.data.toList=tX (pQ s.data.toList) then pQ s.data.toList else noSlot) else noSlot):=ι rfl
 have HOK:Hid (xM0 s.data.toList=(decide (bN s.data.toList 0=1)&&decide (bN s.data.toList 1<=1)&&decide (bN s.data.toList 2<vQ (bN s.data.toList 1))&&decide (bN s.data.toList 3+256*bN s.data.toList 4<=rE (bN s.data.toList 1))&&decide (1<=bN s.data.toList 5)&&decide (bN s.data.toList 5<=24))):=ι rfl
 have HSL:Hid (pQ s.data.toList=⟨true,bN s.data.toList 1,bN s.data.toList 2,bN s.data.toList 3+256*bN s.data.toList 4,(s.data.toList.drop 6).take (bN s.data.toList 5)⟩):=ι rfl;have HOR:=ι (yIp _ _ l3 l4);generalize bN s.data.toList 0=b0 at*;generalize bN s.data.toList 1=b1 at*
 generalize bN s.data.toList 2=b2 at*;generalize bN s.data.toList 3=b3 at*;generalize bN s.data.toList 4=b4 at*;generalize bN s.data.toList 5=b5 at*;obtain⟨dv,hdv⟩:=eX (xMj s.data.toList);rw[hdv] at xU6⊢;have HSZ:=ι hs;clear hdv hs
 have HO0:=ι (Ai (xJ w (kQ noSlot)) (φ w (kQ noSlot)));go_enter func77,ntmps77;go_upto_region 1 with fail
 generalize hw1:w.alloc (.cells #[.bool false,.int .i64 0,.int .i64 0,.int .i64 0,.string ⟨#[]⟩] 137)=w1;have HO1:Hid (w1.heap[w.heap.size]?=some (kQ noSlot)/\ψ w w1):=ι (by rw[<-hw1];exact HO0.o);clear hw1 HO0;have hor:=HOR.o;obtain⟨sz,hsz⟩:=eX (b3+256*b4)
 rw[show(b3:Int)+256*b4=(sz:Int) by omega] at hor;rw[hsz] at HOK HSL;have HSB:Hid (sz<=65535):=ι ω;clear HOR hsz;have hTT:rW ⟨true,b1,b2,sz,[]⟩=[.bool true,.int .i64 b1,.int .i64 b2,.int .i64 sz,.string ⟨#[]⟩]:=rfl;have HTT:=ι hTT;clear hTT
 refine RG.vE [16] [15] (λL α W=>Hid (W.heap[w.heap.size]?=some (kQ noSlot)/\ψ w W/\(L 15=true->∃g,α 15=.pointer (some (θ g 0))/\w.heap.size<g/\(L 16=false->W.heap[g]?=some (kQ noSlot))/\(L 16=true->W.heap[g]?=some (kQ ⟨true,b1,b2,sz,[]⟩)))))
  (λL L' α α' W hl ha h=>ι ⟨h.o.1,h.o.2.1,λe15=>by
   have f15:L 15=true:=by rw[hl 15 σ];exact e15
   rw[<-ha 15 σ f15,<-hl 16 σ];exact h.o.2.2 f15⟩) κ κ κ (ι ⟨HO1.o.1,HO1.o.2.drew,λe=>(by cases e)⟩) ?_
 iterate 15 refine RG.vS ?_
 apply RG.qP
 ·rfl
 ·intro α L w9 h0 hcl xQ hw9;have h16:L 16=false:=hcl.not 8 (i:=16) h0 κ;refine⟨.pointer (some (θ w9.heap.size 0)),λbv hbv=>?_⟩;repeat go_step
  rw[<-hbv];refine RG.xE ?_
  exact ι ⟨xN hw9.o.1 _,hw9.o.2.1.alloc hw9.o.2.1.size _,λ_=>⟨w9.heap.size,by
   rw[show RG.xLu α (0+1+1+1+1+1+1+1+1+1+1+1+1+1+1+1) bv 15=bv from RG.zL _ _ _,hbv],xH hw9.o.1,λ_=>xJ _ _,λe=>by
    have:L 16=true:=by simpa using e
    rw[h16] at this;cases this⟩⟩
 ·intro b α;rfl
 apply RG.xDu (v:=undef)
 ·rfl
 ·rfl
 ·intro α L w9 h0 hcl xQ hw9
  have h15:L 15=true:=by
   have:=xQ.yes 8 (i:=16) (j:=15) σ κ;simpa using this
  obtain⟨g,hg,hlt,hb,_⟩:=hw9.o.2.2 h15;have hbg:=hb h0;rw[show α (0+1+1+1+1+1+1+1+1+1+1+1+1+1+1+1)=_ from hg];obtain⟨o0,y0,f0,o1,y1,f1,o2,y2,f2,o3,y3,f3,o4,y4,f4,HB⟩:=yHt hbg hw9.o.2.1 ω (.bool true) (.int .i64 b1) (.int .i64 b2) (.int .i64 sz) (.string ⟨#[]⟩) _ rfl
  have HSS:=ι (Ai (vC (b:=g) (l:=[.bool true,.int .i64 b1,.int .i64 b2,.int .i64 sz,.string ⟨#[]⟩]) hbg rfl) (yH (b:=g) (g:=w.heap.size) ω [.bool true,.int .i64 b1,.int .i64 b2,.int .i64 sz,.string ⟨#[]⟩] 0 _ hw9.o.1));have HG:=ι (Ai hg hlt);clear hg hlt hb hbg
  repeat go_step
  rw[<-show α (0+1+1+1+1+1+1+1+1+1+1+1+1+1+1+1)=_ from HG.o.1];refine RG.xE ?_;exact ι ⟨HSS.o.2,HB.o,λ_=>⟨g,HG.o.1,HG.o.2,λe=>by simp at e,λ_=>HSS.o.1⟩⟩
 ·intro α;rfl
 refine RG.xA6 (λα w9 hw9=>?_);obtain⟨g,hg,hlt,_,hb⟩:=hw9.o.2.2 rfl;rw[show α (0+1+1+1+1+1+1+1+1+1+1+1+1+1+1+1)=_ from hg];have HD:=ι (show DcM w g ⟨true,b1,b2,sz,[]⟩ w9 from⟨hw9.o.1,hb rfl,hw9.o.2.1,hlt⟩);clear hg hlt hb hw9 HO1 hor HTT;go_wp2_with fail
 have HBL:=ι (λW=>xEb b1 W);have HCP:=ι (λW=>xB9 b1 W);have HCL:Hid (rE b1<=1024/\vQ b1<=24):=ι ⟨xOq _,xHa _⟩;generalize vQ b1=bl at HBL HOK HCL;generalize rE b1=cp at HCP HOK HCL
 by_cases t0:b0=1
 rotate_left
 ·have e0:¬((b0:Int)=1):=ω;have e9:((b0:Int)!=1)=true:=by simpa using e0
  have HDV:Hid (dv=noSlot):=ι (by rw[xU6.o,Ag];rw[HOK.o];simp;omega);clear xU6 HOK HSL;go_upto_region 3 with fail
  refine RG.xU (λW=>Hid (DcM w g ⟨true,b1,b2,sz,[]⟩ W)) κ κ (ι ⟨HD.o.o,HD.o.s,HD.o.bel.drew,HD.o.lt⟩) ?_;iterate 4 refine RG.dS ?_
  iterate 3 refine RG.kS ?_
  iterate 2 refine RG.dS ?_
  iterate 6 refine RG.kS ?_
  iterate 2 refine RG.dS ?_
  iterate 6 refine RG.kS ?_
  iterate 2 refine RG.dS ?_
  iterate 2 refine RG.kS ?_
  iterate 2 refine RG.dS ?_
  iterate 2 refine RG.kS ?_
  refine RG.dS ?_;refine RG.xX (λw3 hw3=>?_);obtain⟨o0,y0,f0,o1,y1,f1,o2,y2,f2,o3,y3,f3,o4,y4,f4,HB⟩:=yHt hw3.o.o hw3.o.bel ω (.bool false) (.int .i64 0) (.int .i64 0) (.int .i64 0) (.string ⟨#[]⟩) _ rfl;clear hw3 HD;go_wp2
  refine Ak (v:=xKq noSlot) (by simp[results,results77,go_sem,f0,f1,f2,f3,f4,noSlot]) rfl ?_;exact⟨by rw[HDV.o],HB.o⟩
 have g0:(b0:Int)=1:=ω;have g9:((b0:Int)!=1)=false:=by simp[g0]
 by_cases t1:b1<=1
 rotate_left
 ·have e0:1<(b1:Int):=ω;have HDV:Hid (dv=noSlot):=ι (by rw[xU6.o,Ag];rw[HOK.o];simp;omega);clear xU6 HOK HSL;go_upto_region 3 with fail
  refine RG.xU (λW=>Hid (DcM w g ⟨true,b1,b2,sz,[]⟩ W)) κ κ (ι ⟨HD.o.o,HD.o.s,HD.o.bel.drew,HD.o.lt⟩) ?_;iterate 4 refine RG.dS ?_
  iterate 3
   apply RG.xL
   ·intro w9 hw9;have hb:=hw9.o.s;have c1:=xA hb 1;have c2:=xA hb 2;have c3:=xA hb 3;simp only[gA,gB,gC] at c1 c2 c3;repeat go_step
    exact RG.xE hw9
   ·rfl
  iterate 2 refine RG.dS ?_
  iterate 6 refine RG.kS ?_
  iterate 2 refine RG.dS ?_
  iterate 6 refine RG.kS ?_
  iterate 2 refine RG.dS ?_
  iterate 2 refine RG.kS ?_
  iterate 2 refine RG.dS ?_
  iterate 2 refine RG.kS ?_
  refine RG.dS ?_;refine RG.xX (λw3 hw3=>?_);obtain⟨o0,y0,f0,o1,y1,f1,o2,y2,f2,o3,y3,f3,o4,y4,f4,HB⟩:=yHt hw3.o.o hw3.o.bel ω (.bool false) (.int .i64 0) (.int .i64 0) (.int .i64 0) (.string ⟨#[]⟩) _ rfl;clear hw3 HD;go_wp2
  refine Ak (v:=xKq noSlot) (by simp[results,results77,go_sem,f0,f1,f2,f3,f4,noSlot]) rfl ?_;exact⟨by rw[HDV.o],HB.o⟩
 have g1:¬(1<(b1:Int)):=ω
 by_cases t2:b2<bl
 rotate_left
 ·have e0:(bl:Int)<=(b2:Int):=ω;have HDV:Hid (dv=noSlot):=ι (by rw[xU6.o,Ag];rw[HOK.o];simp;omega);clear xU6 HOK HSL;go_upto_region 3 with fail
  refine RG.xU (λW=>Hid (DcM w g ⟨true,b1,b2,sz,[]⟩ W)) κ κ (ι ⟨HD.o.o,HD.o.s,HD.o.bel.drew,HD.o.lt⟩) ?_;iterate 4 refine RG.dS ?_
  iterate 3
   apply RG.xL
   ·intro w9 hw9;have hb:=hw9.o.s;have c1:=xA hb 1;have c2:=xA hb 2;have c3:=xA hb 3;simp only[gA,gB,gC] at c1 c2 c3;repeat go_step
    exact RG.xE hw9
   ·rfl
  iterate 2 refine RG.dS ?_
  iterate 4
   apply RG.xL
   ·intro w9 hw9;have hb:=hw9.o.s;have c1:=xA hb 1;have c2:=xA hb 2;have c3:=xA hb 3;simp only[gA,gB,gC] at c1 c2 c3;repeat go_step
    exact RG.xE hw9
   ·rfl
  apply RG.xL
  ·intro w9 hw9;repeat go_step
   refine(HBL.o _).mono ?_;rintro e w10 ⟨rfl,rfl⟩;simp only[];repeat go_step
   exact RG.xE hw9
  ·rfl
  apply RG.xL
  ·intro w9 hw9;have hb:=hw9.o.s;have c1:=xA hb 1;have c2:=xA hb 2;have c3:=xA hb 3;simp only[gA,gB,gC] at c1 c2 c3;repeat go_step
   exact RG.xE hw9
  ·rfl
  iterate 2 refine RG.dS ?_
  iterate 6 refine RG.kS ?_
  iterate 2 refine RG.dS ?_
  iterate 2 refine RG.kS ?_
  iterate 2 refine RG.dS ?_
  iterate 2 refine RG.kS ?_
  refine RG.dS ?_;refine RG.xX (λw3 hw3=>?_);obtain⟨o0,y0,f0,o1,y1,f1,o2,y2,f2,o3,y3,f3,o4,y4,f4,HB⟩:=yHt hw3.o.o hw3.o.bel ω (.bool false) (.int .i64 0) (.int .i64 0) (.int .i64 0) (.string ⟨#[]⟩) _ rfl;clear hw3 HD;go_wp2
  refine Ak (v:=xKq noSlot) (by simp[results,results77,go_sem,f0,f1,f2,f3,f4,noSlot]) rfl ?_;exact⟨by rw[HDV.o],HB.o⟩
 have g2:¬((bl:Int)<=(b2:Int)):=ω
 by_cases t3:sz<=cp
 rotate_left
 ·have e0:(cp:Int)<(sz:Int):=ω;have HDV:Hid (dv=noSlot):=ι (by rw[xU6.o,Ag];rw[HOK.o];simp;omega);clear xU6 HOK HSL;go_upto_region 3 with fail
  refine RG.xU (λW=>Hid (DcM w g ⟨true,b1,b2,sz,[]⟩ W)) κ κ (ι ⟨HD.o.o,HD.o.s,HD.o.bel.drew,HD.o.lt⟩) ?_;iterate 4 refine RG.dS ?_
  iterate 3
   apply RG.xL
   ·intro w9 hw9;have hb:=hw9.o.s;have c1:=xA hb 1;have c2:=xA hb 2;have c3:=xA hb 3;simp only[gA,gB,gC] at c1 c2 c3;repeat go_step
    exact RG.xE hw9
   ·rfl
  iterate 2 refine RG.dS ?_
  iterate 4
   apply RG.xL
   ·intro w9 hw9;have hb:=hw9.o.s;have c1:=xA hb 1;have c2:=xA hb 2;have c3:=xA hb 3;simp only[gA,gB,gC] at c1 c2 c3;repeat go_step
    exact RG.xE hw9
   ·rfl
  apply RG.xL
  ·intro w9 hw9;repeat go_step
   refine(HBL.o _).mono ?_;rintro e w10 ⟨rfl,rfl⟩;simp only[];repeat go_step
   exact RG.xE hw9
  ·rfl
  apply RG.xL
  ·intro w9 hw9;have hb:=hw9.o.s;have c1:=xA hb 1;have c2:=xA hb 2;have c3:=xA hb 3;simp only[gA,gB,gC] at c1 c2 c3;repeat go_step
   exact RG.xE hw9
  ·rfl
  iterate 2 refine RG.dS ?_
  iterate 4
   apply RG.xL
   ·intro w9 hw9;have hb:=hw9.o.s;have c1:=xA hb 1;have c2:=xA hb 2;have c3:=xA hb 3;simp only[gA,gB,gC] at c1 c2 c3;repeat go_step
    exact RG.xE hw9
   ·rfl
  apply RG.xL
  ·intro w9 hw9;repeat go_step
   refine(HCP.o _).mono ?_;rintro e w10 ⟨rfl,rfl⟩;simp only[];repeat go_step
   exact RG.xE hw9
  ·rfl
  apply RG.xL
  ·intro w9 hw9;have hb:=hw9.o.s;have c1:=xA hb 1;have c2:=xA hb 2;have c3:=xA hb 3;simp only[gA,gB,gC] at c1 c2 c3;repeat go_step
   exact RG.xE hw9
  ·rfl
  iterate 2 refine RG.dS ?_
  iterate 2 refine RG.kS ?_
  iterate 2 refine RG.dS ?_
  iterate 2 refine RG.kS ?_
  refine RG.dS ?_;refine RG.xX (λw3 hw3=>?_);obtain⟨o0,y0,f0,o1,y1,f1,o2,y2,f2,o3,y3,f3,o4,y4,f4,HB⟩:=yHt hw3.o.o hw3.o.bel ω (.bool false) (.int .i64 0) (.int .i64 0) (.int .i64 0) (.string ⟨#[]⟩) _ rfl;clear hw3 HD;go_wp2
  refine Ak (v:=xKq noSlot) (by simp[results,results77,go_sem,f0,f1,f2,f3,f4,noSlot]) rfl ?_;exact⟨by rw[HDV.o],HB.o⟩
 have g3:¬((cp:Int)<(sz:Int)):=ω
 by_cases t4:1<=b5
 rotate_left
 ·have e0:(b5:Int)<1:=ω;have HDV:Hid (dv=noSlot):=ι (by rw[xU6.o,Ag];rw[HOK.o];simp;omega);clear xU6 HOK HSL;go_upto_region 3 with fail
  refine RG.xU (λW=>Hid (DcM w g ⟨true,b1,b2,sz,[]⟩ W)) κ κ (ι ⟨HD.o.o,HD.o.s,HD.o.bel.drew,HD.o.lt⟩) ?_;iterate 4 refine RG.dS ?_
  iterate 3
   apply RG.xL
   ·intro w9 hw9;have hb:=hw9.o.s;have c1:=xA hb 1;have c2:=xA hb 2;have c3:=xA hb 3;simp only[gA,gB,gC] at c1 c2 c3;repeat go_step
    exact RG.xE hw9
   ·rfl
  iterate 2 refine RG.dS ?_
  iterate 4
   apply RG.xL
   ·intro w9 hw9;have hb:=hw9.o.s;have c1:=xA hb 1;have c2:=xA hb 2;have c3:=xA hb 3;simp only[gA,gB,gC] at c1 c2 c3;repeat go_step
    exact RG.xE hw9
   ·rfl
  apply RG.xL
  ·intro w9 hw9;repeat go_step
   refine(HBL.o _).mono ?_;rintro e w10 ⟨rfl,rfl⟩;simp only[];repeat go_step
   exact RG.xE hw9
  ·rfl
  apply RG.xL
  ·intro w9 hw9;have hb:=hw9.o.s;have c1:=xA hb 1;have c2:=xA hb 2;have c3:=xA hb 3;simp only[gA,gB,gC] at c1 c2 c3;repeat go_step
   exact RG.xE hw9
  ·rfl
  iterate 2 refine RG.dS ?_
  iterate 4
   apply RG.xL
   ·intro w9 hw9;have hb:=hw9.o.s;have c1:=xA hb 1;have c2:=xA hb 2;have c3:=xA hb 3;simp only[gA,gB,gC] at c1 c2 c3;repeat go_step
    exact RG.xE hw9
   ·rfl
  apply RG.xL
  ·intro w9 hw9;repeat go_step
   refine(HCP.o _).mono ?_;rintro e w10 ⟨rfl,rfl⟩;simp only[];repeat go_step
   exact RG.xE hw9
  ·rfl
  apply RG.xL
  ·intro w9 hw9;have hb:=hw9.o.s;have c1:=xA hb 1;have c2:=xA hb 2;have c3:=xA hb 3;simp only[gA,gB,gC] at c1 c2 c3;repeat go_step
   exact RG.xE hw9
  ·rfl
  iterate 2 refine RG.dS ?_
  iterate 2 refine RG.dS ?_
  iterate 2 refine RG.dS ?_
  iterate 2 refine RG.kS ?_
  refine RG.dS ?_;refine RG.xX (λw3 hw3=>?_);obtain⟨o0,y0,f0,o1,y1,f1,o2,y2,f2,o3,y3,f3,o4,y4,f4,HB⟩:=yHt hw3.o.o hw3.o.bel ω (.bool false) (.int .i64 0) (.int .i64 0) (.int .i64 0) (.string ⟨#[]⟩) _ rfl;clear hw3 HD;go_wp2
  refine Ak (v:=xKq noSlot) (by simp[results,results77,go_sem,f0,f1,f2,f3,f4,noSlot]) rfl ?_;exact⟨by rw[HDV.o],HB.o⟩
 have g4:¬((b5:Int)<1):=ω
 by_cases t5:b5<=24
 rotate_left
 ·have e0:24<(b5:Int):=ω;have HDV:Hid (dv=noSlot):=ι (by rw[xU6.o,Ag];rw[HOK.o];simp;omega);clear xU6 HOK HSL;go_upto_region 3 with fail
  refine RG.xU (λW=>Hid (DcM w g ⟨true,b1,b2,sz,[]⟩ W)) κ κ (ι ⟨HD.o.o,HD.o.s,HD.o.bel.drew,HD.o.lt⟩) ?_;iterate 4 refine RG.dS ?_
  iterate 3
   apply RG.xL
   ·intro w9 hw9;have hb:=hw9.o.s;have c1:=xA hb 1;have c2:=xA hb 2;have c3:=xA hb 3;simp only[gA,gB,gC] at c1 c2 c3;repeat go_step
    exact RG.xE hw9
   ·rfl
  iterate 2 refine RG.dS ?_
  iterate 4
   apply RG.xL
   ·intro w9 hw9;have hb:=hw9.o.s;have c1:=xA hb 1;have c2:=xA hb 2;have c3:=xA hb 3;simp only[gA,gB,gC] at c1 c2 c3;repeat go_step
    exact RG.xE hw9
   ·rfl
  apply RG.xL
  ·intro w9 hw9;repeat go_step
   refine(HBL.o _).mono ?_;rintro e w10 ⟨rfl,rfl⟩;simp only[];repeat go_step
   exact RG.xE hw9
  ·rfl
  apply RG.xL
  ·intro w9 hw9;have hb:=hw9.o.s;have c1:=xA hb 1;have c2:=xA hb 2;have c3:=xA hb 3;simp only[gA,gB,gC] at c1 c2 c3;repeat go_step
   exact RG.xE hw9
  ·rfl
  iterate 2 refine RG.dS ?_
  iterate 4
   apply RG.xL
   ·intro w9 hw9;have hb:=hw9.o.s;have c1:=xA hb 1;have c2:=xA hb 2;have c3:=xA hb 3;simp only[gA,gB,gC] at c1 c2 c3;repeat go_step
    exact RG.xE hw9
   ·rfl
  apply RG.xL
  ·intro w9 hw9;repeat go_step
   refine(HCP.o _).mono ?_;rintro e w10 ⟨rfl,rfl⟩;simp only[];repeat go_step
   exact RG.xE hw9
  ·rfl
  apply RG.xL
  ·intro w9 hw9;have hb:=hw9.o.s;have c1:=xA hb 1;have c2:=xA hb 2;have c3:=xA hb 3;simp only[gA,gB,gC] at c1 c2 c3;repeat go_step
   exact RG.xE hw9
  ·rfl
  iterate 2 refine RG.dS ?_
  iterate 2 refine RG.dS ?_
  iterate 2 refine RG.dS ?_
  iterate 2 refine RG.dS ?_
  refine RG.dS ?_;refine RG.xX (λw3 hw3=>?_);obtain⟨o0,y0,f0,o1,y1,f1,o2,y2,f2,o3,y3,f3,o4,y4,f4,HB⟩:=yHt hw3.o.o hw3.o.bel ω (.bool false) (.int .i64 0) (.int .i64 0) (.int .i64 0) (.string ⟨#[]⟩) _ rfl;clear hw3 HD;go_wp2
  refine Ak (v:=xKq noSlot) (by simp[results,results77,go_sem,f0,f1,f2,f3,f4,noSlot]) rfl ?_;exact⟨by rw[HDV.o],HB.o⟩
 have g5:¬(24<(b5:Int)):=ω;have HTR:Hid (dv=if s.data.toList=tX (pQ s.data.toList) then pQ s.data.toList else noSlot):=ι (by rw[xU6.o,Ah];rw[HOK.o];simp[t0,t1,t2,t3,t4,t5]);clear xU6 HOK;go_upto_region 3 with fail
 refine RG.xU (λW=>Hid (DcM w g ⟨true,b1,b2,sz,[]⟩ W)) κ κ (ι ⟨HD.o.o,HD.o.s,HD.o.bel.drew,HD.o.lt⟩) ?_;iterate 4 refine RG.dS ?_
 iterate 3
  apply RG.xL
  ·intro w9 hw9;have hb:=hw9.o.s;have c1:=xA hb 1;have c2:=xA hb 2;have c3:=xA hb 3;simp only[gA,gB,gC] at c1 c2 c3;repeat go_step
   exact RG.xE hw9
  ·rfl
 iterate 2 refine RG.dS ?_
 iterate 4
  apply RG.xL
  ·intro w9 hw9;have hb:=hw9.o.s;have c1:=xA hb 1;have c2:=xA hb 2;have c3:=xA hb 3;simp only[gA,gB,gC] at c1 c2 c3;repeat go_step
   exact RG.xE hw9
  ·rfl
 apply RG.xL
 ·intro w9 hw9;repeat go_step
  refine(HBL.o _).mono ?_;rintro e w10 ⟨rfl,rfl⟩;simp only[];repeat go_step
  exact RG.xE hw9
 ·rfl
 apply RG.xL
 ·intro w9 hw9;have hb:=hw9.o.s;have c1:=xA hb 1;have c2:=xA hb 2;have c3:=xA hb 3;simp only[gA,gB,gC] at c1 c2 c3;repeat go_step
  exact RG.xE hw9
 ·rfl
 iterate 2 refine RG.dS ?_
 iterate 4
  apply RG.xL
  ·intro w9 hw9;have hb:=hw9.o.s;have c1:=xA hb 1;have c2:=xA hb 2;have c3:=xA hb 3;simp only[gA,gB,gC] at c1 c2 c3;repeat go_step
   exact RG.xE hw9
  ·rfl
 apply RG.xL
 ·intro w9 hw9;repeat go_step
  refine(HCP.o _).mono ?_;rintro e w10 ⟨rfl,rfl⟩;simp only[];repeat go_step
  exact RG.xE hw9
 ·rfl
 apply RG.xL
 ·intro w9 hw9;have hb:=hw9.o.s;have c1:=xA hb 1;have c2:=xA hb 2;have c3:=xA hb 3;simp only[gA,gB,gC] at c1 c2 c3;repeat go_step
  exact RG.xE hw9
 ·rfl
 iterate 2 refine RG.dS ?_
 iterate 2 refine RG.dS ?_
 iterate 2 refine RG.dS ?_
 iterate 2 refine RG.dS ?_
 refine RG.dS ?_;refine RG.xX (λw3 hw3=>?_);have HD3:=hw3;clear hw3 HD HBL HCP;obtain⟨nb,hnb⟩:=eX (s.extract 6 (6+b5))
 have HNB:Hid (xR ((s.data.toList.drop 6).take b5)=.string nb/\nb.size=b5):=ι (by
  have hz:=HSZ.o;have h1:s.data.size=64:=hz
  constructor
  ·rw[<-hnb];show Value.string _=Value.string _
   congr 1
   apply Ee;apply Array.ext';rw[Dh,He];simp[List.extract]
  ·rw[<-hnb,Az];omega)
 have hzi:(s.size:Int)=64:=by have:=HSZ.o;omega
 have hnbi:s.extract 6 (6+b5)=nb:=hnb;have hb:=HD3.o.s;obtain⟨c0,c1,c2,c3,c4⟩:=xZe hb;have y4:=xG hb 4;clear hb hnb;go_upto_region 6 with fail
 have HD4:=ι (show DcM w g ⟨true,b1,b2,sz,(s.data.toList.drop 6).take b5⟩ (w3.setCell (θ g 4) (.string nb)) from⟨yA HD3.o.o (p:=θ g 4) (by have:=HD3.o.lt;show w.heap.size≠g;omega) _,by
  have:=yD HD3.o.s 4 (.string nb);rw[this];show some (Obj.cells _ _ _)=some (kQ _);simp only[kQ,HNB.o.1]
  rfl,HD3.o.bel.setCell (p:=θ g 4) (Gt HD3.o.lt) _,HD3.o.lt⟩)
 have HEN:=ι (λW=>xMf ⟨true,b1,b2,sz,(s.data.toList.drop 6).take b5⟩ W (by show b1<=255;omega) (by show b2<=255;omega) (HSB.o) (by show((s.data.toList.drop 6).take b5).length<=255;rw[Ck];omega));rw[<-HSL.o] at HEN
 rw[show xKq (pQ s.data.toList)=.agg #[.bool true,.int .i64 b1,.int .i64 b2,.int .i64 sz,.string nb] from by rw[HSL.o];simp only[xKq,HNB.o.1]] at HEN;clear HD3 c0 c1 c2 c3 c4 y4;generalize w3.setCell (θ g 4) (.string nb)=w4 at HD4⊢;rw[<-HSL.o] at HD4;have hb:=HD4.o.s
 rw[HSL.o] at hb;simp only[kQ,HNB.o.1] at hb;obtain⟨c0,c1,c2,c3,c4⟩:=xZe hb;clear hb
 have HSF:Hid (kQ (pQ s.data.toList)=.cells #[.bool true,.int .i64 b1,.int .i64 b2,.int .i64 sz,.string nb] 137/\xKq (pQ s.data.toList)=.agg #[.bool true,.int .i64 b1,.int .i64 b2,.int .i64 sz,.string nb]):=ι (by rw[HSL.o];simp only[kQ,xKq,HNB.o.1,and_self]);clear HSL HNB
 generalize pQ s.data.toList=so at HEN HD4 HTR HSF;obtain⟨ev,hev⟩:=eX (tX so);rw[hev] at HEN HTR;clear hev;go_wp2_with fail
 refine cM (HEN.o _) λw5 hb5=>?_;clear c0 c1 c2 c3 c4
 have HD5:=ι (show ψ w w5/\w5.heap[w.heap.size]?=some (kQ noSlot)/\w5.heap[g]?=some (.cells #[.bool true,.int .i64 b1,.int .i64 b2,.int .i64 sz,.string nb] 137 (0,0)) from⟨bT HD4.o.bel hb5,xC HD4.o.o hb5 (xH HD4.o.o),by rw[<-HSF.o.1];exact xC HD4.o.s hb5 (xH HD4.o.s)⟩)
 clear hb5 HD4 HEN
 by_cases he:s.data.toList=ev
 ·have HDV:Hid (dv=so):=ι (by rw[HTR.o,Ah he]);have e1:(!s.toList==ev)=false:=by rw[Br,he];simp
  clear HTR he hnbi;go_upto_region 8 with fail
  have hb:=HD5.o.2.2;obtain⟨c0,c1,c2,c3,c4⟩:=xZe hb;clear hb;obtain⟨o0,y0,f0,o1,y1,f1,o2,y2,f2,o3,y3,f3,o4,y4,f4,HB⟩:=yHt HD5.o.2.1 HD5.o.1 ω (.bool true) (.int .i64 b1) (.int .i64 b2) (.int .i64 sz) (.string nb) _ rfl;clear HD5 e1;go_wp2
  refine Ak (v:=.agg #[.bool true,.int .i64 b1,.int .i64 b2,.int .i64 sz,.string nb]) (by simp[results,results77,go_sem,f0,f1,f2,f3,f4]) rfl ?_;exact⟨by rw[HDV.o,HSF.o.2],HB.o⟩
 ·have HDV:Hid (dv=noSlot):=ι (by rw[HTR.o,Ag he]);have e1:(!s.toList==ev)=true:=by rw[Br];simpa using he
  clear HTR he hnbi;obtain⟨o0,y0,f0,o1,y1,f1,o2,y2,f2,o3,y3,f3,o4,y4,f4,HB⟩:=yHt HD5.o.2.1 HD5.o.1 ω (.bool false) (.int .i64 0) (.int .i64 0) (.int .i64 0) (.string ⟨#[]⟩) _ rfl;clear HD5;go_wp2
  refine Ak (v:=xKq noSlot) (by simp[results,results77,go_sem,f0,f1,f2,f3,f4,noSlot]) rfl ?_;exact⟨by rw[HDV.o],HB.o⟩
end Go.Proofs.ST
namespace Go.Proofs.RK
open Go.RowKit MM
section
variable {α:Type} {e:TypeId} {n:Nat} {f:α->List Value}
theorem xVq (hk:∀x,(f x).length=n) (t:α):∀(L:List α) (k:Nat),k<L.length->(L.flatMap f).take (k*n)++f t++(L.flatMap f).drop (k*n+(f t).length)=(L.set k t).flatMap f
 |[],_,h=>by simp at h
 |x::L,0,_=>by
  rw[Cz,Nat.zero_mul,List.take_zero,Es,Ay,hk,Bh,Cz,<-hk x,List.drop_left]
 |x::L,k+1,h=>by
  have ih:=xVq hk t L k (by simpa using h);rw[hk t] at ih
  rw[Cz,Cm,Cz,<-ih,hk t,show(k+1)*n=n+k*n by rw[Fj];omega,List.take_append,List.drop_append,hk x,show n+k*n-n=k*n by omega,show n+k*n+n-n=k*n+n by omega,
   Ce (by rw[hk];omega),List.drop_eq_nil_of_le (by rw[hk];omega)]
  simp
def rG (e:TypeId) (f:α->List Value) (W:World) (g:Nat) (L:List α):Prop:=W.heap[g]?=some (.cells (L.flatMap f).toArray e (0,0))
variable {W W':World} {g:Nat} {L:List α}
theorem rG.blk (h:rG e f W g L):W.heap[g]?=some (.cells (L.flatMap f).toArray e (0,0)):=h
theorem rG.put (hk:∀x,(f x).length=n) (h:rG e f W g L) {k:Nat} (hl:k<L.length) (t:α):rG e f (SV.yE g (k*n) (f t) W) g (L.set k t):=by
 have:=SV.xDx (f t) (k*n) W _ h.blk (by
  rw[hk,List.size_toArray,xIe hk];have:=Nat.mul_le_mul_right n hl;rw[Fj] at this;exact this)
 unfold rG;rw[this,<-xVq hk t L k hl]
theorem rG.cell (hk:∀x,(f x).length=n) (h:rG e f W g L) {k i:Nat} {x:α} {u:Value} (hx:L[k]?=some x) (hu:(f x)[i]?=some u):W.cell? ⟨g,k*n+i,none⟩=some u:=by
 rw[xA h.blk,Dv];exact flat_get hk L k i x u hx hu
theorem rG.free (h:rG e f W g L) (i:Nat):W.frozen? (θ g i)=false:=xG h.blk i
theorem rG.below (h:rG e f W g L) (hb:ψ W W'):rG e f W' g L:=xC h.blk hb (xH h.blk)
theorem rG.rd (hk:∀x,(f x).length=n) (h:rG e f W g L) {B:Nat} (hB:g<B) {c:Nat} (hc:L.length<=c):RdR n f W B (.slice (some (θ g 0)) L.length c) L:=
 ⟨_,c,rfl,hc,λ_=>⟨g,0,rfl,hB,λj x hx i u hu=>by rw[Ay];exact h.cell hk hx hu⟩⟩
theorem yC8 (hk:∀x,(f x).length=n) (h0:0<n) (x0:α) (m:Nat):madeCells (f x0).toArray (m*n)=((List.replicate m x0).flatMap f).toArray:=by
 apply Array.ext_getElem?;intro i
 by_cases h:i<m*n
 ·have hm:i % n<n:=Nat.mod_lt _ h0;have hd:i / n<m:=Nat.div_lt_of_lt_mul (by rw[Fp];exact h);obtain⟨u,hu⟩:∃u,(f x0)[i % n]?=some u:=⟨_,Af (by rw[hk];exact hm)⟩;have r:=flat_get hk (List.replicate m x0) (i / n) (i % n) x0 u (by simp[hd]) hu
  rw[show i / n*n+i % n=i by rw[Fp];exact Nat.div_add_mod i n] at r;have r2:((List.replicate m x0).flatMap f).toArray[i]?=some u:=by rw[Dv];exact r
  rw[r2];have hu2:=hu;rw[Af (by rw[hk];exact hm)] at hu2;injection hu2 with hu2;simp[madeCells,h,hk,hu2,hm]
 ·rw[Dr (by simp[madeCells];omega),Dr (by rw[List.size_toArray,xIe hk];simp;omega)]
end
end Go.Proofs.RK
namespace Go.Proofs.ST
open Go.RowKit Mailsack MM BB SH SV RK DS
def xWn (d:Dk) (v:Value) (w:World):Prop:=wX d=true->RdS w w.heap.size v (xY d).secs
theorem xDp (va vb:Value) (d:Dk) (w:World) (h:RdD w w.heap.size va vb d):
  Calls prog 29 #[.agg #[va,vb]] w λe w'=>∃v,e=.returned (.tuple #[v,.bool (wX d)])/\xWn d v w'/\ψ w w':=by
 obtain⟨A1,c1,A2,c2,rfl,rfl⟩:=yC h;have HA:=ι (φ w (yI (.slice A1 d.secs.length c1) (.slice A2 d.cache.length c2)));have hD0:=xJ w (yI (.slice A1 d.secs.length c1) (.slice A2 d.cache.length c2));have HD0:=ι hD0;obtain⟨d0,d1⟩:=uQ hD0;clear hD0
 have HRD:=ι ((h.below HA.o ν).more HA.o.size);have HRT:=ι (qX _ _ d _ HRD.o);have HCP:Hid (wX d=(decide (d.secs.length=381)&&yP d)):=ι rfl;obtain⟨cv,hcv⟩:=eX (wX d);rw[hcv] at HCP⊢;have HQ:=ι hcv;clear hcv h
 by_cases hl:d.secs.length=381
 ·have hli:(d.secs.length:Int)=381:=ω;have hlb:((d.secs.length:Int)!=381)=false:=by simp[hli]
  rw[Bq hl,Ed] at HCP;clear hl;cases hr:yP d with
  |false=>
   rw[hr] at HRT HCP;have HCV:=HCP;clear hr HCP;rw[HCV.o];go_enter func29,ntmps29;go_wp2_with fail
   refine HRT.o.mono ?_;rintro e w1 ⟨rfl,hb⟩;have HB:=ι (bT HA.o hb);clear hb d0 d1;go_wp2;go_ret2;exact⟨_,rfl,(λe=>by rw[HQ.o,HCV.o] at e;cases e),HB.o⟩
  |true=>
   rw[hr] at HRT HCP;rw[HCP.o];have HR:=ι hr;clear hr HCP;go_enter func29,ntmps29;go_wp2_with fail
   refine HRT.o.mono ?_;rintro e w1 ⟨rfl,hb⟩;have HB:=ι (Ai (bT HA.o hb) ((HRD.o.below hb ν).more hb.size));have h1:=xC HD0.o hb (xH HD0.o);clear hb d0 d1;obtain⟨d0,d1⟩:=uQ h1;clear h1 HD0;have HF:=ι (xG3 _ _ d w1 HB.o.2);go_wp2_with fail
   refine HF.o.mono ?_;rintro e w2 ⟨ua,ub,rfl,hr2,_,hb2⟩;obtain⟨A3,c3,A4,c4,rfl,rfl⟩:=yC hr2;have HB2:=ι (Ai (bT HB.o.1 hb2) hr2.s)
   have hfld:=λ(W:World)=>(show(Instr.field 29 (.agg #[.slice A3 (xY d).secs.length c3,.slice A4 (xY d).cache.length c4]) 0).run prog W=.ok (.slice A3 (xY d).secs.length c3) W from by rfl);clear hr2 hb2 HF HB d0 d1 HRT HRD;go_wp2;go_ret2;exact⟨_,rfl,λ_=>HB2.o.2,HB2.o.1⟩
 ·have hli:¬((d.secs.length:Int)=381):=ω;have hlb:((d.secs.length:Int)!=381)=true:=by simp[hli]
  rw[Cq hl,Dy] at HCP;rw[HCP.o];clear hl;go_enter func29,ntmps29;go_wp2;go_ret2;exact⟨_,rfl,(λe=>by rw[HQ.o,HCP.o] at e;cases e),HA.o⟩
theorem xIy (v:Value) (S:List Bs) (w:World) (h:RdS w w.heap.size v S) (hl:S.length=381) (h64:∀s∈S,s.length=64):
  Calls prog 30 #[v] w λe w'=>∃g,e=.returned (.slice (some (θ g 0)) 32 32)/\w.heap.size<=g/\w'.heap[g]?=some (.cells ((yG S).flatMap rW).toArray 137 (0,0))/\ψ w w':=by
 obtain⟨A,c,rfl,hc,hcell⟩:=h;obtain⟨b,off,rfl,hb,hcs⟩:=hcell ω;obtain⟨z,hi,hz,hsz,hby⟩:=jL yLe;have hmk:=run_make (P:=prog) (w:=w) 82 137 z _ underlying82 hi hz .i64 .i64 (32:Int) (32:Int) ω ω (by rw[hby];omega) ω;simp only[hsz] at hmk
 have hmf:madeCells (Value.cells (.agg #[.bool false,.int .i64 0,.int .i64 0,.int .i64 0,.string ⟨#[]⟩])) ((32:Int).toNat*5)=((List.replicate 32 noSlot).flatMap rW).toArray:=yC8 zZ ω noSlot 32;rw[hmf] at hmk;clear hmf hi hz hsz hby
 have H0:Hid (rG 137 rW (w.alloc (.cells ((List.replicate 32 noSlot).flatMap rW).toArray 137)) w.heap.size ((yG S).take 0++List.replicate (32-0) noSlot)/\ψ w (w.alloc (.cells ((List.replicate 32 noSlot).flatMap rW).toArray 137))):=ι ⟨xJ _ _,(Aq _ _).alloc ν _⟩
 have HSL:=ι (qD hl);have HGT:=ι (λk=>jM S k);have HC:=ι hcs;have H64:=ι h64;generalize ((List.replicate 32 noSlot).flatMap rW).toArray=cs0 at hmk H0;have HLL:=ι hl;clear hcs h64 hl hc;go_enter func30,ntmps30;go_wp2_with fail
 clear hmk;generalize w.alloc (.cells cs0 137)=w1 at H0⊢
 go_loopw [8] (λiv wr=>∃k:Nat,k<=32/\iv=.int .i64 k/\Hid (rG 137 rW wr w.heap.size ((yG S).take k++List.replicate (32-k) noSlot)/\ψ w wr)) (λiv _=>32- (intOf iv).toNat)
 case atStart=>exact⟨0,ω,rfl,H0⟩
 case round=>
  obtain⟨k,hk,rfl,HI⟩:=hrel;clear H0
  by_cases hlt:k<32
  ·obtain⟨x,hx⟩:∃x,S[61+k]?=some x:=⟨_,Af (by have:=HLL.o;omega)⟩;have q:=(HI.o.2.cell (p:=(θ b (off+(61+k)))) hb).trans (HC.o _ x hx);have yCw:=H64.o x (Bb hx)
   have HD:=ι (λW=>xYh ⟨x.toArray⟩ W (by show x.toArray.size=64;simpa using yCw));have HXS:Hid ((yG S)[k]?=some (xMj x)):=ι (by rw[HGT.o,Ah hlt,hx];rfl);rw[show(⟨x.toArray⟩:ByteArray).data.toList=x from rfl] at HD;have tn:(61+(k:Int)).toNat=61+k:=ω
   have t0:(0:Int)<=61+(k:Int):=ω;have t1:61+(k:Int)<(S.length:Int):=by have:=HLL.o;omega
   clear hx yCw;go_wp2_with fail
   refine cM (HD.o _) λw2 hb2=>?_;have HI2:=ι (Ai (HI.o.1.below hb2) (bT HI.o.2 hb2));have hlen:((yG S).take k++List.replicate (32-k) noSlot).length=32:=by simp[HSL.o];omega
   have HNX:Hid (((yG S).take k++List.replicate (32-k) noSlot).set k (xMj x)=(yG S).take (k+1)++List.replicate (32- (k+1)) noSlot):=ι (by
    rw[List.set_append_right _ _ (by rw[Ck];omega),Ck,HSL.o,show k-min k 32=0 by omega,show 32-k=(32- (k+1))+1 by omega,Ff,Bh,Cc,HXS.o];simp)
   have HPU:=ι (HI2.o.1.put zZ (k:=k) (by rw[hlen];exact hlt) (xMj x));have HPB:=ι (zG (b:=w.heap.size) (B:=w.heap.size) ν (rW (xMj x)) (k*5) w2 HI2.o.2);rw[HNX.o] at HPU;have f:=λi=>HI2.o.1.free i;have f0:=f (k*5);have f1:=f (k*5+1);have f2:=f (k*5+2);have f3:=f (k*5+3)
   have f4:=f (k*5+4);obtain⟨y,hy⟩:∃y,((yG S).take k++List.replicate (32-k) noSlot)[k]?=some y:=⟨_,Af (by rw[hlen];exact hlt)⟩;have o0:=HI2.o.1.cell zZ (i:=0) hy rfl;have o1:=HI2.o.1.cell zZ (i:=1) hy rfl;have o2:=HI2.o.1.cell zZ (i:=2) hy rfl
   have o3:=HI2.o.1.cell zZ (i:=3) hy rfl;have o4:=HI2.o.1.cell zZ (i:=4) hy rfl;rw[Db] at o0;simp only[yE] at HPU HPB;clear f hlen hy HNX HXS HI HI2 hb2 HD q tn t0 t1;generalize xMj x=t at HPU HPB⊢;go_wp2;exact⟨⟨k+1,ω,by go_num,ι ⟨HPU.o,HPB.o⟩⟩,by simp[intOf];omega⟩
  ·obtain rfl:k=32:=ω;have HE:Hid ((yG S).take 32++List.replicate (32-32) noSlot=yG S):=ι (by rw[show 32-32=0 by omega,Ce (by rw[HSL.o];omega)];simp);rw[HE.o] at HI;go_wp2;go_ret;exact⟨_,rfl,Bd _,HI.o.1,HI.o.2⟩
end Go.Proofs.ST
namespace Mailsack
theorem xQj {α:Type} {p:α->Bool} {l:List α} {k:Nat} {x:α} (hx:l[k]?=some x) (hp:p x=true) (h:∀y∈l.take k,p y=false):qH p l=k:=
 yLg hx hp λj y hj hy=>h y (by
  have:=(Ar.1 hy).1;exact Bb (i:=j) (by rw[Ea,Ah hj];exact hy))
end Mailsack
namespace Go.Proofs.ST
open Go.RowKit Mailsack MM BB SH SV RK DS
theorem xQi (fid:FuncId) (fr:Array Value) (p:Slot->Bool) (v:Value) (l:List Slot) (w:World) (h:RdR 5 rW w w.heap.size v l) (hl:l.length<=100000) (hE:∀args W,(callFunc fid args).run prog W=.ok (.enter fid args) W)
  (hp:∀(t:Slot) (W:World),ψ w W->Calls prog fid (#[xKq t]++fr) W (pv (.bool (p t)) W)):
  Calls prog 80 #[v,.func (.func fid) #[] fr] w (pv (.int .i64 (qH p l)) w):=by
 obtain⟨A,c,rfl,hc,hcell⟩:=h;have HL:=ι hcell;have HP:=ι hp;obtain⟨r,hr⟩:=eX (qH p l);rw[hr];have HR:=ι hr;clear hcell hc hp hr;go_enter func80,ntmps80;go_wp2_with fail
 go_loopw [8] (λiv wr=>∃k:Nat,k<=l.length/\iv=.int .i64 k/\Hid (ψ w wr)/\Hid (∀y∈l.take k,p y=false)) (λiv _=>l.length- (intOf iv).toNat)
 case atStart=>exact⟨0,Bc _,rfl,ι (Aq _ _),ι σ⟩
 case round=>
  obtain⟨k,hk,rfl,HI,HN⟩:=hrel
  by_cases hlt:k<l.length
  ·obtain⟨x,hx⟩:∃x,l[k]?=some x:=⟨_,Af hlt⟩;obtain⟨b,off,rfl,hb,hcell⟩:=HL.o ω;have q:=λi u hu=>(HI.o.cell (p:=(θ b (off+k*5+i))) hb).trans (hcell k x hx i u hu);have q0:wr.cell? (θ b (off+k*5))=some (.bool x.used):=q 0 _ rfl
   have q1:wr.cell? (θ b (off+k*5+1))=some (.int .i64 x.cls):=q 1 _ rfl;have q2:wr.cell? (θ b (off+k*5+2))=some (.int .i64 x.blk):=q 2 _ rfl;have q3:wr.cell? (θ b (off+k*5+3))=some (.int .i64 x.size):=q 3 _ rfl;have q4:wr.cell? (θ b (off+k*5+4))=some (xR x.name):=q 4 _ rfl
   have HC:=ι (HP.o x wr HI.o);have HX:=ι hx;clear hcell q hx;cases hpx:p x with
   |true=>
    rw[hpx] at HC;have HRK:Hid (r=(k:Int)):=ι (by rw[<-HR.o];exact xQj HX.o hpx HN.o);clear hpx HR;go_wp2_with (go_at_fn fid;refine HC.o.mono ?_;rintro e w' ⟨rfl,hb'⟩)
    go_ret;exact⟨by rw[HRK.o];rfl,HI.o.trans (hb'.mono HI.o.size)⟩
   |false=>
    rw[hpx] at HC
    have HN2:Hid (∀y∈l.take (k+1),p y=false):=ι (by
     intro y hy;rw[Cc,HX.o] at hy;rcases Em.1 hy with hy|hy
     ·exact HN.o y hy
     ·simp at hy;subst hy;exact hpx)
    clear hpx HN;go_wp2_with (go_at_fn fid;refine HC.o.mono ?_;rintro e w' ⟨rfl,hb'⟩;have HB':=ι (HI.o.trans (hb'.mono HI.o.size));clear hb')
    exact⟨⟨k+1,ω,by go_num,HB',HN2⟩,by simp[intOf];omega⟩
  ·obtain rfl:k=l.length:=ω;rw[Cf] at HN;have HRK:Hid (r=-1):=ι (by rw[<-HR.o];exact xQm HN.o);clear HR;go_wp2;go_ret;exact⟨by rw[HRK.o];rfl,HI.o⟩
theorem yDe (t:Slot) (n:Bs) (nb:Nat) (w:World) (h:w.heap[nb]?=some (.cells #[xR n] 9 (0,0))):
  Calls prog 107 #[xKq t,.pointer (some (θ nb 0))] w (pv (.bool (xHi n t)) w):=by
 obtain⟨u,c,b,s,m⟩:=t;have HB:=ι (φ w (kQ ⟨u,c,b,s,m⟩));have hb:=xJ w (kQ ⟨u,c,b,s,m⟩);have c0:=xA hb 0;have c4:=xA hb 4;have n0:=xA (xN h (kQ ⟨u,c,b,s,m⟩)) 0;simp only[gA,gB,gC] at c0 c4 n0;clear hb h;cases u with
 |false=>
  go_enter func107,ntmps107;go_wp2;go_ret;exact⟨rfl,HB.o⟩
 |true=>
  have HN:Hid (xHi n ⟨true,c,b,s,m⟩=(m==n)):=ι rfl;cases hq:(m==n) with
  |true=>
   rw[hq] at HN;rw[HN.o];obtain rfl:m=n:=by simpa using hq
   clear hq;go_enter func107,ntmps107;go_wp2;go_ret;exact⟨rfl,HB.o⟩
  |false=>
   rw[hq] at HN;rw[HN.o];have hq2:¬m=n:=by simpa using hq
   go_enter func107,ntmps107;go_wp2;go_ret;exact⟨rfl,HB.o⟩
theorem xIg (v:Value) (l:List Slot) (n:Bs) (w:World) (h:RdR 5 rW w w.heap.size v l) (hl:l.length<=100000):
  Calls prog 63 #[v,xR n] w (pv (.int .i64 (wU l n)) w):=by
 have HA:=ι (φ w (.cells #[xR n] 9));have HN:=ι (xJ w (.cells #[xR n] 9))
 have HI:=ι (xQi 107 #[.pointer (some (θ w.heap.size 0))] (xHi n) v l (w.alloc (.cells #[xR n] 9)) ((h.below HA.o ν).more HA.o.size) hl (λargs W=>enters_of func107 κ rfl args W) (λt W hW=>yDe t n w.heap.size W (xC HN.o hW σ)));have HF:Hid (wU l n=qH (xHi n) l):=ι rfl
 obtain⟨r,hr⟩:=eX (wU l n);rw[hr] at HF⊢;rw[<-HF.o] at HI;clear hr h HF;go_enter func63,ntmps63;go_wp2_with fail
 refine HI.o.mono ?_;rintro e w1 ⟨rfl,hb⟩;have HB:=ι (bT HA.o hb);clear hb HI HA HN;go_wp2;go_ret;exact⟨rfl,HB.o⟩
end Go.Proofs.ST
namespace Mailsack
theorem xGw:∀(xs:List Bs),Go.Lib.join xs []=xs.flatten
 |[]=>rfl
 |[x]=>by simp[Go.Lib.join,List.intercalate,List.intersperse]
 |x::y::l=>by
  have ih:=xGw (y::l);simp only[Go.Lib.join,List.intercalate,List.intersperse,Fb] at ih⊢;rw[Es,ih]
theorem xTc {l:List Bs} (h:∀x∈l,x.length=64):l.flatten.length=64*l.length:=by
 induction l with
 |nil=>rfl
 |cons x l ih=>
  rw[Fb,Aj,h x (Cx ..),ih λy hy=>h y (Dm _ hy),Bl];omega
end Mailsack
namespace Go.Proofs.ST
open Go.RowKit Mailsack MM BB SH SV RK DS
theorem xHj (b off c:Nat) (S:List Bs) (first n:Nat) (w:World) (hcs:∀(j:Nat) x,S[j]?=some x->w.cell? (θ b (off+j))=some (xR x)) (hb:b<w.heap.size) (hn:first+n<=S.length) (h0:n<=100) (hc:n<=c) (h64:∀x∈S,x.length=64):
  Calls prog 65 #[.slice (some (θ b (off+first))) n c,.string ⟨#[]⟩] w (pv (xR ((S.drop first).take n).flatten) w):=by
 have hl:((S.drop first).take n).length=n:=by simp;omega
 have e1:((((S.drop first).take n).map λy=>(⟨y.toArray⟩:ByteArray)).map (·.data.toList))=(S.drop first).take n:=by
  rw[List.map_map]
  conv=>rhs;rw[<-List.map_id ((S.drop first).take n)]
  rfl
 have hJ:=Tryz.strings_Join b (off+first) c (((S.drop first).take n).map λy=>(⟨y.toArray⟩:ByteArray)) ⟨#[]⟩ w (λj x hx=>by
  rw[Cg] at hx;obtain⟨y,hy,rfl⟩:=Df.1 hx;have hj:=(Ar.1 hy).1;rw[hl] at hj;rw[Ea,Ah hj,Fx] at hy;have:=hcs _ _ hy;rw[<-Nat.add_assoc] at this
  exact this) hb (by rw[Bw,hl];omega) (by rw[Bw,hl];exact hc) (by
   rw[e1];show(Go.Lib.join _ []).length<=_;rw[xGw,xTc λx hx=>h64 x (List.mem_of_mem_drop (Dc hx)),hl];omega)
 rw[e1,Bw,hl] at hJ;rw[show(⟨#[]⟩:ByteArray).data.toList=[] from rfl,xGw] at hJ;exact hJ
theorem xOb {d:Dk} (h:wX d=true):(xY d).secs.length=381/\∀s∈(xY d).secs,s.length=64:=by
 unfold wX at h;rw[Au,Be] at h;have h2:=qF h.2;exact⟨by rw[xBv h.2];exact h.1,(kU.1 h2).2.2.1⟩
theorem yFv {S:List Bs} {i:Nat} {t:Slot} (h:(yG S)[i]?=some t):t=noSlot∨(t.used=true/\xHq t):=by
 rw[jM] at h;split at h
 ·obtain⟨s,_,rfl⟩:=Df.1 h;exact xKd s
 ·cases h
structure GtM (w:World) (gs b off c:Nat) (S:List Bs) (W:World):Prop where
 sl:W.heap[gs]?=some (.cells ((yG S).flatMap rW).toArray 137 (0,0))
 cs:∀(j:Nat) x,S[j]?=some x->W.cell? (θ b (off+j))=some (xR x)
 hb:b<W.heap.size
 bel:ψ w W
theorem GtM.below {w W W':World} {gs b off c:Nat} {S:List Bs} (h:GtM w gs b off c S W) (hb:ψ W W'):GtM w gs b off c S W':=
 ⟨xC h.sl hb (xH h.sl),λj x hx=>(hb.cell (p:=(θ b (off+j))) h.hb).trans (h.cs j x hx),Bt h.hb hb.size,bT h.bel hb⟩
theorem GtM.drew {w W:World} {gs b off c:Nat} {S:List Bs} (h:GtM w gs b off c S W):GtM w gs b off c S W.drew:=h.below (Aq _ _).drew
theorem xO8 (va vb:Value) (d:Dk) (n:Bs) (w:World) (h:RdD w w.heap.size va vb d):
  Calls prog 19 #[.agg #[va,vb],xR n] w (pv (.tuple #[xR (xOa d n),.int .i64 (xAe d n)]) w):=by
 obtain⟨A1,c1,A2,c2,rfl,rfl⟩:=yC h;have HA:=ι (φ w (yI (.slice A1 d.secs.length c1) (.slice A2 d.cache.length c2)));have hD0:=xJ w (yI (.slice A1 d.secs.length c1) (.slice A2 d.cache.length c2));obtain⟨d0,d1⟩:=uQ hD0;clear hD0
 have HCT:=ι (xDp _ _ d _ ((h.below HA.o ν).more HA.o.size));have HE:Hid (xAe d n=if wX d=true then(if wU (yG (xY d).secs) n<0 then 6 else 0) else 1):=ι rfl;have HG:Hid (xOa d n=if xAe d n=0 then xEf (xY d).secs (xCx (yG (xY d).secs) (wU (yG (xY d).secs) n)) else[]):=ι rfl
 have HFL:Hid (wX d=true->(xY d).secs.length=381/\∀s∈(xY d).secs,s.length=64):=ι xOb;have HCP:Hid (∀v W,xWn d v W->wX d=true->RdS W W.heap.size v (xY d).secs):=ι (λv W h=>h);obtain⟨ge,hge⟩:=eX (xAe d n);obtain⟨gp,hgp⟩:=eX (xOa d n);rw[hge] at HE HG
 rw[hgp] at HG;rw[hge,hgp];clear hge hgp h;cases hc:wX d with
 |false=>
  rw[hc] at HCT HE;rw[Ag σ] at HE;rw[HE.o,Ag ω] at HG;rw[HG.o,HE.o];clear hc HE HG HFL HCP;go_enter func19,ntmps19;go_wp2_with fail
  refine HCT.o.mono ?_;rintro e w1 ⟨v,rfl,_,hb⟩;have HB:=ι (bT HA.o hb);clear hb HA HCT d0 d1;go_wp2;go_ret2;exact⟨rfl,HB.o⟩
 |true=>
  have xA4:=ι (HFL.o hc);have xZ6:=ι (λv W h=>HCP.o v W h hc);rw[hc] at HCT HE;rw[Ah rfl] at HE;clear hc HFL HCP;generalize (xY d).secs=S at HE HG xA4 xZ6;go_enter func19,ntmps19;go_wp2_with fail
  refine HCT.o.mono ?_;rintro e w1 ⟨v,rfl,hct,hb⟩;have HRS:=ι (xZ6.o v w1 hct);have HB1:=ι (bT HA.o hb);clear hct hb HCT xZ6 d0 d1 HA;have HSO:=ι (xIy v S w1 HRS.o xA4.o.1 xA4.o.2);obtain⟨A,c,rfl,hlc,hcell⟩:=HRS.o
  obtain⟨b,off,rfl,hb,hcs⟩:=hcell (by rw[xA4.o.1];omega);have HCS:=ι (Ai hb (Ai hcs hlc));clear hb hcs hlc hcell;go_wp2_with fail
  refine HSO.o.mono ?_;rintro e w2 ⟨gs,rfl,hgs,hsl,hb2⟩;have HM:=ι (show GtM w gs b off c S w2 from⟨hsl,λj x hx=>(hb2.cell (p:=(θ b (off+j))) HCS.o.1).trans (HCS.o.2.1 j x hx),Bt HCS.o.1 hb2.size,bT HB1.o hb2⟩);clear hsl hb2 hgs HSO HRS
  have HFD:=ι (xIg (.slice (some (θ gs 0)) 32 32) (yG S) n w2 (by
   have:=rG.rd (e:=137) (f:=rW) (n:=5) zZ HM.o.sl (B:=w2.heap.size) (xH HM.o.sl) (c:=32) (by rw[qD xA4.o.1];omega);rw[qD xA4.o.1] at this;exact this) (by rw[qD xA4.o.1];omega))
  go_wp2_with fail
  refine HFD.o.mono ?_;rintro e w3 ⟨rfl,hb3⟩;have HM3:=ι (HM.o.below hb3);clear hb3 HM HFD HB1;rcases qI (yG S) n with ⟨f1,f2⟩|⟨i,t,f1,f2,f3,f4,f5⟩
  ·rw[f1] at HE HG;rw[f1];rw[Ah ω] at HE;rw[HE.o,Ag ω] at HG;clear f1 f2;go_wp2;go_ret2;exact⟨by rw[HE.o,HG.o];rfl,HM3.o.bel⟩
  ·rw[f1] at HE HG;rw[f1];rw[Ag ω] at HE;rw[HE.o,Ah rfl,xLj f2] at HG
   have hok:xHq t:=by
    rcases yFv f2 with e|⟨_,h⟩
    ·rw[e] at f3;cases f3
    ·exact h
   have HI:Hid (i<32):=ι (by rw[qD xA4.o.1] at f5;exact f5);have hi32:(i:Int)<32:=by have:=HI.o;omega
   have HC1:Hid (∀{W},GtM w gs b off c S W->W.cell? (θ gs (i*5+1))=some (.int .i64 t.cls)):=ι (λh=>rG.cell (e:=137) zZ h.sl f2 rfl);have HC2:Hid (∀{W},GtM w gs b off c S W->W.cell? (θ gs (i*5+2))=some (.int .i64 t.blk)):=ι (λh=>rG.cell (e:=137) zZ h.sl f2 rfl)
   have HC3:Hid (∀{W},GtM w gs b off c S W->W.cell? (θ gs (i*5+3))=some (.int .i64 t.size)):=ι (λh=>rG.cell (e:=137) zZ h.sl f2 rfl);have HSE:=ι (λW=>xJ4 t.cls t.blk W (by have:=hok.blk;have:=xHa t.cls;omega));have hfl:=xIf hok.blk
   have hcn:countP t.cls=4∨countP t.cls=16:=by unfold countP;split<;>simp
   have hcp:=xOr hok.cls;have hsz:=hok.size;have HRD:Hid (gp=(((S.drop (vN t.cls t.blk)).take (countP t.cls)).flatten).take t.size):=HG
   have HJL:Hid ((((S.drop (vN t.cls t.blk)).take (countP t.cls)).flatten).length=64*countP t.cls):=ι (by
    rw[xTc λx hx=>xA4.o.2 x (List.mem_of_mem_drop (Dc hx)),Ck,Eb,xA4.o.1];omega)
   have HJ:=ι (λW (h:GtM w gs b off c S W)=>xHj b off (c-vN t.cls t.blk) S (vN t.cls t.blk) (countP t.cls) W h.cs h.hb (by rw[xA4.o.1];exact hfl) ω (by have:=HCS.o.2.2;have:=xA4.o.1;omega) xA4.o.2);generalize vN t.cls t.blk=fi at HSE hfl HRD HJL HJ
   generalize ((S.drop fi).take (countP t.cls)).flatten=jl at HRD HJL HJ;generalize countP t.cls=cn at HSE hfl hcn hcp HJL HJ;obtain⟨tu,tc,tb,ts,tn⟩:=t;simp only at HC1 HC2 HC3 HSE HRD hcp hsz
   have HBD:Hid (fi+cn<=381/\ts<=64*cn/\cn<=16/\1<=cn/\381<=c):=ι ⟨hfl,ω,ω,ω,by have:=HCS.o.2.2;have:=xA4.o.1;omega⟩;clear f1 f2 f3 f4 f5 hok hfl hcn hcp hsz HG;go_upto_region 8 with fail
   refine RG.xU (λW=>Hid (GtM w gs b off c S W)) κ κ (ι HM3.o.drew) ?_;iterate 10 refine RG.dF (λw9 hw9=>have c1:=HC1.o hw9.o;have c2:=HC2.o hw9.o;have c3:=HC3.o hw9.o;Ai (c1) (Ai (c2) c3)) ?_
   apply RG.xL
   ·intro w9 hw9;repeat go_step
    refine(HSE.o _).mono ?_;rintro e w10 ⟨rfl,rfl⟩;simp only[];repeat go_step
    exact RG.xE hw9
   ·rfl
   iterate 5 refine RG.dS ?_
   refine RG.xX (λw4 hw4=>?_);clear HM3 HSE;go_upto_region 9 with fail
   have h0:(0:Int)<=(fi:Int):=ω;have h1:(fi:Int)<=(fi:Int)+(cn:Int):=ω;have h2:(fi:Int)+(cn:Int)<=(c:Int):=by have:=HBD.o;omega
   have h3:(fi:Int)<=381/\(cn:Int)<=16:=by have:=HBD.o;omega
   obtain⟨h3,h4⟩:=h3;have hcf:¬(c=fi):=by have:=HBD.o;omega
   refine RG.xU (λW=>Hid (GtM w gs b off c S W)) κ κ (ι hw4.o.drew) ?_;iterate 6 refine RG.dS ?_
   obtain⟨jb,hjb⟩:=eX (⟨jl.toArray⟩:ByteArray);have hjs:jb.size=jl.length:=by rw[<-hjb];simp[ByteArray.size]
   have HRS:Hid (xR gp=.string (jb.extract 0 ts)):=ι (by
    rw[HRD.o,<-hjb];show Value.string _=Value.string _
    congr 1
    apply Ee;rw[Dh];apply Array.ext';simp)
   rw[show xR jl=.string jb from by rw[<-hjb]] at HJ;have t0:(ts:Int)<=(jb.size:Int):=by have:=HBD.o;have:=HJL.o;omega
   clear hjb HRD HJL h1 h2 h3 h4 h0;apply RG.xL
   ·intro w9 hw9;repeat go_step
    with_reducible refine(HJ.o _ hw9.o).mono ?_
    rintro e w10 ⟨rfl,zO⟩;simp only[];repeat go_step
    refine RG.xE ?_;exact ι (hw9.o.below zO)
   ·rfl
   iterate 8 refine RG.dF (λw9 hw9=>HC3.o hw9.o) ?_
   refine RG.xX (λw5 hw5=>?_);go_wp2;go_ret2;exact⟨by rw[HE.o,HRS.o];rfl,hw5.o.bel⟩
end Go.Proofs.ST
namespace Go.Proofs.ST
open Go.RowKit Go.Lib Mailsack MM BB SH SV RK DS
theorem xKk {α:Type} [Inhabited α] {enc:α->Value} {B:Nat} {w0 w:World} {n blk off:Nat} {d:Array α} {os:Array Obj} (h:Below B w0 w) (hB:B<=blk) (hs:blk<w.heap.size):Below B w0 (Sort.grow (Sort.putRow enc (Sort.ahead w n) blk off d) os):=by
 refine h.trans ⟨rfl,rfl,rfl,σ,λk hk=>?_⟩;rw[Sort.heap_grow_old _ _ (by simp;omega)];unfold Sort.putRow Sort.mapBlock;simp only[Sort.heap_ahead,Array.getElem?_modify];rw[Ag ω]
theorem xYv {α:Type} [Inhabited α] {enc:α->Value} {B:Nat} {w0 w:World} {n blk off:Nat} {d:Array α} (h:Below B w0 w) (hB:B<=blk) (hs:blk<w.heap.size):Below B w0 (Sort.putRow enc (Sort.ahead w n) blk off d):=by
 have:=xKk (enc:=enc) (n:=n) (off:=off) (d:=d) (os:=#[]) h hB hs
 rwa [Sort.grow_empty] at this
theorem yCy {w:World} {base:Nat} {v:Value} {x:Bs} {xs:List Bs} (h:xWm w base v (x::xs)):∃g c,v=.slice (some (θ g 0)) (x::xs).length c/\(x::xs).length<=c/\base<=g/\g<w.heap.size/\Sort.Holds encStr w g 0 (x::xs).toArray:=by
 rcases h.2 with ⟨_,h2⟩|⟨g,cap,cur,h1,hb,hg,hnc,_,_,htake⟩
 ·simp at h2
 ·refine⟨g,cap,h1,hnc,hb,xH hg,λj hj=>⟨?_,xG hg _⟩⟩
  have:=Eh h (g:=g) (by rw[h1];rfl) j (xR ((x::xs).toArray[j]!)) (by
   have hj2:j<(x::xs).length:=by simpa using hj
   rw[Cg,Af hj2];rw[Gd (x::xs).toArray j (by simpa using hj2)]
   rfl)
  have hadd:(⟨g,0,none⟩:Addr).add j=⟨g,0+j,none⟩:=by unfold Addr.add;split<;>simp_all
  rw[hadd] at this;exact this
theorem yG1 {w:World} {B g c n:Nat} {xs:List Bs} (h:∀j,j<xs.length->w.cell? (θ g (0+j))=some (xR (xs.toArray[j]!))) (hg:g<B) (hn:n=xs.length) (hc:n<=c):RdS w B (.slice (some (θ g 0)) n c) xs:=by
 subst hn;refine⟨_,c,rfl,hc,λ_=>⟨g,0,rfl,hg,λj x hx=>?_⟩⟩;obtain⟨hj,rfl⟩:=Ar.1 hx;rw[h j hj,Gd xs.toArray j (by simpa using hj)]
 rfl
theorem xTr (zs:List Bs):(Go.Lib.compact zs).length<=zs.length:=by
 unfold Go.Lib.compact Go.Lib.compactUpTo;rw[Bw];have:=Ev (Go.Lib.keeps zs.toArray) (List.range zs.length);simpa using this
theorem yAr {w:World} {base:Nat} {v:Value} {xs:List Bs} (h:xWm w base v xs) (hl:xs.length<=1000000):
  Calls prog 99 #[v] w λe w'=>e=.returned (.tuple #[])/\Below base w w'/\((xs=[]/\v=.slice none 0 0)∨∃g c,v=.slice (some (θ g 0)) (jZ xs).length c/\(jZ xs).length<=c/\base<=g/\g<w'.heap.size/\Sort.Holds encStr w' g 0 (jZ xs).toArray):=by
 cases xs with
 |nil=>
  have hv:v=.slice none 0 0∨∃A c,v=.slice A 0 c:=by
   obtain⟨A,c,e,_⟩:=h.form;exact .inr ⟨A,c,e⟩
  rcases h.2 with ⟨hv,_⟩|⟨g,cap,cur,h1,hb,hg,hnc,_⟩
  ·subst hv;refine(Tryz.slices_Sort_string_none none 0 w).mono ?_;rintro e w' ⟨rfl,rfl⟩;exact⟨rfl,Aq _ _,.inl ⟨rfl,rfl⟩⟩
  ·subst h1;refine(Tryz.slices_Sort_string_none _ cap w).mono ?_;rintro e w' ⟨rfl,rfl⟩;exact⟨rfl,Aq _ _,.inr ⟨g,cap,by simp[jZ],by simp[jZ],hb,xH hg,λj hj=>by simp[jZ] at hj⟩⟩
 |cons x xs=>
  obtain⟨g,c,rfl,hc,hb,hg,hH⟩:=yCy h;refine(Tryz.slices_Sort_string g 0 c (x::xs) w hH hg ω).mono ?_;rintro e w' ⟨rfl,n,os,rfl⟩;have hls:(jZ (x::xs)).length=(x::xs).length:=by unfold jZ;exact Gw _
  have hH2:=Sort.holds_putRow encStr (Sort.ahead w n) g 0 (x::xs).toArray (jZ (x::xs)).toArray (Sort.holds_ahead _ _ n _ _ _ hH) (by simpa using hls);refine⟨rfl,xKk (Aq _ _) hb hg,.inr ⟨g,c,by rw[hls],by rw[hls];exact hc,hb,by simp;omega,?_⟩⟩
  exact Sort.holds_grow _ _ _ _ _ _ (by simpa using hg) hH2
theorem xR4 {w:World} {base g c:Nat} {zs:List Bs} (hH:Sort.Holds encStr w g 0 zs.toArray) (hb:base<=g) (hg:g<w.heap.size) (hl:zs.length<=1000000) (hc:zs.length<=c):
  Calls prog 100 #[.slice (some (θ g 0)) zs.length c] w λe w'=>e=.returned (.slice (some (θ g 0)) (Go.Lib.compact zs).length c)/\RdS w' w'.heap.size (.slice (some (θ g 0)) (Go.Lib.compact zs).length c) (Go.Lib.compact zs)/\Below base w w':=by
 refine(Tryz.slices_Compact_string g 0 c zs w hH ω hc).mono ?_;rintro e w' ⟨rfl,q,rfl⟩;have hle:=xTr zs;have hsz:(Go.Lib.compact zs++List.replicate (zs.length- (Go.Lib.compact zs).length) ([]:Bs)).length=zs.length:=by simp;omega
 have hH2:=Sort.holds_putRow encStr (Sort.ahead w q) g 0 zs.toArray (Go.Lib.compact zs++List.replicate (zs.length- (Go.Lib.compact zs).length) ([]:Bs)).toArray (Sort.holds_ahead _ _ q _ _ _ hH) (by simpa using hsz)
 refine⟨rfl,yG1 (λj hj=>?_) (by simpa using hg) rfl ω,xYv (Aq _ _) hb hg⟩;have:=(hH2 j (by simp;omega)).1;rw[this]
 congr 2
 rw[Gd _ j (by simp;omega),Gd _ j (by simpa using hj)];simp[List.getElem_append_left hj]
end Go.Proofs.ST
namespace Mailsack
structure vM where
 uid:Int
 flags:Int
 object:Int
 size:Int
structure pJ where
 name:Bs
 validity:Int
 next:Int
 yL:List vM
structure yN where
 boxes:List pJ
 subs:List Bs
 given:Int
end Mailsack
namespace Go.Proofs.IX
open Go.RowKit Mailsack MM
def jF (w:World) (B:Nat) (v:Value) (L:List vM):Prop:=
 ∃A c,v=.slice A L.length c/\L.length<=c/\(0<L.length->∃b off,A=some (θ b off)/\b<B/\∀(j:Nat) m,L[j]?=some m->
  w.cell? (θ b (off+j*4))=some (.int .i64 m.uid)/\w.cell? (θ b (off+j*4+1))=some (.int .i64 m.flags)/\w.cell? (θ b (off+j*4+2))=some (.int .i64 m.object)/\w.cell? (θ b (off+j*4+3))=some (.int .i64 m.size))
theorem jF.keep {w w':World} {B:Nat} {v:Value} {L:List vM} (h:jF w B v L) (hk:∀p:Addr,p.block<B->w'.cell? p=w.cell? p):jF w' B v L:=by
 obtain⟨A,c,h1,h2,h3⟩:=h;refine⟨A,c,h1,h2,λhn=>?_⟩;obtain⟨b,off,h4,h5,h6⟩:=h3 hn;refine⟨b,off,h4,h5,λj m hm=>?_⟩;obtain⟨k1,k2,k3,k4⟩:=h6 j m hm;exact⟨(hk _ h5).trans k1,(hk _ h5).trans k2,(hk _ h5).trans k3,(hk _ h5).trans k4⟩
theorem jF.more {w:World} {B B':Nat} {v:Value} {L:List vM} (h:jF w B v L) (hB:B<=B'):jF w B' v L:=by
 obtain⟨A,c,h1,h2,h3⟩:=h;refine⟨A,c,h1,h2,λhn=>?_⟩;obtain⟨b,off,h4,h5,h6⟩:=h3 hn;exact⟨b,off,h4,ω,h6⟩
def rD (w:World) (B:Nat) (v:Value) (L:List pJ):Prop:=
 ∃A c,v=.slice A L.length c/\L.length<=c/\(0<L.length->∃b off,A=some (θ b off)/\b<B/\∀(j:Nat) x,L[j]?=some x->∃mv,
  w.cell? (θ b (off+j*4))=some (xR x.name)/\w.cell? (θ b (off+j*4+1))=some (.int .i64 x.validity)/\w.cell? (θ b (off+j*4+2))=some (.int .i64 x.next)/\w.cell? (θ b (off+j*4+3))=some mv/\jF w B mv x.yL)
theorem rD.keep {w w':World} {B:Nat} {v:Value} {L:List pJ} (h:rD w B v L) (hk:∀p:Addr,p.block<B->w'.cell? p=w.cell? p):rD w' B v L:=by
 obtain⟨A,c,h1,h2,h3⟩:=h;refine⟨A,c,h1,h2,λhn=>?_⟩;obtain⟨b,off,h4,h5,h6⟩:=h3 hn;refine⟨b,off,h4,h5,λj m hm=>?_⟩;obtain⟨mv,k1,k2,k3,k4,k5⟩:=h6 j m hm;exact⟨mv,(hk _ h5).trans k1,(hk _ h5).trans k2,(hk _ h5).trans k3,(hk _ h5).trans k4,k5.keep hk⟩
theorem rD.more {w:World} {B B':Nat} {v:Value} {L:List pJ} (h:rD w B v L) (hB:B<=B'):rD w B' v L:=by
 obtain⟨A,c,h1,h2,h3⟩:=h;refine⟨A,c,h1,h2,λhn=>?_⟩;obtain⟨b,off,h4,h5,h6⟩:=h3 hn;refine⟨b,off,h4,ω,λj m hm=>?_⟩;obtain⟨mv,k1,k2,k3,k4,k5⟩:=h6 j m hm;exact⟨mv,k1,k2,k3,k4,k5.more hB⟩
theorem rD.below {w w':World} {B B':Nat} {v:Value} {L:List pJ} (h:rD w B v L) (hb:Below B' w w') (hB:B<=B'):rD w' B v L:=h.keep λ_ hp=>hb.cell ω
theorem jF.below {w w':World} {B B':Nat} {v:Value} {L:List vM} (h:jF w B v L) (hb:Below B' w w') (hB:B<=B'):jF w' B v L:=h.keep λ_ hp=>hb.cell ω
structure xRk (w:World) (B:Nat) (bv sv:Value) (x:yN):Prop where
 boxes:rD w B bv x.boxes
 subs:RdS w B sv x.subs
theorem xRk.below {w w':World} {B B':Nat} {bv sv:Value} {x:yN} (h:xRk w B bv sv x) (hb:Below B' w w') (hB:B<=B'):xRk w' B bv sv x:=⟨h.boxes.below hb hB,h.subs.below hb hB⟩
theorem xRk.more {w:World} {B B':Nat} {bv sv:Value} {x:yN} (h:xRk w B bv sv x) (hB:B<=B'):xRk w B' bv sv x:=⟨h.boxes.more hB,h.subs.more hB⟩
end Go.Proofs.IX
namespace Mailsack
def xL1 (n:Int):Bool:=decide (1<=n/\n<=4294967295)
def xCg (n:Int):Bool:=decide (0<=n/\n<=63)
def pW (o s f:Int):Bool:=xL1 o&&decide (0<=s/\s<=700)&&xCg f
def chN (c:Nat):Bool:=decide (97<=c/\c<=122∨65<=c/\c<=90∨48<=c/\c<=57∨c=45∨c=47∨c=95)
def chP (c:UInt8):Bool:=chN c.toNat
def xCd (s:Bs):Bool:=decide (1<=s.length/\s.length<=16)&&s.all chP
theorem yI5 {s:ByteArray} {k:Nat} (h:k<s.size) (f:UInt8->Bool):(s.data.toList.drop k).all f=(f s[k]&&(s.data.toList.drop (k+1)).all f):=by
 have h':k<s.data.toList.length:=by rw[Cu];exact h
 rw[Dj h',List.all_cons]
 rfl
def pX:Bs:=[73,78,66,79,88]
def xEn (next:Int):List vM->Int->Bool
 |[],_=>true
 |m::l,last=>decide (last<m.uid)&&decide (m.uid<next)&&pW m.object m.size m.flags&&xEn next l m.uid
def xAy (b:pJ):Bool:=xCd b.name&&xL1 b.validity&&xL1 b.next&&decide (b.yL.length<=30)&&xEn b.next b.yL 0
def leS (a b:Bs):Bool:=Go.Op.bytesLess a b||a==b
def xBa (given:Int):List pJ->Nat->Bs->Bool
 |[],_,_=>true
 |b::l,i,p=>xAy b&&decide (b.validity<given)&&!(decide (0<i)&&b.name==pX)&&!(decide (1<i)&&leS b.name p)&&xBa given l (i+1) b.name
def xEt:List Bs->Nat->Bs->Bool
 |[],_,_=>true
 |s::l,i,p=>xCd s&&!(decide (0<i)&&leS s p)&&xEt l (i+1) s
def vU (l:List pJ):Nat:=(l.map (·.yL.length)).sum
def zV (x:yN):Bool:=
 decide (1<=x.boxes.length)&&decide (x.boxes.length<=6)&&(x.boxes.head?.map (·.name)==some pX)&&decide (x.subs.length<=6)&&xL1 x.given&&xBa x.given x.boxes 0 []&&xEt x.subs 0 []&&decide (vU x.boxes<=30)
end Mailsack
namespace Go.Proofs.IX
open Go.RowKit Mailsack MM
theorem xB5 (n:Int) (w:World):Calls prog 109 #[.int .i64 n] w λe w'=>e=.returned (.bool (xL1 n))/\w'=w:=by
 unfold xL1
 by_cases h1:1<=n
 ·by_cases h2:n<=4294967295
  all_goals
   go_enter func109,ntmps109;go_wp2;go_ret;exact⟨by simp[h1,h2],rfl⟩
 ·go_enter func109,ntmps109;go_wp2;go_ret;exact⟨by simp;omega,rfl⟩
theorem xL0 (n:Int) (w:World):Calls prog 178 #[.int .i64 n] w λe w'=>e=.returned (.bool (xCg n))/\w'=w:=by
 unfold xCg
 by_cases h1:0<=n
 ·by_cases h2:n<=63
  all_goals
   go_enter func178,ntmps178;go_wp2;go_ret;exact⟨by simp[h1,h2],rfl⟩
 ·go_enter func178,ntmps178;go_wp2;go_ret;exact⟨by simp;omega,rfl⟩
theorem xC9 (o s f:Int) (w:World):Calls prog 138 #[.int .i64 o,.int .i64 s,.int .i64 f] w λe w'=>e=.returned (.bool (pW o s f))/\w'=w:=by
 have HR:Hid (pW o s f=(xL1 o&&decide (0<=s/\s<=700)&&xCg f)):=ι rfl;generalize pW o s f=R at HR⊢;have HP:=ι (λW=>xB5 o W);have HF:=ι (λW=>xL0 f W);cases hp:xL1 o with
 |false=>
  rw[hp] at HP HR;clear hp;go_enter func138,ntmps138;go_wp2_with (go_at_call 109;refine(HP.o _).mono ?_;rintro e w' ⟨rfl,rfl⟩)
  go_ret;exact⟨by rw[HR.o];simp,rfl⟩
 |true=>
  rw[hp] at HP HR;clear hp;generalize xCg f=b at HF HR
  by_cases h1:0<=s
  ·by_cases h2:s<=700
   ·have Hf:Hid (R=b):=ι (by rw[HR.o];simp[h1,h2]);go_enter func138,ntmps138;go_wp2_with (first|(go_at_call 109;refine(HP.o _).mono ?_;rintro e w' ⟨rfl,rfl⟩)|(go_at_call 178;refine(HF.o _).mono ?_;rintro e w' ⟨rfl,rfl⟩))
    go_ret;exact⟨by rw[Hf.o];rfl,rfl⟩
   ·have Hf:Hid (R=false):=ι (by rw[HR.o];simp[h1,h2]);go_enter func138,ntmps138;go_wp2_with (go_at_call 109;refine(HP.o _).mono ?_;rintro e w' ⟨rfl,rfl⟩)
    go_ret;exact⟨by rw[Hf.o];rfl,rfl⟩
  ·have Hf:Hid (R=false):=ι (by rw[HR.o];simp[h1]);go_enter func138,ntmps138;go_wp2_with (go_at_call 109;refine(HP.o _).mono ?_;rintro e w' ⟨rfl,rfl⟩)
   go_ret;exact⟨by rw[Hf.o];rfl,rfl⟩
theorem xFs (s:ByteArray) (w:World):Calls prog 111 #[.string s] w λe w'=>e=.returned (.bool (xCd s.data.toList))/\w'=w:=by
 have hsl:s.data.toList.length=s.size:=Cu
 by_cases h1:1<=s.size
 ·by_cases h2:s.size<=16
  ·have hdone:Hid (xCd s.data.toList=(s.data.toList.drop 0).all chP):=ι (by unfold xCd;simp[hsl,h1,h2]);have Hsl:=ι hsl;clear hsl;go_enter func111,ntmps111;go_wp2
   go_loop [17] (λiv=>∃k:Nat,k<=s.size/\iv=.int .i64 k/\Hid (xCd s.data.toList=(s.data.toList.drop k).all chP)) (λiv=>s.size- (intOf iv).toNat)
   case atStart=>exact⟨0,ω,rfl,hdone⟩
   case round=>
    obtain⟨k,hk,rfl,hr⟩:=hrel;clear hdone
    by_cases hlt:k<s.size
    ·have HS:Hid ((s.data.toList.drop k).all chP=(chN s[k].toNat&&(s.data.toList.drop (k+1)).all chP)):=ι (yI5 hlt chP)
     by_cases e95:(s[k].toNat:Int)=95
     all_goals
      go_wp2
      all_goals first
       |(go_ret;exact⟨by rw[hr.o,HS.o,show chN s[k].toNat=false from Cq (by first|omega|(simp at *;omega))];rfl,rfl⟩)
       |exact⟨⟨k+1,ω,by go_num,ι (by rw[hr.o,HS.o,show chN s[k].toNat=true from Bq (by first|omega|(simp at *;omega)),Ed])⟩,by simp[intOf];omega⟩
    ·go_wp2;go_ret;refine⟨?_,rfl⟩;rw[hr.o,List.drop_eq_nil_iff.2 (by have:=Hsl.o;omega)]
     rfl
  ·have Hf:=ι (show xCd s.data.toList=false by unfold xCd;simp[hsl,h2]);clear hsl;go_enter func111,ntmps111;go_wp2;go_ret;exact⟨by rw[Hf.o];rfl,rfl⟩
 ·have Hf:=ι (show xCd s.data.toList=false by unfold xCd;rw[Cq ω];rfl);clear hsl;go_enter func111,ntmps111;go_wp2;go_ret;exact⟨by rw[Hf.o];rfl,rfl⟩
theorem xSz {L:List vM} {k:Nat} {m:vM} (h:L[k]?=some m) (next last:Int):xEn next (L.drop k) last=(decide (last<m.uid)&&decide (m.uid<next)&&pW m.object m.size m.flags&&xEn next (L.drop (k+1)) m.uid):=by
 have hk:k<L.length:=(Ar.1 h).1;rw[Dj hk];have:L[k]=m:=(Ar.1 h).2;rw[this]
 rfl
theorem xRb {B:Nat} {a w:World} (h:Below B a w) (hB:B<=a.heap.size) (o:Obj):Below B a (w.alloc o):=h.alloc (Bg hB h.size) o
theorem xPr (b:pJ) (mv:Value) (w:World) (hm:jF w w.heap.size mv b.yL) (hl:b.yL.length<=9223372036854775807):
  Calls prog 110 #[.agg #[xR b.name,.int .i64 b.validity,.int .i64 b.next,mv]] w (pv (.bool (xAy b)) w):=by
 obtain⟨A,c,rfl,hc,hrd⟩:=hm;have HN:=ι (λW=>xFs ⟨b.name.toArray⟩ W);have HV:=ι (λW=>xB5 b.validity W);have HX:=ι (λW=>xB5 b.next W);rw[show(⟨b.name.toArray⟩:ByteArray).data.toList=b.name from rfl] at HN
 have HR:Hid (xAy b=(xCd b.name&&xL1 b.validity&&xL1 b.next&&decide (b.yL.length<=30)&&xEn b.next (b.yL.drop 0) 0)):=ι rfl;generalize xAy b=R at HR⊢;generalize xCd b.name=r1 at HN HR;generalize xL1 b.validity=r2 at HV HR;generalize xL1 b.next=r3 at HX HR
 have H1:=ι (φ w (.cells #[xR b.name,.int .i64 b.validity,.int .i64 b.next,.slice A b.yL.length c] 55));have P1:=ι (xJ w (.cells #[xR b.name,.int .i64 b.validity,.int .i64 b.next,.slice A b.yL.length c] 55));have Hrd:=ι hrd;clear hrd
 by_cases hok:(r1=true/\r2=true/\r3=true)/\b.yL.length<=30
 ·obtain⟨⟨rfl,rfl,rfl⟩,h30⟩:=hok
  replace HR:Hid (R=xEn b.next (b.yL.drop 0) 0):=ι (by rw[HR.o];simp[h30])
  go_enter func110,ntmps110
  go_wp2_with (first|(go_at_call 111;refine(HN.o _).mono ?_;rintro e w' ⟨rfl,rfl⟩)|(go_at_call_of 109 (Value.int IntKind.i64 b.validity);refine(HV.o _).mono ?_;rintro e w' ⟨rfl,rfl⟩)|(go_at_call_of 109 (Value.int IntKind.i64 b.next);refine(HX.o _).mono ?_;rintro e w' ⟨rfl,rfl⟩))
  go_loopw [3,31] (λlv iv wr=>∃(k:Nat) (last:Int),k<=b.yL.length/\lv=.int .i64 last/\iv=.int .i64 k/\Hid (R=xEn b.next (b.yL.drop k) last)/\Hid (Below (w.alloc (.cells #[xR b.name,.int .i64 b.validity,.int .i64 b.next,.slice A b.yL.length c] 55)).heap.size (w.alloc (.cells #[xR b.name,.int .i64 b.validity,.int .i64 b.next,.slice A b.yL.length c] 55)) wr)) (λ_ iv _=>b.yL.length- (intOf iv).toNat)
  case atStart=>exact⟨0,0,Bc _,rfl,rfl,HR,ι (Aq _ _)⟩
  case round=>
   obtain⟨k,last,hk,rfl,rfl,hR,hb⟩:=hrel;clear HR
   by_cases hlt:k<b.yL.length
   ·obtain⟨g,off,rfl,hg,hcell⟩:=Hrd.o ω;obtain⟨m,hm⟩:∃m,b.yL[k]?=some m:=⟨_,Af hlt⟩;obtain⟨q1,q2,q3,q4⟩:=hcell k m hm;have kp:∀p:Addr,p.block<w.heap.size->wr.cell? p=w.cell? p:=λp hp=>(hb.o.cell (by simp;omega)).trans (H1.o.cell hp)
    have c1:=(kp (θ g (off+k*4)) hg).trans q1;have c2:=(kp (θ g (off+k*4+1)) hg).trans q2;have c3:=(kp (θ g (off+k*4+2)) hg).trans q3;have c4:=(kp (θ g (off+k*4+3)) hg).trans q4;have c5:wr.cell? (θ w.heap.size 2)=some (.int .i64 b.next):=xA (xC P1.o hb.o σ) 2
    have c6:(wr.alloc (.cells #[.int .i64 m.uid,.int .i64 m.flags,.int .i64 m.object,.int .i64 m.size] 57)).cell? (θ w.heap.size 2)=some (.int .i64 b.next):=xA (xN (xC P1.o hb.o σ) _) 2;have hsz:w.heap.size+1<=wr.heap.size:=by have:=hb.o.size;simpa using this
    have HS:=ι (hR.o.trans (xSz hm b.next last));have HM:=ι (λW=>xC9 m.object m.size m.flags W);generalize pW m.object m.size m.flags=r at HM HS;clear q1 q2 q3 q4 kp hcell hm hR
    have HB9:=ι (xRb hb.o ν (.cells #[.int .i64 m.uid,.int .i64 m.flags,.int .i64 m.object,.int .i64 m.size] 57))
    by_cases u1:last<m.uid
    ·by_cases u2:m.uid<b.next
     ·cases r with
      |true=>
       have HT:Hid (R=xEn b.next (b.yL.drop (k+1)) m.uid):=ι (by rw[HS.o];simp[u1,u2]);go_wp2_with (go_at_call 138;refine(HM.o _).mono ?_;rintro e w' ⟨rfl,rfl⟩)
       exact⟨⟨k+1,m.uid,ω,rfl,by go_num,HT,HB9⟩,by simp[intOf];omega⟩
      |false=>
       have HF:Hid (R=false):=ι (by rw[HS.o];simp);go_wp2_with (go_at_call 138;refine(HM.o _).mono ?_;rintro e w' ⟨rfl,rfl⟩)
       go_ret;exact⟨by rw[HF.o];rfl,H1.o.trans (HB9.o.mono H1.o.size)⟩
     ·have HF:Hid (R=false):=ι (by rw[HS.o];simp[u2]);go_wp2;go_ret;exact⟨by rw[HF.o];rfl,H1.o.trans (HB9.o.mono H1.o.size)⟩
    ·have HF:Hid (R=false):=ι (by rw[HS.o];simp[u1]);go_wp2;go_ret;exact⟨by rw[HF.o];rfl,H1.o.trans (HB9.o.mono H1.o.size)⟩
   ·go_wp2;go_ret;refine⟨?_,H1.o.trans (hb.o.mono H1.o.size)⟩;rw[hR.o,List.drop_eq_nil_iff.2 ω]
    rfl
 ·have HF:Hid (R=false):=ι (by
   rw[HR.o];rcases Nat.lt_or_ge 30 b.yL.length with h30|h30
   ·rw[Cq ω];simp
   ·cases r1<;>cases r2<;>cases r3<;>simp_all)
  have key:r1=false∨(r1=true/\r2=false)∨(r1=true/\r2=true/\r3=false)∨(r1=true/\r2=true/\r3=true/\30<b.yL.length):=by
   cases r1<;>cases r2<;>cases r3<;>simp_all
  clear hok HR;rcases key with rfl|⟨rfl,rfl⟩|⟨rfl,rfl,rfl⟩|⟨rfl,rfl,rfl,h30⟩
  all_goals
   go_enter func110,ntmps110
   go_wp2_with (first|(go_at_call 111;refine(HN.o _).mono ?_;rintro e w' ⟨rfl,rfl⟩)|(go_at_call_of 109 (Value.int IntKind.i64 b.validity);refine(HV.o _).mono ?_;rintro e w' ⟨rfl,rfl⟩)|(go_at_call_of 109 (Value.int IntKind.i64 b.next);refine(HX.o _).mono ?_;rintro e w' ⟨rfl,rfl⟩))
   go_ret;exact⟨by rw[HF.o];rfl,H1.o⟩
end Go.Proofs.IX
namespace Mailsack
theorem xTv {L:List pJ} {k:Nat} {b:pJ} (h:L[k]?=some b) (given:Int) (p:Bs):xBa given (L.drop k) k p=(xAy b&&decide (b.validity<given)&&!(decide (0<k)&&b.name==pX)&&!(decide (1<k)&&leS b.name p)&&xBa given (L.drop (k+1)) (k+1) b.name):=by
 have hk:k<L.length:=(Ar.1 h).1;rw[Dj hk];have:L[k]=b:=(Ar.1 h).2;rw[this]
 rfl
theorem xX4 {L:List Bs} {k:Nat} {s:Bs} (h:L[k]?=some s) (p:Bs):xEt (L.drop k) k p=(xCd s&&!(decide (0<k)&&leS s p)&&xEt (L.drop (k+1)) (k+1) s):=by
 have hk:k<L.length:=(Ar.1 h).1;rw[Dj hk];have:L[k]=s:=(Ar.1 h).2;rw[this]
 rfl
theorem xIs {L:List pJ} {k:Nat} {b:pJ} (h:L[k]?=some b):vU (L.take (k+1))=vU (L.take k)+b.yL.length:=by
 unfold vU;rw[Cc,h];simp
end Mailsack
namespace Go.Proofs.IX
open Go.RowKit Mailsack MM
theorem xIh {w:World} {B:Nat} {v:Value} {L:List pJ} (h:rD w B v L) {k:Nat} {x:pJ} (hx:L[k]?=some x):∃b off c mv,v=.slice (some (θ b off)) L.length c/\b<B/\w.cell? (θ b (off+k*4))=some (xR x.name)/\w.cell? (θ b (off+k*4+1))=some (.int .i64 x.validity)/\
  w.cell? (θ b (off+k*4+2))=some (.int .i64 x.next)/\w.cell? (θ b (off+k*4+3))=some mv/\jF w B mv x.yL:=by
 obtain⟨A,c,rfl,_,hr⟩:=h;obtain⟨b,off,rfl,hb,hc⟩:=hr (by have:=(Ar.1 hx).1;omega);obtain⟨mv,h1,h2,h3,h4,h5⟩:=hc k x hx;exact⟨b,off,c,mv,rfl,hb,h1,h2,h3,h4,h5⟩
theorem qX (bv sv:Value) (x:yN) (w:World) (h:xRk w w.heap.size bv sv x) (hm:∀b∈x.boxes,b.yL.length<=9223372036854775807) (hl:x.boxes.length<=9223372036854775807) (hl2:x.subs.length<=9223372036854775807):
  Calls prog 67 #[.agg #[bv,sv,.int .i64 x.given]] w (pv (.bool (zV x)) w):=by
 have HB:=ι h.boxes;have HS:=ι h.subs;have HM:=ι hm;obtain⟨A,c,rfl,hc,_⟩:=h.boxes;obtain⟨A2,c2,rfl,hc2,_⟩:=h.subs
 have HR:Hid (zV x=(decide (1<=x.boxes.length)&&decide (x.boxes.length<=6)&&(x.boxes.head?.map (·.name)==some pX)&&decide (x.subs.length<=6)&&xL1 x.given&&xBa x.given x.boxes 0 []&&xEt x.subs 0 []&&decide (vU x.boxes<=30))):=ι rfl;generalize zV x=R at HR⊢
 have H1:=ι (φ w (.cells #[.slice A x.boxes.length c,.slice A2 x.subs.length c2,.int .i64 x.given] 48));have P1:=ι (xJ w (.cells #[.slice A x.boxes.length c,.slice A2 x.subs.length c2,.int .i64 x.given] 48));have HG:=ι (λW=>xB5 x.given W);clear h hm
 by_cases h1:1<=x.boxes.length/\x.boxes.length<=6
 ·obtain⟨b0,hb0⟩:∃b0,x.boxes[0]?=some b0:=⟨_,Af h1.1⟩;obtain⟨g,off,c',mv0,e0,hg,q0,_⟩:=xIh HB.o hb0;injection e0 with e0 _ e0';subst e0 e0';have q0':w.cell? (θ g off)=some (xR b0.name):=by simpa using q0
  obtain⟨nb,hnb⟩:=eX (⟨b0.name.toArray⟩:ByteArray);have q1:(w.alloc (.cells #[.slice (some (θ g off)) x.boxes.length c,.slice A2 x.subs.length c2,.int .i64 x.given] 48)).cell? (θ g off)=some (.string nb):=by rw[<-hnb];exact(H1.o.cell hg).trans q0'
  have hin:(nb.toList==[73,78,66,79,88])=(b0.name==pX):=by rw[<-hnb,Br];rfl
  have hhead:(x.boxes.head?.map (·.name)==some pX)=(b0.name==pX):=by
   rw[List.head?_eq_getElem?,hb0];simp
  rw[hhead] at HR;obtain⟨h1a,h1b⟩:=h1;rw[Bq h1a,Bq h1b] at HR;generalize (b0.name==pX)=r1 at hin HR;clear hhead q0 q0' hnb hb0;cases r1 with
  |false=>
   have HF:Hid (R=false):=ι (by rw[HR.o];simp);go_enter func67,ntmps67;go_wp2;go_ret;exact⟨by rw[HF.o];rfl,H1.o⟩
  |true=>
   by_cases h2:x.subs.length<=6
   ·rw[Bq h2] at HR;generalize xL1 x.given=r2 at HG HR;cases r2 with
    |false=>
     have HF:Hid (R=false):=ι (by rw[HR.o];simp);go_enter func67,ntmps67;go_wp2_with (go_at_call 109;refine(HG.o _).mono ?_;rintro e w' ⟨rfl,rfl⟩)
     go_ret;exact⟨by rw[HF.o];rfl,H1.o⟩
    |true=>
     replace HR:Hid (R=(xBa x.given (x.boxes.drop 0) 0 []&&(xEt x.subs 0 []&&decide (vU x.boxes<=30)))):=ι (by rw[HR.o];simp[Bool.and_assoc])
     go_enter func67,ntmps67;go_wp2_with (go_at_call 109;refine(HG.o _).mono ?_;rintro e w' ⟨rfl,rfl⟩)
     clear hin q1;generalize hrest:(xEt x.subs 0 []&&decide (vU x.boxes<=30))=Q at HR;have HQ:=ι hrest;clear hrest
     go_loopw [3,39] (λtv iv wr=>∃(k tot:Nat) (p:Bs),k<=x.boxes.length/\tot<=30*k/\tv=.int .i64 tot/\iv=.int .i64 k/\Hid (R=(xBa x.given (x.boxes.drop k) k p&&Q)/\tot=vU (x.boxes.take k)/\(∀j,k=j+1->∃b,x.boxes[j]?=some b/\b.name=p)/\Below (w.alloc (.cells #[.slice (some (θ g off)) x.boxes.length c,.slice A2 x.subs.length c2,.int .i64 x.given] 48)).heap.size (w.alloc (.cells #[.slice (some (θ g off)) x.boxes.length c,.slice A2 x.subs.length c2,.int .i64 x.given] 48)) wr)) (λ_ iv _=>x.boxes.length- (intOf iv).toNat)
     case atStart=>exact⟨0,0,[],Bc _,δ,rfl,rfl,ι ⟨HR.o,rfl,λj hj=>by omega,Aq _ _⟩⟩
     case round=>
      obtain⟨k,tot,p,hk,htot,rfl,rfl,hr⟩:=hrel;clear HR
      by_cases hlt:k<x.boxes.length
      ·obtain⟨b,hx⟩:∃b,x.boxes[k]?=some b:=⟨_,Af hlt⟩;obtain⟨g',off',c',mv,e0,_,q0,q1,q2,q3,hmv⟩:=xIh HB.o hx;injection e0 with e0 _ e0';injection e0 with e0;injection e0 with e1 e2;subst e1 e2 e0'
       have hwr:ψ w wr:=H1.o.trans (hr.o.2.2.2.mono H1.o.size);obtain⟨nb,hnb⟩:=eX (⟨b.name.toArray⟩:ByteArray);have r0:wr.cell? (θ g (off+k*4))=some (.string nb):=by rw[<-hnb];exact(hwr.cell hg).trans q0
       have r1:=(hwr.cell (p:=(θ g (off+k*4+1))) hg).trans q1;have r2:=(hwr.cell (p:=(θ g (off+k*4+2))) hg).trans q2;have r3:=(hwr.cell (p:=(θ g (off+k*4+3))) hg).trans q3
       have HRB:Hid (∀W,ψ w W->Calls prog 110 #[.agg #[.string nb,.int .i64 b.validity,.int .i64 b.next,mv]] W (pv (.bool (xAy b)) W)):=ι (λW hb=>by
        have:=xPr b mv W ((hmv.below hb ν).more hb.size) (HM.o b (Bb hx));rw[<-hnb];exact this)
       have hml:xAy b=true->b.yL.length<=30:=λh=>by
        unfold xAy at h;simp only[Au,Be] at h;exact h.1.2
       have HSt:=ι (xTv hx x.given p);have HTk:=ι (xIs hx);have hi1:(nb.toList==[73,78,66,79,88])=(b.name==pX):=by rw[<-hnb,Br];rfl
       have HNB:=ι hnb;have Hx:=ι hx;have Hwr:=ι hwr;obtain⟨Am,cm,rfl,hcm,_⟩:=hmv;clear q0 q1 q2 q3 hnb hwr hx;generalize xAy b=rb at HRB hml HSt;generalize (b.name==pX)=i1 at hi1 HSt;go_wp2_with fail
       have hb8:=ι (xRb (Aq wr.heap.size wr) ν (.cells #[.string nb,.int .i64 b.validity,.int .i64 b.next,.slice Am b.yL.length cm] 55));have pb8:=ι (xJ wr (.cells #[.string nb,.int .i64 b.validity,.int .i64 b.next,.slice Am b.yL.length cm] 55))
       refine cM (HRB.o _ (Hwr.o.trans (hb8.o.mono Hwr.o.size))) λw3 hb3=>?_;have hb3':=bT hb8.o hb3;have HB3:=ι (Hwr.o.trans (hb3'.mono Hwr.o.size));have HBe:=ι (hr.o.2.2.2.trans (hb3'.mono hr.o.2.2.2.size));have pb3:=xC pb8.o hb3 σ
       have z0:w3.cell? (θ wr.heap.size 0)=some (.string nb):=xA pb3 0;have z1:w3.cell? (θ wr.heap.size 1)=some (.int .i64 b.validity):=xA pb3 1;have z3:w3.cell? (θ wr.heap.size 3)=some (.slice Am b.yL.length cm):=xA pb3 3;have p3:=xC P1.o HBe.o σ
       have y0:w3.cell? (θ w.heap.size 0)=some (.slice (some (θ g off)) x.boxes.length c):=xA p3 0;have y2:w3.cell? (θ w.heap.size 2)=some (.int .i64 x.given):=xA p3 2;clear hb3 hb3' pb3 p3 r0 r1 r2 r3 HRB hb8 pb8;cases rb with
       |false=>
        have HF:Hid (R=false):=ι (by rw[hr.o.1,HSt.o];simp);go_wp2;go_ret;exact⟨by rw[HF.o];rfl,HB3.o⟩
       |true=>
        have hml':=hml rfl;clear hml
        by_cases hv:b.validity<x.given
        ·have hzl:wr.heap.size<w3.heap.size:=Gp w3 _ z0;have hyl:w.heap.size<w3.heap.size:=Gp w3 _ y0;have hgl:g<w3.heap.size:=Nat.lt_trans hg hyl;rcases Nat.lt_trichotomy k 1 with h|h|h
         ·obtain rfl:k=0:=ω;have HT:Hid (R=(xBa x.given (x.boxes.drop (0+1)) (0+1) b.name&&Q)):=ι (by rw[hr.o.1,HSt.o];simp[hv]);go_upto_region 11 with fail
          refine RG.xU (λW=>Hid (ψ w3 W)) κ κ (ι (Aq _ _).drew) ?_;iterate 23 refine RG.dF (λw9 hw9=>have z0':=(hw9.o.cell (p:=θ wr.heap.size 0) hzl).trans z0;have y0':=(hw9.o.cell (p:=θ w.heap.size 0) hyl).trans y0;Ai (z0') y0') ?_
          refine RG.xX (λw4 hb4=>?_);have HB4:=ι (HB3.o.trans (hb4.o.mono HB3.o.size));have HBe4:=ι (HBe.o.trans (hb4.o.mono HBe.o.size));have z3':=(hb4.o.cell (p:=θ wr.heap.size 3) hzl).trans z3;clear hb4;go_wp2
          exact⟨⟨0+1,tot+b.yL.length,b.name,ω,ω,by go_num,by go_num,ι ⟨HT.o,by rw[HTk.o,<-hr.o.2.1],λi hi=>⟨b,by rw[show i=0 by omega];exact Hx.o,rfl⟩,HBe4.o⟩⟩,by simp[intOf];omega⟩
         ·subst h;cases i1
          ·have HT:Hid (R=(xBa x.given (x.boxes.drop (1+1)) (1+1) b.name&&Q)):=ι (by rw[hr.o.1,HSt.o];simp[hv]);go_upto_region 11 with fail
           refine RG.xU (λW=>Hid (ψ w3 W)) κ κ (ι (Aq _ _).drew) ?_;iterate 23 refine RG.dF (λw9 hw9=>have z0':=(hw9.o.cell (p:=θ wr.heap.size 0) hzl).trans z0;have y0':=(hw9.o.cell (p:=θ w.heap.size 0) hyl).trans y0;Ai (z0') y0') ?_
           refine RG.xX (λw4 hb4=>?_);have HB4:=ι (HB3.o.trans (hb4.o.mono HB3.o.size));have HBe4:=ι (HBe.o.trans (hb4.o.mono HBe.o.size));have z3':=(hb4.o.cell (p:=θ wr.heap.size 3) hzl).trans z3;clear hb4;go_wp2
           exact⟨⟨1+1,tot+b.yL.length,b.name,ω,ω,by go_num,by go_num,ι ⟨HT.o,by rw[HTk.o,<-hr.o.2.1],λi hi=>⟨b,by rw[show i=1 by omega];exact Hx.o,rfl⟩,HBe4.o⟩⟩,by simp[intOf];omega⟩
          ·have HF:Hid (R=false):=ι (by rw[hr.o.1,HSt.o];simp[hv]);have hp1:nb.toList=[73,78,66,79,88]:=Gz.1 hi1;go_upto_region 11 with fail
           refine RG.xU (λW=>Hid (ψ w3 W)) κ κ (ι (Aq _ _).drew) ?_
           iterate 23
            apply RG.xL
            ·intro w9 hw9;have z0':=(hw9.o.cell (p:=θ wr.heap.size 0) hzl).trans z0;have y0':=(hw9.o.cell (p:=θ w.heap.size 0) hyl).trans y0;repeat (first|go_big_skip|go_step)
             exact RG.xE hw9
            ·rfl
           refine RG.xX (λw4 hb4=>?_);have HB4:=ι (HB3.o.trans (hb4.o.mono HB3.o.size));clear hb4;go_wp2;go_ret;exact⟨by rw[HF.o];rfl,HB4.o⟩
         ·obtain⟨j,rfl⟩:∃j,k=j+1:=⟨k-1,ω⟩;obtain⟨b',hx',hp'⟩:=hr.o.2.2.1 j rfl;obtain⟨g',off',c',mv,e0,_,q0,_⟩:=xIh HB.o hx';injection e0 with e0 _ e0';injection e0 with e0;injection e0 with e1 e2;subst e1 e2 e0';rw[hp'] at q0
          obtain⟨pb,hpb⟩:=eX (⟨p.toArray⟩:ByteArray);have v0:w3.cell? (θ g (off+j*4))=some (.string pb):=by rw[<-hpb];exact(HB3.o.cell hg).trans q0
          have hi2:(Op.bytesLess nb.toList pb.toList||nb.toList==pb.toList)=leS b.name p:=by rw[<-HNB.o,<-hpb,Br,Br];rfl
          clear q0 hpb hx' hp';have hj0:0<j:=ω;cases i1
          ·generalize leS b.name p=i2 at hi2 HSt;cases i2
           ·have HT:Hid (R=(xBa x.given (x.boxes.drop ((j+1)+1)) ((j+1)+1) b.name&&Q)):=ι (by rw[hr.o.1,HSt.o];simp[hv]);go_upto_region 11 with fail
            refine RG.xU (λW=>Hid (ψ w3 W)) κ κ (ι (Aq _ _).drew) ?_
            iterate 23 refine RG.dF (λw9 hw9=>have z0':=(hw9.o.cell (p:=θ wr.heap.size 0) hzl).trans z0;have y0':=(hw9.o.cell (p:=θ w.heap.size 0) hyl).trans y0;have v0':=(hw9.o.cell (p:=(θ g (off+j*4))) hgl).trans v0;Ai (z0') (Ai (y0') v0')) ?_
            refine RG.xX (λw4 hb4=>?_);have HB4:=ι (HB3.o.trans (hb4.o.mono HB3.o.size));have HBe4:=ι (HBe.o.trans (hb4.o.mono HBe.o.size));have z3':=(hb4.o.cell (p:=θ wr.heap.size 3) hzl).trans z3;clear hb4;go_wp2
            exact⟨⟨(j+1)+1,tot+b.yL.length,b.name,ω,ω,by go_num,by go_num,ι ⟨HT.o,by rw[HTk.o,<-hr.o.2.1],λi hi=>⟨b,by rw[show i=j+1 by omega];exact Hx.o,rfl⟩,HBe4.o⟩⟩,by simp[intOf];omega⟩
           ·have HF:Hid (R=false):=ι (by rw[hr.o.1,HSt.o];simp[hv,hj0]);go_upto_region 11 with fail
            refine RG.xU (λW=>Hid (ψ w3 W)) κ κ (ι (Aq _ _).drew) ?_
            iterate 23 refine RG.dF (λw9 hw9=>have z0':=(hw9.o.cell (p:=θ wr.heap.size 0) hzl).trans z0;have y0':=(hw9.o.cell (p:=θ w.heap.size 0) hyl).trans y0;have v0':=(hw9.o.cell (p:=(θ g (off+j*4))) hgl).trans v0;Ai (z0') (Ai (y0') v0')) ?_
            refine RG.xX (λw4 hb4=>?_);have HB4:=ι (HB3.o.trans (hb4.o.mono HB3.o.size));clear hb4;go_wp2;go_ret;exact⟨by rw[HF.o];rfl,HB4.o⟩
          ·have HF:Hid (R=false):=ι (by rw[hr.o.1,HSt.o];simp[hv]);have hp1:nb.toList=[73,78,66,79,88]:=Gz.1 hi1;go_upto_region 11 with fail
           refine RG.xU (λW=>Hid (ψ w3 W)) κ κ (ι (Aq _ _).drew) ?_
           iterate 23
            apply RG.xL
            ·intro w9 hw9;have z0':=(hw9.o.cell (p:=θ wr.heap.size 0) hzl).trans z0;have y0':=(hw9.o.cell (p:=θ w.heap.size 0) hyl).trans y0;have v0':=(hw9.o.cell (p:=(θ g (off+j*4))) hgl).trans v0;repeat (first|go_big_skip|go_step)
             exact RG.xE hw9
            ·rfl
           refine RG.xX (λw4 hb4=>?_);have HB4:=ι (HB3.o.trans (hb4.o.mono HB3.o.size));clear hb4;go_wp2;go_ret;exact⟨by rw[HF.o];rfl,HB4.o⟩
        ·have HF:Hid (R=false):=ι (by rw[hr.o.1,HSt.o];simp[hv]);go_wp2;go_ret;exact⟨by rw[HF.o];rfl,HB3.o⟩
      ·obtain rfl:k=x.boxes.length:=ω;have HE:Hid (R=(xEt (x.subs.drop 0) 0 []&&decide (tot<=30))/\∀j,(0:Nat)=j+1->x.subs[j]?=some []):=ι ⟨by rw[hr.o.1,List.drop_length,<-HQ.o,hr.o.2.1,Cf];simp[xBa],λj hj=>by omega⟩
       have HWR:Hid (ψ w wr):=ι (H1.o.trans (hr.o.2.2.2.mono H1.o.size));have y1:wr.cell? (θ w.heap.size 1)=some (.slice A2 x.subs.length c2):=xA (xC P1.o hr.o.2.2.2 σ) 1;clear hr;go_wp2_with fail
       go_loop [86] (λiv=>∃(k:Nat) (p:Bs),k<=x.subs.length/\iv=.int .i64 k/\Hid (R=(xEt (x.subs.drop k) k p&&decide (tot<=30))/\∀j,k=j+1->x.subs[j]?=some p)) (λiv=>x.subs.length- (intOf iv).toNat)
       case atStart=>exact⟨0,[],Bc _,rfl,HE⟩
       case round=>
        obtain⟨k,p,hk,rfl,hr⟩:=hrel;clear HE
        by_cases hlt:k<x.subs.length
        ·obtain⟨s,hx⟩:∃s,x.subs[k]?=some s:=⟨_,Af hlt⟩;obtain⟨A3,c3,e0,_,hrd⟩:=HS.o;injection e0 with e0 _ e0';subst e0 e0';obtain⟨g2,yBr,rfl,hg2,hcell⟩:=hrd ω;have q0:=(HWR.o.cell (p:=(θ g2 (yBr+k))) hg2).trans (hcell k s hx)
         obtain⟨sb,hsb⟩:=eX (⟨s.toArray⟩:ByteArray);have r0:wr.cell? (θ g2 (yBr+k))=some (.string sb):=by rw[<-hsb];exact q0
         have HSt:=ι (xX4 hx p)
         have HN:Hid (∀W,Calls prog 111 #[.string sb] W λe w'=>e=.returned (.bool (xCd s))/\w'=W):=ι (λW=>by
          have:=xFs sb W;rw[show sb.data.toList=s by rw[<-hsb]] at this;exact this)
         generalize xCd s=rn at HN HSt;have Hx:=ι hx;rcases Nat.eq_zero_or_pos k with h|h
         ·subst h;clear q0 hsb hx hcell hrd;have r0':wr.cell? (θ g2 yBr)=some (.string sb):=by simpa using r0
          cases rn with
          |false=>
           have HF:Hid (R=false):=ι (by rw[hr.o.1,HSt.o];simp);go_wp2_with (first|go_big_skip|(go_at_call 111;refine(HN.o _).mono ?_;rintro e w' ⟨rfl,rfl⟩))
           go_ret;exact⟨by rw[HF.o];rfl,HWR.o⟩
          |true=>
           have HT:Hid (R=(xEt (x.subs.drop (0+1)) (0+1) s&&decide (tot<=30))):=ι (by rw[hr.o.1,HSt.o];simp);go_wp2_with (first|go_big_skip|(go_at_call 111;refine(HN.o _).mono ?_;rintro e w' ⟨rfl,rfl⟩))
           exact⟨⟨0+1,s,ω,by go_num,ι ⟨HT.o,λi hi=>by rw[show i=0 by omega];exact Hx.o⟩⟩,by simp[intOf];omega⟩
         ·obtain⟨j,rfl⟩:∃j,k=j+1:=⟨k-1,ω⟩;have hx':=hr.o.2 j rfl;obtain⟨pb,hpb⟩:=eX (⟨p.toArray⟩:ByteArray);have v0:wr.cell? (θ g2 (yBr+j))=some (.string pb):=by rw[<-hpb];exact(HWR.o.cell (p:=(θ g2 (yBr+j))) hg2).trans (hcell j p hx')
          have hi2:(Op.bytesLess sb.toList pb.toList||sb.toList==pb.toList)=leS s p:=by rw[<-hsb,<-hpb,Br,Br];rfl
          generalize leS s p=i2 at hi2 HSt;clear q0 hsb hx hcell hrd hpb hx';cases rn with
          |false=>
           have HF:Hid (R=false):=ι (by rw[hr.o.1,HSt.o];simp);go_wp2_with (first|go_big_skip|(go_at_call 111;refine(HN.o _).mono ?_;rintro e w' ⟨rfl,rfl⟩))
           go_ret;exact⟨by rw[HF.o];rfl,HWR.o⟩
          |true=>
           cases i2 with
           |true=>
            have HF:Hid (R=false):=ι (by rw[hr.o.1,HSt.o];simp);go_wp2_with (first|go_big_skip|(go_at_call 111;refine(HN.o _).mono ?_;rintro e w' ⟨rfl,rfl⟩))
            go_ret;exact⟨by rw[HF.o];rfl,HWR.o⟩
           |false=>
            have HT:Hid (R=(xEt (x.subs.drop (j+1+1)) (j+1+1) s&&decide (tot<=30))):=ι (by rw[hr.o.1,HSt.o];simp);go_wp2_with (first|go_big_skip|(go_at_call 111;refine(HN.o _).mono ?_;rintro e w' ⟨rfl,rfl⟩))
            exact⟨⟨j+1+1,s,ω,by go_num,ι ⟨HT.o,λi hi=>by rw[show i=j+1 by omega];exact Hx.o⟩⟩,by simp[intOf];omega⟩
        ·have HF:Hid (R=decide (tot<=30)):=ι (by rw[hr.o.1,List.drop_eq_nil_iff.2 ω];simp[xEt])
         by_cases h30:tot<=30
         ·rw[Bq h30] at HF;go_wp2;go_ret;exact⟨by rw[HF.o];simp;omega,HWR.o⟩
         ·rw[Cq h30] at HF;go_wp2;go_ret;exact⟨by rw[HF.o];simp;omega,HWR.o⟩
   ·have HF:Hid (R=false):=ι (by rw[HR.o,Cq h2];simp);go_enter func67,ntmps67;go_wp2;go_ret;exact⟨by rw[HF.o];rfl,H1.o⟩
 ·have HF:Hid (R=false):=ι (by
   rw[HR.o];rcases Nat.lt_or_ge x.boxes.length 1 with h9|h9
   ·rw[Cq ω];simp
   ·rw[Cq (p:=x.boxes.length<=6) ω];simp)
  have h1':x.boxes.length<1∨6<x.boxes.length:=ω;clear h1;rcases h1' with h1|h1
  all_goals
   go_enter func67,ntmps67;go_wp2;go_ret;exact⟨by rw[HF.o];rfl,H1.o⟩
end Go.Proofs.IX
namespace Go.Proofs.VB
open Go.RowKit Mailsack MM BU
def rF (w:World) (base:Nat) (v:Value) (l:Bs):Prop:=w.ownsRow base 5 1 v l.length (l.map λc=>Value.int .u8 c.toNat)
theorem rF.nil (w:World) (base:Nat):rF w base (.slice none 0 0) []:=World.ownsRow_nil w base _ _
theorem rF.of {w:World} {base:Nat} {v:Value} {l:Bs} {c:UInt8} (h:w.ownsRow base 5 1 v (l.length+1) (l.map (λc=>Value.int .u8 c.toNat)++[.int .u8 c.toNat])):rF w base v (l++[c]):=by
 unfold rF;rw[Aj,Da];exact h
theorem rF.alloc {w:World} {base:Nat} {v:Value} {l:Bs} (h:rF w base v l) (o:Obj):(w.alloc o).ownsRow base 5 1 v l.length (l.map λc=>Value.int .u8 c.toNat):=Hw h o
theorem yE1 {w:World} {base:Nat} {v:Value} {l:Bs} (h:rF w base v l):(convert 96 9 v).run prog w=.ok (xR l) w:=by
 rcases h.2 with ⟨h1,h2⟩|⟨g,cap,cur,h1,_,_,h2,_⟩
 ·have:l=[]:=Cs h2;subst this;have h0:∀W:World,(convert 96 9 (.slice none 0 0)).run prog W=.ok (.string ⟨#[]⟩) W:=λ_=>by kernel_rfl
  rw[h1];exact h0 w
 ·rw[h1];refine Dl w _ _ 5 (θ g 0) cap l underlying96 underlying5 underlying9 (λj hj=>?_);exact Eh h (g:=g) (by rw[h1];rfl) j _ (by simp[hj])
end Go.Proofs.VB
namespace Mailsack
def byteOf (z:Int):UInt8:=UInt8.ofNat (z % 256).toNat
theorem xMr (z:Int):((byteOf z).toNat:Int)=z % 256:=by
 unfold byteOf;have h1:=Int.emod_nonneg z (b:=256) δ;have h2:=Int.emod_lt_of_pos z (b:=256) δ;rw[UInt8.toNat_ofNat',Dx ω];omega
def wR (n:Int) (c:Nat):Bs:=(List.range c).map λi=>byteOf (n / 2^(8*i))
theorem yBu (n:Int) (c:Nat):wR n (c+1)=wR n c++[byteOf (n / 2^(8*c))]:=by
 unfold wR;rw[List.range_succ,Da];rfl
def xC4 (s:Bs):Bs:=byteOf s.length::s
theorem vV (n:Int) (c:Nat):(wR n c).length=c:=by unfold wR;simp
end Mailsack
namespace Go.Proofs.IX
open Go.RowKit Mailsack MM BU VB
structure Ext (w:World) (v:Value) (w':World) (v':Value):Prop where
 grown:w.grownBy w' v.ownBlock
 own:∀k,v'.ownBlock=some k->v.ownBlock=some k∨w.heap.size<=k
theorem Ext.refl (w:World) (v:Value):Ext w v w v:=⟨⟨rfl,rfl,rfl,Bd _,λ_ _ _=>rfl⟩,λ_ h=>.inl h⟩
theorem Ext.trans {w w1 w2:World} {v v1 v2:Value} (h:Ext w v w1 v1) (k:Ext w1 v1 w2 v2):Ext w v w2 v2:=by
 refine⟨⟨k.grown.os.trans h.grown.os,k.grown.tape.trans h.grown.tape,k.grown.output.trans h.grown.output,Bg h.grown.size k.grown.size,λb hb hne=>?_⟩,λb hb=>?_⟩
 ·refine(k.grown.block b (Bt hb h.grown.size) (λe=>?_)).trans (h.grown.block b hb hne);rcases h.own b e.symm with h1|h1
  ·exact hne h1.symm
  ·omega
 ·rcases k.own b hb with h1|h1
  ·exact h.own b h1
  ·exact .inr (Bg h.grown.size h1)
theorem Ext.push {w w1:World} {v:Value} {o:Obj} {g n cap:Nat} (hg:(w.alloc o).grownBy w1 v.ownBlock) (hl:v.ownBlock=some g∨g=w.heap.size+1):Ext w v w1 (.slice (some (θ g 0)) n cap):=by
 refine⟨⟨hg.os,hg.tape,hg.output,Bg σ hg.size,λb hb hne=>?_⟩,λb hb=>?_⟩
 ·exact(hg.block b (by simp;omega) hne).trans (Below.heap_alloc w o b hb)
 ·have hb':g=b:=by simpa[Value.ownBlock] using hb
  subst hb';rcases hl with h|h
  ·exact .inl h
  ·exact .inr ω
theorem Ext.away {w w':World} {v v':Value} (h:Ext w v w' v') {g:Nat} (hg:g<w.heap.size) (hne:v.ownBlock≠some g):w'.heap[g]?=w.heap[g]?/\v'.ownBlock≠some g:=by
 refine⟨h.grown.block g hg (λe=>hne e.symm),λe=>?_⟩;rcases h.own g e with h1|h1
 ·exact hne h1
 ·omega
theorem Ext.below {w w':World} {v v':Value} (h:Ext w v w' v') {base:Nat} {l:Bs} (ho:rF w base v l) (hb:base<=w.heap.size):Below base w w':=
 ⟨h.grown.os,h.grown.tape,h.grown.output,h.grown.size,λk hk=>h.grown.block k ω (λe=>by
  have:=(Di ho k e.symm).1;omega)⟩
theorem xSg {P:Program} (w:World) (base:Nat) (t u ty e:TypeId) (i:TypeInfo) (ht:P.underlying t=some (.slice e)) (hu:P.underlying u=some .string) (hi:P.info? e=some i) (hz:i.zero=some (.int .u8 0))
  (hsize:i.size=1) (hby:i.bytes=1) (g n cap:Nat) (xs:List Value) (hown:w.ownsRow base e 1 (.slice (some (θ g 0)) n cap) n xs) (s:ByteArray)
  (h63:n+s.size<=maxLen) (hbytes:n+s.size<=140737488355328) (hbase:base<=w.heap.size):
  ∃v' w',(Builtin.append_ #[t,u] ty #[.slice (some (θ g 0)) n cap,.string s]).run P w=.ok v' w'/\w'.ownsRow base e 1 v' (n+s.size) (xs++Lib.strCells s)/\w.grownBy w' (some g)/\
   (v'.ownBlock=some g∨v'.ownBlock=some w.heap.size):=by
 obtain⟨v',w',hr,h2,h3,_⟩:=Hu (P:=P) w base t u ty e i ht hu hi hz hsize hby _ n xs hown s h63 hbytes hbase;refine⟨v',w',hr,h2,h3,?_⟩;have hsmall:n+s.size<=9223372036854775807:=by simp only[maxLen] at h63;omega
 have hxl:xs.length=n:=by simpa using hown.1
 rcases hown.2 with ⟨h,_⟩|⟨g',cap',cur,h,hbg,hg,hnc,hcm,hcs,htake⟩
 ·cases h
 ·injection h with h h' h'';injection h with h;injection h with h;subst h h''
  by_cases hroom:n+s.size<=cap
  ·have hcs':cur.size=cap:=by simpa using hcs
   have hq:=Lib.run_append_room_string (P:=P) w t u ty e i ht hu hi hsize g n cap cur hg s hroom ω;rw[hq] at hr;injection hr with hv hw;exact .inl (by rw[<-hv];rfl)
  ·have holds:∀j u,xs[j]?=some u->w.cell? ((⟨g,0,none⟩:Addr).add j)=some u:=hown.cells (g:=g) rfl
   have hq:=Lib.run_append_grow_string (P:=P) w t u ty e i (.int .u8 0) ht hu hi hz (θ g 0) n cap xs (by rw[hsize];simpa using hxl) holds s ω ω (by rw[hby];exact growslice_fits ω ω);rw[hq] at hr;injection hr with hv hw;exact .inr (by rw[<-hv];rfl)
theorem xKv {P:Program} {w:World} {ops:Array Oper} {rest:List Oper} {o:Oper} {a:Act} {Q:Exit->Act->World->Prop} (hgd:o.guard=none) (sl x:Operand) (t u:TypeId)
  (ho:o.op=.call {callee:=.builtin .append,args:=#[sl,x],argTypes:=#[t,u]})
  (base:Nat) (e:TypeId) (i:TypeInfo) (ht:P.underlying t=some (.slice e)) (hu:P.underlying u=some .string) (hi:P.info? e=some i) (hz:i.zero=some (.int .u8 0))
  (hsize:i.size=1) (hby:i.bytes=1)
  (g n cap:Nat) (xs:List Value) (hs:a.eval sl=.slice (some (θ g 0)) n cap) (hown:w.ownsRow base e 1 (.slice (some (θ g 0)) n cap) n xs) (s:ByteArray) (hx:a.eval x=.string s)
  (h63:n+s.size<=maxLen) (hbytes:n+s.size<=140737488355328) (hbase:base<=w.heap.size)
  (h:∀v' w',w'.ownsRow base e 1 v' (n+s.size) (xs++Lib.strCells s)->w.grownBy w' (some g)->(v'.ownBlock=some g∨v'.ownBlock=some w.heap.size)->wpList P ops Q rest (a.put o.dst v') w'):wpList P ops Q (o::rest) a w:=by
 refine Hr hgd λK hK=>?_;obtain⟨v',w',hr,h2,h3,h4⟩:=xSg (P:=P) w base t u o.type e i ht hu hi hz hsize hby g n cap xs hown s h63 hbytes hbase;unfold Oper.wp execOp
 simp only[ho,resolve,invoke,builtin,Gu,Sem.run_pure,Gy,Gl,Du,Ht,hs,hx,hr];exact hK _ _ (h v' w' h2 h3 h4)
theorem Ext.spread {w w1:World} {g n cap:Nat} {v':Value} (hg:w.grownBy w1 (some g)) (hl:v'.ownBlock=some g∨v'.ownBlock=some w.heap.size):Ext w (.slice (some (θ g 0)) n cap) w1 v':=by
 refine⟨hg,λb hb=>?_⟩;rcases hl with h|h
 ·exact .inl (by rw[<-hb,h];rfl)
 ·rw[h] at hb;injection hb with hb;exact .inr ω
theorem xE5 (n:Int) (c:Nat) (v:Value) (l:Bs) (w:World) (base:Nat) (ho:rF w base v l) (hb:base<=w.heap.size) (hl:l.length<4294967281) (hc:c<=4):
  Calls prog 68 #[v,.int .i64 n,.int .i64 c] w λe w'=>∃v',e=.returned v'/\rF w' base v' (l++wR n c)/\Ext w v w' v':=by
 obtain⟨i0,hi,hz0,hz1,hz2⟩:=info_parts yCt;have HO:=ι ho;clear ho;go_enter func68,ntmps68;go_wp2
 go_loopw [0,9] (λlv iv wr=>∃k:Nat,k<=c/\iv=.int .i64 k/\Hid (rF wr base lv (l++wR n k))/\Hid (Ext w v wr lv)) (λ_ iv _=>c- (intOf iv).toNat)
 case atStart=>exact⟨0,Bc _,rfl,ι (by rw[show wR n 0=[] from rfl,Dw];exact HO.o),ι (Ext.refl _ _)⟩
 case round=>
  obtain⟨k,hk,rfl,hown,yD0⟩:=hrel
  by_cases hlt:k<c
  ·have HL0:=(show(l++wR n k).length=l.length+k by rw[Aj,vV]);obtain⟨L,hL⟩:=eX (l++wR n k);rw[hL] at hown HL0;have HL:=ι HL0;have HLe:=ι hL;clear HL0 hL;have HS:=ι (yBu n k);have HK:=ι (show k<4 by omega)
   go_wp2_with (at_builtin;refine Fw _ rfl _ _ 96 rfl base 5 i0 (.int .u8 0) 1 1 underlying96 hi hz0 hz1 hz2 rfl δ _ _ _ rfl (hown.o.alloc _) (θ wr.heap.size 0) 1 1 [.int .u8 (n / 2^(8*k) % 256)] rfl rfl (cell_one_new _ _ _) (yIr _) δ (by have:=HL.o;have:=HK.o;unfold maxLen;omega) (by have:=HL.o;have:=HK.o;omega) (by have:=yD0.o.grown.size;simp;omega) (wr.heap.size+1) σ ?_;intro g cap w1 hown1 hgrow hat hlt1)
   have he2:=yD0.o.trans (Ext.push (n:=L.length+1) (cap:=cap) hgrow hat);have ho2:=ι hown1;clear hown1 hgrow hat
   go_roundw
   case rel=>exact⟨k+1,ω,by go_num,ι (by
    rw[HS.o,<-Cy,HLe.o];refine rF.of ?_;rw[xMr];exact ho2.o),ι he2⟩
   case measure=>simp[intOf];omega
  ·go_wp2;go_ret;refine⟨_,rfl,?_,yD0.o⟩;rw[show c=k by omega];exact hown.o
theorem xFh (s:ByteArray) (v:Value) (l:Bs) (w:World) (base:Nat) (ho:rF w base v l) (hb:base<=w.heap.size) (hl:l.length<4294967281) (hs:s.size<=100):
  Calls prog 69 #[v,.string s] w λe w'=>∃v',e=.returned v'/\rF w' base v' (l++xC4 s.data.toList)/\Ext w v w' v':=by
 obtain⟨i0,hi,hz0,hz1,hz2⟩:=info_parts yCt;have HO:=ι ho;clear ho;go_enter func69,ntmps69;have hsl:s.data.toList.length=s.size:=Cu;have Hs8:Hid ((((Mailsack.byteOf (s.data.toList.length:Int)).toNat:Int))=(s.size:Int)):=ι (by rw[hsl,xMr];omega)
 have Hsl:=ι hsl;clear hsl
 go_wp2_with (first|(at_builtin;refine Fw _ rfl _ _ 96 rfl base 5 i0 (.int .u8 0) 1 1 underlying96 hi hz0 hz1 hz2 rfl δ _ _ _ rfl (HO.o.alloc _) (θ w.heap.size 0) 1 1 [.int .u8 (s.size:Int)] rfl rfl (cell_one_new _ _ _) (yIr _) δ (by unfold maxLen;omega) ω (by simp;omega) (w.heap.size+1) σ ?_;intro g cap w1 hown1 hgrow hat hlt1;have HE:=ι (Ext.push (n:=l.length+1) (cap:=cap) hgrow hat);have HO1:=ι hown1;clear hown1 hgrow hat hlt1)|(at_builtin;refine xKv rfl _ _ 96 9 rfl base 5 i0 underlying96 underlying9 hi hz0 hz1 hz2 g _ cap _ rfl HO1.o s rfl (by unfold maxLen;omega) ω (by have:=HE.o.grown.size;omega) ?_;intro v2 w2 hown2 hgrow2 hat2;have HE2:=ι (HE.o.trans (Ext.spread (n:=l.length+1) (cap:=cap) hgrow2 hat2));have HO2:=ι hown2;clear hown2 hgrow2 hat2))
 go_ret;refine⟨_,rfl,?_,HE2.o⟩;have h:=HO2.o;unfold rF;rw[show(l++xC4 s.data.toList).length=l.length+1+s.size by unfold xC4;rw[Aj,Bl,Hsl.o];omega]
 rw[show(l++xC4 s.data.toList).map (λc=>Value.int .u8 c.toNat)=l.map (λc=>Value.int .u8 c.toNat)++[.int .u8 (s.size:Int)]++Lib.strCells s by
  unfold xC4 Lib.strCells;rw[Da,Du,Hs8.o,Cy]
  rfl]
 exact h
end Go.Proofs.IX
/- Contracts of functions. Conditions: as stated. -/
import Derived.Test.YtnafbinmecekeaaGreatDoorImapSearchesProofB06
open Go.Proofs.Tryz
set_option maxHeartbeats 8000000
set_option maxRecDepth 100000
namespace Mailsack
theorem xZe (a b:Nat) (ha:a<256) (hb:b<256):Go.bits .or .i64 (a:Int) ((b:Int)*256)=(a:Int)+256*b:=by
 have hx:b*256 |||a=b*256+a:=by
  have:=Nat.two_pow_add_eq_or_of_lt (i:=8) (b:=a) ω b;rw[show 2^8*b=b*256 by omega] at this;exact this.symm
 have h1:(BitVec.ofInt 64 (a:Int)).toNat=a:=by
  rw[BitVec.ofInt_natCast,BitVec.toNat_ofNat];exact Nat.mod_eq_of_lt ω
 have h2:(BitVec.ofInt 64 ((b:Int)*256)).toNat=b*256:=by
  rw[show(b:Int)*256=((b*256:Nat):Int) by omega,BitVec.ofInt_natCast,BitVec.toNat_ofNat];exact Nat.mod_eq_of_lt ω
 show Go.IntKind.i64.wrap ((BitVec.ofInt 64 (a:Int) |||BitVec.ofInt 64 ((b:Int)*256)).toNat:Int)=_;rw[BitVec.toNat_or,h1,h2,Nat.or_comm,hx,Go.IntKind.wrap_i64];omega
theorem xYt (s:ByteArray) (i:Nat):yO s i=(bN s.data.toList i:Int):=rfl
end Mailsack
namespace Go.Proofs.ST
open Go.RowKit Mailsack MM BB SH SV RK DS
structure DcM (w:World) (g:Nat) (t:Slot) (W:World):Prop where
 o:W.heap[w.heap.size]?=some (xFe noSlot)
 s:W.heap[g]?=some (xFe t)
 bel:ψ w W
 lt:w.heap.size<g
theorem xQq (s:ByteArray) (w:World) (hs:s.size=64):
  Calls prog 149 #[.string s] w λe w'=>e=.returned (xLi (xOg s.data.toList))/\ψ w w':=by
 have i0:=λw=>zG (P:=prog) underlying9 s (0:Int) 0 rfl ω w;have i1:=λw=>zG (P:=prog) underlying9 s (1:Int) 1 rfl ω w;have i2:=λw=>zG (P:=prog) underlying9 s (2:Int) 2 rfl ω w;have i3:=λw=>zG (P:=prog) underlying9 s (3:Int) 3 rfl ω w
 have i4:=λw=>zG (P:=prog) underlying9 s (4:Int) 4 rfl ω w;have i5:=λw=>zG (P:=prog) underlying9 s (5:Int) 5 rfl ω w;rw[xYt] at i0 i1 i2 i3 i4 i5;have l0:=xQz s.data.toList 0;have l1:=xQz s.data.toList 1;have l2:=xQz s.data.toList 2
 have l3:=xQz s.data.toList 3;have l4:=xQz s.data.toList 4;have l5:=xQz s.data.toList 5;have xMz:Hid (xOg s.data.toList=if xNg s.data.toList=true then(if s.data.toList=xUz (jY s.data.toList) then jY s.data.toList else noSlot) else noSlot):=ι rfl
 have HOK:Hid (xNg s.data.toList=(decide (bN s.data.toList 0=1)&&decide (bN s.data.toList 1<=1)&&decide (bN s.data.toList 2<kL (bN s.data.toList 1))&&decide (bN s.data.toList 3+256*bN s.data.toList 4<=xRc (bN s.data.toList 1))&&decide (1<=bN s.data.toList 5)&&decide (bN s.data.toList 5<=24))):=ι rfl
 have HSL:Hid (jY s.data.toList=⟨true,bN s.data.toList 1,bN s.data.toList 2,bN s.data.toList 3+256*bN s.data.toList 4,(s.data.toList.drop 6).take (bN s.data.toList 5)⟩):=ι rfl;have HOR:=ι (xZe _ _ l3 l4);generalize bN s.data.toList 0=b0 at*;generalize bN s.data.toList 1=b1 at*
 generalize bN s.data.toList 2=b2 at*;generalize bN s.data.toList 3=b3 at*;generalize bN s.data.toList 4=b4 at*;generalize bN s.data.toList 5=b5 at*;obtain⟨dv,hdv⟩:∃dv,xOg s.data.toList=dv:=⟨_,rfl⟩;rw[hdv] at xMz⊢;have HSZ:=ι hs;clear hdv hs
 have HO0:=ι (And.intro (xI w (xFe noSlot)) (φ w (xFe noSlot)));go_enter func149,ntmps149;go_upto_region 1 with fail
 generalize hw1:w.alloc (.cells #[.bool false,.int .i64 0,.int .i64 0,.int .i64 0,.string ⟨#[]⟩] 165)=w1;have HO1:Hid (w1.heap[w.heap.size]?=some (xFe noSlot)/\ψ w w1):=ι (by rw[<-hw1];exact HO0.o);clear hw1 HO0;have hor:=HOR.o;obtain⟨sz,hsz⟩:∃sz:Nat,b3+256*b4=sz:=⟨_,rfl⟩
 rw[show(b3:Int)+256*b4=(sz:Int) by omega] at hor;rw[hsz] at HOK HSL;have HSB:Hid (sz<=65535):=ι ω;clear HOR hsz;have hTT:xKt ⟨true,b1,b2,sz,[]⟩=[.bool true,.int .i64 b1,.int .i64 b2,.int .i64 sz,.string ⟨#[]⟩]:=rfl;have HTT:=ι hTT;clear hTT
 refine RG.qR [16] [15] (λL α W=>Hid (W.heap[w.heap.size]?=some (xFe noSlot)/\ψ w W/\(L 15=true->∃g,α 15=.pointer (some ⟨g,0,none⟩)/\w.heap.size<g/\(L 16=false->W.heap[g]?=some (xFe noSlot))/\(L 16=true->W.heap[g]?=some (xFe ⟨true,b1,b2,sz,[]⟩)))))
  (λL L' α α' W hl ha h=>ι ⟨h.o.1,h.o.2.1,λe15=>by
   have f15:L 15=true:=by rw[hl 15 σ];exact e15
   rw[<-ha 15 σ f15,<-hl 16 σ];exact h.o.2.2 f15⟩) κ κ κ (ι ⟨HO1.o.1,HO1.o.2.drew,λe=>(by cases e)⟩) ?_
 iterate 15 refine RG.vS ?_
 apply RG.xH9
 ·rfl
 ·intro α L w9 h0 hcl xP hw9;have h16:L 16=false:=hcl.not 8 (i:=16) h0 κ;refine⟨.pointer (some ⟨w9.heap.size,0,none⟩),λbv hbv=>?_⟩;repeat go_step
  rw[<-hbv];refine RG.xB ?_
  exact ι ⟨xM hw9.o.1 _,hw9.o.2.1.alloc hw9.o.2.1.size _,λ_=>⟨w9.heap.size,by
   rw[show RG.xGf α (0+1+1+1+1+1+1+1+1+1+1+1+1+1+1+1) bv 15=bv from RG.wP _ _ _,hbv],xJ hw9.o.1,λ_=>xI _ _,λe=>by
    have:L 16=true:=by simpa using e
    rw[h16] at this;cases this⟩⟩
 ·intro b α;rfl
 apply RG.xDg (v:=undef)
 ·rfl
 ·rfl
 ·intro α L w9 h0 hcl xP hw9
  have h15:L 15=true:=by
   have:=xP.yes 8 (i:=16) (j:=15) σ κ;simpa using this
  obtain⟨g,hg,hlt,hb,_⟩:=hw9.o.2.2 h15;have hbg:=hb h0;rw[show α (0+1+1+1+1+1+1+1+1+1+1+1+1+1+1+1)=_ from hg];obtain⟨o0,y0,f0,o1,y1,f1,o2,y2,f2,o3,y3,f3,o4,y4,f4,HB⟩:=xYn hbg hw9.o.2.1 ω (.bool true) (.int .i64 b1) (.int .i64 b2) (.int .i64 sz) (.string ⟨#[]⟩) _ rfl
  have HSS:=ι (And.intro (uU (b:=g) (l:=[.bool true,.int .i64 b1,.int .i64 b2,.int .i64 sz,.string ⟨#[]⟩]) hbg rfl) (uI (b:=g) (g:=w.heap.size) ω [.bool true,.int .i64 b1,.int .i64 b2,.int .i64 sz,.string ⟨#[]⟩] 0 _ hw9.o.1));have HG:=ι (And.intro hg hlt);clear hg hlt hb hbg
  repeat go_step
  rw[<-show α (0+1+1+1+1+1+1+1+1+1+1+1+1+1+1+1)=_ from HG.o.1];refine RG.xB ?_;exact ι ⟨HSS.o.2,HB.o,λ_=>⟨g,HG.o.1,HG.o.2,λe=>by simp at e,λ_=>HSS.o.1⟩⟩
 ·intro α;rfl
 refine RG.xL0 (λα w9 hw9=>?_);obtain⟨g,hg,hlt,_,hb⟩:=hw9.o.2.2 rfl;rw[show α (0+1+1+1+1+1+1+1+1+1+1+1+1+1+1+1)=_ from hg];have HD:=ι (show DcM w g ⟨true,b1,b2,sz,[]⟩ w9 from⟨hw9.o.1,hb rfl,hw9.o.2.1,hlt⟩);clear hg hlt hb hw9 HO1 hor HTT;go_wp2_with fail
 have HBL:=ι (λW=>xQw b1 W);have HCP:=ι (λW=>xKe b1 W);have HCL:Hid (xRc b1<=1024/\kL b1<=24):=ι ⟨xVg _,xH3 _⟩;generalize kL b1=bl at HBL HOK HCL;generalize xRc b1=cp at HCP HOK HCL
 by_cases t0:b0=1
 rotate_left
 ·have e0:¬((b0:Int)=1):=ω;have e9:((b0:Int)!=1)=true:=by simpa using e0
  have HDV:Hid (dv=noSlot):=ι (by rw[xMz.o,if_neg];rw[HOK.o];simp;omega);clear xMz HOK HSL;go_upto_region 3 with fail
  refine RG.xH (λW=>Hid (DcM w g ⟨true,b1,b2,sz,[]⟩ W)) κ κ (ι ⟨HD.o.o,HD.o.s,HD.o.bel.drew,HD.o.lt⟩) ?_;iterate 4 refine RG.dS ?_
  iterate 3 refine RG.kS ?_
  iterate 2 refine RG.dS ?_
  iterate 6 refine RG.kS ?_
  iterate 2 refine RG.dS ?_
  iterate 6 refine RG.kS ?_
  iterate 2 refine RG.dS ?_
  iterate 2 refine RG.kS ?_
  iterate 2 refine RG.dS ?_
  iterate 2 refine RG.kS ?_
  refine RG.dS ?_;refine RG.xL (λw3 hw3=>?_);obtain⟨o0,y0,f0,o1,y1,f1,o2,y2,f2,o3,y3,f3,o4,y4,f4,HB⟩:=xYn hw3.o.o hw3.o.bel ω (.bool false) (.int .i64 0) (.int .i64 0) (.int .i64 0) (.string ⟨#[]⟩) _ rfl;clear hw3 HD;go_wp2
  refine bodyPost_ret (v:=xLi noSlot) (by simp[results,results149,go_sem,f0,f1,f2,f3,f4,noSlot]) rfl ?_;exact⟨by rw[HDV.o],HB.o⟩
 have g0:(b0:Int)=1:=ω;have g9:((b0:Int)!=1)=false:=by simp[g0]
 by_cases t1:b1<=1
 rotate_left
 ·have e0:1<(b1:Int):=ω;have HDV:Hid (dv=noSlot):=ι (by rw[xMz.o,if_neg];rw[HOK.o];simp;omega);clear xMz HOK HSL;go_upto_region 3 with fail
  refine RG.xH (λW=>Hid (DcM w g ⟨true,b1,b2,sz,[]⟩ W)) κ κ (ι ⟨HD.o.o,HD.o.s,HD.o.bel.drew,HD.o.lt⟩) ?_;iterate 4 refine RG.dS ?_
  iterate 3
   apply RG.xG
   ·intro w9 hw9;have hb:=hw9.o.s;have c1:=xA hb 1;have c2:=xA hb 2;have c3:=xA hb 3;simp only[gA,gB,gC] at c1 c2 c3;repeat go_step
    exact RG.xB hw9
   ·rfl
  iterate 2 refine RG.dS ?_
  iterate 6 refine RG.kS ?_
  iterate 2 refine RG.dS ?_
  iterate 6 refine RG.kS ?_
  iterate 2 refine RG.dS ?_
  iterate 2 refine RG.kS ?_
  iterate 2 refine RG.dS ?_
  iterate 2 refine RG.kS ?_
  refine RG.dS ?_;refine RG.xL (λw3 hw3=>?_);obtain⟨o0,y0,f0,o1,y1,f1,o2,y2,f2,o3,y3,f3,o4,y4,f4,HB⟩:=xYn hw3.o.o hw3.o.bel ω (.bool false) (.int .i64 0) (.int .i64 0) (.int .i64 0) (.string ⟨#[]⟩) _ rfl;clear hw3 HD;go_wp2
  refine bodyPost_ret (v:=xLi noSlot) (by simp[results,results149,go_sem,f0,f1,f2,f3,f4,noSlot]) rfl ?_;exact⟨by rw[HDV.o],HB.o⟩
 have g1:¬(1<(b1:Int)):=ω
 by_cases t2:b2<bl
 rotate_left
 ·have e0:(bl:Int)<=(b2:Int):=ω;have HDV:Hid (dv=noSlot):=ι (by rw[xMz.o,if_neg];rw[HOK.o];simp;omega);clear xMz HOK HSL;go_upto_region 3 with fail
  refine RG.xH (λW=>Hid (DcM w g ⟨true,b1,b2,sz,[]⟩ W)) κ κ (ι ⟨HD.o.o,HD.o.s,HD.o.bel.drew,HD.o.lt⟩) ?_;iterate 4 refine RG.dS ?_
  iterate 3
   apply RG.xG
   ·intro w9 hw9;have hb:=hw9.o.s;have c1:=xA hb 1;have c2:=xA hb 2;have c3:=xA hb 3;simp only[gA,gB,gC] at c1 c2 c3;repeat go_step
    exact RG.xB hw9
   ·rfl
  iterate 2 refine RG.dS ?_
  iterate 4
   apply RG.xG
   ·intro w9 hw9;have hb:=hw9.o.s;have c1:=xA hb 1;have c2:=xA hb 2;have c3:=xA hb 3;simp only[gA,gB,gC] at c1 c2 c3;repeat go_step
    exact RG.xB hw9
   ·rfl
  apply RG.xG
  ·intro w9 hw9;repeat go_step
   refine(HBL.o _).mono ?_;rintro e w10 ⟨rfl,rfl⟩;simp only[];repeat go_step
   exact RG.xB hw9
  ·rfl
  apply RG.xG
  ·intro w9 hw9;have hb:=hw9.o.s;have c1:=xA hb 1;have c2:=xA hb 2;have c3:=xA hb 3;simp only[gA,gB,gC] at c1 c2 c3;repeat go_step
   exact RG.xB hw9
  ·rfl
  iterate 2 refine RG.dS ?_
  iterate 6 refine RG.kS ?_
  iterate 2 refine RG.dS ?_
  iterate 2 refine RG.kS ?_
  iterate 2 refine RG.dS ?_
  iterate 2 refine RG.kS ?_
  refine RG.dS ?_;refine RG.xL (λw3 hw3=>?_);obtain⟨o0,y0,f0,o1,y1,f1,o2,y2,f2,o3,y3,f3,o4,y4,f4,HB⟩:=xYn hw3.o.o hw3.o.bel ω (.bool false) (.int .i64 0) (.int .i64 0) (.int .i64 0) (.string ⟨#[]⟩) _ rfl;clear hw3 HD;go_wp2
  refine bodyPost_ret (v:=xLi noSlot) (by simp[results,results149,go_sem,f0,f1,f2,f3,f4,noSlot]) rfl ?_;exact⟨by rw[HDV.o],HB.o⟩
 have g2:¬((bl:Int)<=(b2:Int)):=ω
 by_cases t3:sz<=cp
 rotate_left
 ·have e0:(cp:Int)<(sz:Int):=ω;have HDV:Hid (dv=noSlot):=ι (by rw[xMz.o,if_neg];rw[HOK.o];simp;omega);clear xMz HOK HSL;go_upto_region 3 with fail
  refine RG.xH (λW=>Hid (DcM w g ⟨true,b1,b2,sz,[]⟩ W)) κ κ (ι ⟨HD.o.o,HD.o.s,HD.o.bel.drew,HD.o.lt⟩) ?_;iterate 4 refine RG.dS ?_
  iterate 3
   apply RG.xG
   ·intro w9 hw9;have hb:=hw9.o.s;have c1:=xA hb 1;have c2:=xA hb 2;have c3:=xA hb 3;simp only[gA,gB,gC] at c1 c2 c3;repeat go_step
    exact RG.xB hw9
   ·rfl
  iterate 2 refine RG.dS ?_
  iterate 4
   apply RG.xG
   ·intro w9 hw9;have hb:=hw9.o.s;have c1:=xA hb 1;have c2:=xA hb 2;have c3:=xA hb 3;simp only[gA,gB,gC] at c1 c2 c3;repeat go_step
    exact RG.xB hw9
   ·rfl
  apply RG.xG
  ·intro w9 hw9;repeat go_step
   refine(HBL.o _).mono ?_;rintro e w10 ⟨rfl,rfl⟩;simp only[];repeat go_step
   exact RG.xB hw9
  ·rfl
  apply RG.xG
  ·intro w9 hw9;have hb:=hw9.o.s;have c1:=xA hb 1;have c2:=xA hb 2;have c3:=xA hb 3;simp only[gA,gB,gC] at c1 c2 c3;repeat go_step
   exact RG.xB hw9
  ·rfl
  iterate 2 refine RG.dS ?_
  iterate 4
   apply RG.xG
   ·intro w9 hw9;have hb:=hw9.o.s;have c1:=xA hb 1;have c2:=xA hb 2;have c3:=xA hb 3;simp only[gA,gB,gC] at c1 c2 c3;repeat go_step
    exact RG.xB hw9
   ·rfl
  apply RG.xG
  ·intro w9 hw9;repeat go_step
   refine(HCP.o _).mono ?_;rintro e w10 ⟨rfl,rfl⟩;simp only[];repeat go_step
   exact RG.xB hw9
  ·rfl
  apply RG.xG
  ·intro w9 hw9;have hb:=hw9.o.s;have c1:=xA hb 1;have c2:=xA hb 2;have c3:=xA hb 3;simp only[gA,gB,gC] at c1 c2 c3;repeat go_step
   exact RG.xB hw9
  ·rfl
  iterate 2 refine RG.dS ?_
  iterate 2 refine RG.kS ?_
  iterate 2 refine RG.dS ?_
  iterate 2 refine RG.kS ?_
  refine RG.dS ?_;refine RG.xL (λw3 hw3=>?_);obtain⟨o0,y0,f0,o1,y1,f1,o2,y2,f2,o3,y3,f3,o4,y4,f4,HB⟩:=xYn hw3.o.o hw3.o.bel ω (.bool false) (.int .i64 0) (.int .i64 0) (.int .i64 0) (.string ⟨#[]⟩) _ rfl;clear hw3 HD;go_wp2
  refine bodyPost_ret (v:=xLi noSlot) (by simp[results,results149,go_sem,f0,f1,f2,f3,f4,noSlot]) rfl ?_;exact⟨by rw[HDV.o],HB.o⟩
 have g3:¬((cp:Int)<(sz:Int)):=ω
 by_cases t4:1<=b5
 rotate_left
 ·have e0:(b5:Int)<1:=ω;have HDV:Hid (dv=noSlot):=ι (by rw[xMz.o,if_neg];rw[HOK.o];simp;omega);clear xMz HOK HSL;go_upto_region 3 with fail
  refine RG.xH (λW=>Hid (DcM w g ⟨true,b1,b2,sz,[]⟩ W)) κ κ (ι ⟨HD.o.o,HD.o.s,HD.o.bel.drew,HD.o.lt⟩) ?_;iterate 4 refine RG.dS ?_
  iterate 3
   apply RG.xG
   ·intro w9 hw9;have hb:=hw9.o.s;have c1:=xA hb 1;have c2:=xA hb 2;have c3:=xA hb 3;simp only[gA,gB,gC] at c1 c2 c3;repeat go_step
    exact RG.xB hw9
   ·rfl
  iterate 2 refine RG.dS ?_
  iterate 4
   apply RG.xG
   ·intro w9 hw9;have hb:=hw9.o.s;have c1:=xA hb 1;have c2:=xA hb 2;have c3:=xA hb 3;simp only[gA,gB,gC] at c1 c2 c3;repeat go_step
    exact RG.xB hw9
   ·rfl
  apply RG.xG
  ·intro w9 hw9;repeat go_step
   refine(HBL.o _).mono ?_;rintro e w10 ⟨rfl,rfl⟩;simp only[];repeat go_step
   exact RG.xB hw9
  ·rfl
  apply RG.xG
  ·intro w9 hw9;have hb:=hw9.o.s;have c1:=xA hb 1;have c2:=xA hb 2;have c3:=xA hb 3;simp only[gA,gB,gC] at c1 c2 c3;repeat go_step
   exact RG.xB hw9
  ·rfl
  iterate 2 refine RG.dS ?_
  iterate 4
   apply RG.xG
   ·intro w9 hw9;have hb:=hw9.o.s;have c1:=xA hb 1;have c2:=xA hb 2;have c3:=xA hb 3;simp only[gA,gB,gC] at c1 c2 c3;repeat go_step
    exact RG.xB hw9
   ·rfl
  apply RG.xG
  ·intro w9 hw9;repeat go_step
   refine(HCP.o _).mono ?_;rintro e w10 ⟨rfl,rfl⟩;simp only[];repeat go_step
   exact RG.xB hw9
  ·rfl
  apply RG.xG
  ·intro w9 hw9;have hb:=hw9.o.s;have c1:=xA hb 1;have c2:=xA hb 2;have c3:=xA hb 3;simp only[gA,gB,gC] at c1 c2 c3;repeat go_step
   exact RG.xB hw9
  ·rfl
  iterate 2 refine RG.dS ?_
  iterate 2 refine RG.dS ?_
  iterate 2 refine RG.dS ?_
  iterate 2 refine RG.kS ?_
  refine RG.dS ?_;refine RG.xL (λw3 hw3=>?_);obtain⟨o0,y0,f0,o1,y1,f1,o2,y2,f2,o3,y3,f3,o4,y4,f4,HB⟩:=xYn hw3.o.o hw3.o.bel ω (.bool false) (.int .i64 0) (.int .i64 0) (.int .i64 0) (.string ⟨#[]⟩) _ rfl;clear hw3 HD;go_wp2
  refine bodyPost_ret (v:=xLi noSlot) (by simp[results,results149,go_sem,f0,f1,f2,f3,f4,noSlot]) rfl ?_;exact⟨by rw[HDV.o],HB.o⟩
 have g4:¬((b5:Int)<1):=ω
 by_cases t5:b5<=24
 rotate_left
 ·have e0:24<(b5:Int):=ω;have HDV:Hid (dv=noSlot):=ι (by rw[xMz.o,if_neg];rw[HOK.o];simp;omega);clear xMz HOK HSL;go_upto_region 3 with fail
  refine RG.xH (λW=>Hid (DcM w g ⟨true,b1,b2,sz,[]⟩ W)) κ κ (ι ⟨HD.o.o,HD.o.s,HD.o.bel.drew,HD.o.lt⟩) ?_;iterate 4 refine RG.dS ?_
  iterate 3
   apply RG.xG
   ·intro w9 hw9;have hb:=hw9.o.s;have c1:=xA hb 1;have c2:=xA hb 2;have c3:=xA hb 3;simp only[gA,gB,gC] at c1 c2 c3;repeat go_step
    exact RG.xB hw9
   ·rfl
  iterate 2 refine RG.dS ?_
  iterate 4
   apply RG.xG
   ·intro w9 hw9;have hb:=hw9.o.s;have c1:=xA hb 1;have c2:=xA hb 2;have c3:=xA hb 3;simp only[gA,gB,gC] at c1 c2 c3;repeat go_step
    exact RG.xB hw9
   ·rfl
  apply RG.xG
  ·intro w9 hw9;repeat go_step
   refine(HBL.o _).mono ?_;rintro e w10 ⟨rfl,rfl⟩;simp only[];repeat go_step
   exact RG.xB hw9
  ·rfl
  apply RG.xG
  ·intro w9 hw9;have hb:=hw9.o.s;have c1:=xA hb 1;have c2:=xA hb 2;have c3:=xA hb 3;simp only[gA,gB,gC] at c1 c2 c3;repeat go_step
   exact RG.xB hw9
  ·rfl
  iterate 2 refine RG.dS ?_
  iterate 4
   apply RG.xG
   ·intro w9 hw9;have hb:=hw9.o.s;have c1:=xA hb 1;have c2:=xA hb 2;have c3:=xA hb 3;simp only[gA,gB,gC] at c1 c2 c3;repeat go_step
    exact RG.xB hw9
   ·rfl
  apply RG.xG
  ·intro w9 hw9;repeat go_step
   refine(HCP.o _).mono ?_;rintro e w10 ⟨rfl,rfl⟩;simp only[];repeat go_step
   exact RG.xB hw9
  ·rfl
  apply RG.xG
  ·intro w9 hw9;have hb:=hw9.o.s;have c1:=xA hb 1;have c2:=xA hb 2;have c3:=xA hb 3;simp only[gA,gB,gC] at c1 c2 c3;repeat go_step
   exact RG.xB hw9
  ·rfl
  iterate 2 refine RG.dS ?_
  iterate 2 refine RG.dS ?_
  iterate 2 refine RG.dS ?_
  iterate 2 refine RG.dS ?_
  refine RG.dS ?_;refine RG.xL (λw3 hw3=>?_);obtain⟨o0,y0,f0,o1,y1,f1,o2,y2,f2,o3,y3,f3,o4,y4,f4,HB⟩:=xYn hw3.o.o hw3.o.bel ω (.bool false) (.int .i64 0) (.int .i64 0) (.int .i64 0) (.string ⟨#[]⟩) _ rfl;clear hw3 HD;go_wp2
  refine bodyPost_ret (v:=xLi noSlot) (by simp[results,results149,go_sem,f0,f1,f2,f3,f4,noSlot]) rfl ?_;exact⟨by rw[HDV.o],HB.o⟩
 have g5:¬(24<(b5:Int)):=ω;have HTR:Hid (dv=if s.data.toList=xUz (jY s.data.toList) then jY s.data.toList else noSlot):=ι (by rw[xMz.o,if_pos];rw[HOK.o];simp[t0,t1,t2,t3,t4,t5]);clear xMz HOK;go_upto_region 3 with fail
 refine RG.xH (λW=>Hid (DcM w g ⟨true,b1,b2,sz,[]⟩ W)) κ κ (ι ⟨HD.o.o,HD.o.s,HD.o.bel.drew,HD.o.lt⟩) ?_;iterate 4 refine RG.dS ?_
 iterate 3
  apply RG.xG
  ·intro w9 hw9;have hb:=hw9.o.s;have c1:=xA hb 1;have c2:=xA hb 2;have c3:=xA hb 3;simp only[gA,gB,gC] at c1 c2 c3;repeat go_step
   exact RG.xB hw9
  ·rfl
 iterate 2 refine RG.dS ?_
 iterate 4
  apply RG.xG
  ·intro w9 hw9;have hb:=hw9.o.s;have c1:=xA hb 1;have c2:=xA hb 2;have c3:=xA hb 3;simp only[gA,gB,gC] at c1 c2 c3;repeat go_step
   exact RG.xB hw9
  ·rfl
 apply RG.xG
 ·intro w9 hw9;repeat go_step
  refine(HBL.o _).mono ?_;rintro e w10 ⟨rfl,rfl⟩;simp only[];repeat go_step
  exact RG.xB hw9
 ·rfl
 apply RG.xG
 ·intro w9 hw9;have hb:=hw9.o.s;have c1:=xA hb 1;have c2:=xA hb 2;have c3:=xA hb 3;simp only[gA,gB,gC] at c1 c2 c3;repeat go_step
  exact RG.xB hw9
 ·rfl
 iterate 2 refine RG.dS ?_
 iterate 4
  apply RG.xG
  ·intro w9 hw9;have hb:=hw9.o.s;have c1:=xA hb 1;have c2:=xA hb 2;have c3:=xA hb 3;simp only[gA,gB,gC] at c1 c2 c3;repeat go_step
   exact RG.xB hw9
  ·rfl
 apply RG.xG
 ·intro w9 hw9;repeat go_step
  refine(HCP.o _).mono ?_;rintro e w10 ⟨rfl,rfl⟩;simp only[];repeat go_step
  exact RG.xB hw9
 ·rfl
 apply RG.xG
 ·intro w9 hw9;have hb:=hw9.o.s;have c1:=xA hb 1;have c2:=xA hb 2;have c3:=xA hb 3;simp only[gA,gB,gC] at c1 c2 c3;repeat go_step
  exact RG.xB hw9
 ·rfl
 iterate 2 refine RG.dS ?_
 iterate 2 refine RG.dS ?_
 iterate 2 refine RG.dS ?_
 iterate 2 refine RG.dS ?_
 refine RG.dS ?_;refine RG.xL (λw3 hw3=>?_);have HD3:=hw3;clear hw3 HD HBL HCP;obtain⟨nb,hnb⟩:∃nb:ByteArray,s.extract 6 (6+b5)=nb:=⟨_,rfl⟩
 have HNB:Hid (xK ((s.data.toList.drop 6).take b5)=.string nb/\nb.size=b5):=ι (by
  have hz:=HSZ.o;have h1:s.data.size=64:=hz
  constructor
  ·rw[<-hnb];show Value.string _=Value.string _
   congr 1
   apply ByteArray.ext;apply Array.ext';rw[ByteArray.data_extract,Array.toList_extract];simp[List.extract]
  ·rw[<-hnb,ByteArray.size_extract];omega)
 have hzi:(s.size:Int)=64:=by have:=HSZ.o;omega
 have hnbi:s.extract 6 (6+b5)=nb:=hnb;have hb:=HD3.o.s;obtain⟨c0,c1,c2,c3,c4⟩:=cbl5 hb;have y4:=xD hb 4;clear hb hnb;go_upto_region 6 with fail
 have HD4:=ι (show DcM w g ⟨true,b1,b2,sz,(s.data.toList.drop 6).take b5⟩ (w3.setCell ⟨g,4,none⟩ (.string nb)) from⟨zL HD3.o.o (p:=⟨g,4,none⟩) (by have:=HD3.o.lt;show w.heap.size≠g;omega) _,by
  have:=yC HD3.o.s 4 (.string nb);rw[this];show some (Obj.cells _ _ _)=some (xFe _);simp only[xFe,HNB.o.1]
  rfl,HD3.o.bel.setCell (p:=⟨g,4,none⟩) (Nat.le_of_lt HD3.o.lt) _,HD3.o.lt⟩)
 have HEN:=ι (λW=>xQk ⟨true,b1,b2,sz,(s.data.toList.drop 6).take b5⟩ W (by show b1<=255;omega) (by show b2<=255;omega) (HSB.o) (by show((s.data.toList.drop 6).take b5).length<=255;rw[List.length_take];omega));rw[<-HSL.o] at HEN
 rw[show xLi (jY s.data.toList)=.agg #[.bool true,.int .i64 b1,.int .i64 b2,.int .i64 sz,.string nb] from by rw[HSL.o];simp only[xLi,HNB.o.1]] at HEN;clear HD3 c0 c1 c2 c3 c4 y4;generalize w3.setCell ⟨g,4,none⟩ (.string nb)=w4 at HD4⊢;rw[<-HSL.o] at HD4;have hb:=HD4.o.s
 rw[HSL.o] at hb;simp only[xFe,HNB.o.1] at hb;obtain⟨c0,c1,c2,c3,c4⟩:=cbl5 hb;clear hb
 have HSF:Hid (xFe (jY s.data.toList)=.cells #[.bool true,.int .i64 b1,.int .i64 b2,.int .i64 sz,.string nb] 165/\xLi (jY s.data.toList)=.agg #[.bool true,.int .i64 b1,.int .i64 b2,.int .i64 sz,.string nb]):=ι (by rw[HSL.o];simp only[xFe,xLi,HNB.o.1,and_self]);clear HSL HNB
 generalize jY s.data.toList=so at HEN HD4 HTR HSF;obtain⟨ev,hev⟩:∃ev,xUz so=ev:=⟨_,rfl⟩;rw[hev] at HEN HTR;clear hev;go_wp2_with fail
 refine(HEN.o _).mono ?_;rintro e w5 ⟨rfl,hb5⟩;clear c0 c1 c2 c3 c4
 have HD5:=ι (show ψ w w5/\w5.heap[w.heap.size]?=some (xFe noSlot)/\w5.heap[g]?=some (.cells #[.bool true,.int .i64 b1,.int .i64 b2,.int .i64 sz,.string nb] 165 (0,0)) from⟨HD4.o.bel.trans (hb5.mono HD4.o.bel.size),xC HD4.o.o hb5 (xJ HD4.o.o),by rw[<-HSF.o.1];exact xC HD4.o.s hb5 (xJ HD4.o.s)⟩)
 clear hb5 HD4 HEN
 by_cases he:s.data.toList=ev
 ·have HDV:Hid (dv=so):=ι (by rw[HTR.o,if_pos he]);have e1:(!s.toList==ev)=false:=by rw[ByteArray.toList_eq,he];simp
  clear HTR he hnbi;go_upto_region 8 with fail
  have hb:=HD5.o.2.2;obtain⟨c0,c1,c2,c3,c4⟩:=cbl5 hb;clear hb;obtain⟨o0,y0,f0,o1,y1,f1,o2,y2,f2,o3,y3,f3,o4,y4,f4,HB⟩:=xYn HD5.o.2.1 HD5.o.1 ω (.bool true) (.int .i64 b1) (.int .i64 b2) (.int .i64 sz) (.string nb) _ rfl;clear HD5 e1;go_wp2
  refine bodyPost_ret (v:=.agg #[.bool true,.int .i64 b1,.int .i64 b2,.int .i64 sz,.string nb]) (by simp[results,results149,go_sem,f0,f1,f2,f3,f4]) rfl ?_;exact⟨by rw[HDV.o,HSF.o.2],HB.o⟩
 ·have HDV:Hid (dv=noSlot):=ι (by rw[HTR.o,if_neg he]);have e1:(!s.toList==ev)=true:=by rw[ByteArray.toList_eq];simpa using he
  clear HTR he hnbi;obtain⟨o0,y0,f0,o1,y1,f1,o2,y2,f2,o3,y3,f3,o4,y4,f4,HB⟩:=xYn HD5.o.2.1 HD5.o.1 ω (.bool false) (.int .i64 0) (.int .i64 0) (.int .i64 0) (.string ⟨#[]⟩) _ rfl;clear HD5;go_wp2
  refine bodyPost_ret (v:=xLi noSlot) (by simp[results,results149,go_sem,f0,f1,f2,f3,f4,noSlot]) rfl ?_;exact⟨by rw[HDV.o],HB.o⟩
end Go.Proofs.ST
namespace Go.Proofs.RK
open Go.RowKit MM
section
variable {α:Type} {e:TypeId} {n:Nat} {f:α->List Value}
theorem xO7 (hk:∀x,(f x).length=n) (t:α):∀(L:List α) (k:Nat),k<L.length->(L.flatMap f).take (k*n)++f t++(L.flatMap f).drop (k*n+(f t).length)=(L.set k t).flatMap f
 |[],_,h=>by simp at h
 |x::L,0,_=>by
  rw[List.flatMap_cons,Nat.zero_mul,List.take_zero,List.nil_append,Nat.zero_add,hk,List.set_cons_zero,List.flatMap_cons,<-hk x,List.drop_left]
 |x::L,k+1,h=>by
  have ih:=xO7 hk t L k (by simpa using h);rw[hk t] at ih
  rw[List.flatMap_cons,List.set_cons_succ,List.flatMap_cons,<-ih,hk t,show(k+1)*n=n+k*n by rw[Nat.succ_mul];omega,List.take_append,List.drop_append,hk x,show n+k*n-n=k*n by omega,show n+k*n+n-n=k*n+n by omega,
   List.take_of_length_le (by rw[hk];omega),List.drop_eq_nil_of_le (by rw[hk];omega)]
  simp
def xFz (e:TypeId) (f:α->List Value) (W:World) (g:Nat) (L:List α):Prop:=W.heap[g]?=some (.cells (L.flatMap f).toArray e (0,0))
variable {W W':World} {g:Nat} {L:List α}
theorem xFz.blk (h:xFz e f W g L):W.heap[g]?=some (.cells (L.flatMap f).toArray e (0,0)):=h
theorem xFz.put (hk:∀x,(f x).length=n) (h:xFz e f W g L) {k:Nat} (hl:k<L.length) (t:α):xFz e f (SV.yX g (k*n) (f t) W) g (L.set k t):=by
 have:=SV.xCp (f t) (k*n) W _ h.blk (by
  rw[hk,List.size_toArray,kR hk];have:=Nat.mul_le_mul_right n hl;rw[Nat.succ_mul] at this;exact this)
 unfold xFz;rw[this,<-xO7 hk t L k hl]
theorem xFz.cell (hk:∀x,(f x).length=n) (h:xFz e f W g L) {k i:Nat} {x:α} {u:Value} (hx:L[k]?=some x) (hu:(f x)[i]?=some u):W.cell? ⟨g,k*n+i,none⟩=some u:=by
 rw[xA h.blk,List.getElem?_toArray];exact flat_get hk L k i x u hx hu
theorem xFz.free (h:xFz e f W g L) (i:Nat):W.frozen? ⟨g,i,none⟩=false:=xD h.blk i
theorem xFz.below (h:xFz e f W g L) (hb:ψ W W'):xFz e f W' g L:=xC h.blk hb (xJ h.blk)
theorem xFz.rd (hk:∀x,(f x).length=n) (h:xFz e f W g L) {B:Nat} (hB:g<B) {c:Nat} (hc:L.length<=c):RdR n f W B (.slice (some ⟨g,0,none⟩) L.length c) L:=
 ⟨_,c,rfl,hc,λ_=>⟨g,0,rfl,hB,λj x hx i u hu=>by rw[Nat.zero_add];exact h.cell hk hx hu⟩⟩
theorem xTm (hk:∀x,(f x).length=n) (h0:0<n) (x0:α) (m:Nat):madeCells (f x0).toArray (m*n)=((List.replicate m x0).flatMap f).toArray:=by
 apply Array.ext_getElem?;intro i
 by_cases h:i<m*n
 ·have hm:i % n<n:=Nat.mod_lt _ h0;have hd:i / n<m:=Nat.div_lt_of_lt_mul (by rw[Nat.mul_comm];exact h);obtain⟨u,hu⟩:∃u,(f x0)[i % n]?=some u:=⟨_,List.getElem?_eq_getElem (by rw[hk];exact hm)⟩;have r:=flat_get hk (List.replicate m x0) (i / n) (i % n) x0 u (by simp[hd]) hu
  rw[show i / n*n+i % n=i by rw[Nat.mul_comm];exact Nat.div_add_mod i n] at r;have r2:((List.replicate m x0).flatMap f).toArray[i]?=some u:=by rw[List.getElem?_toArray];exact r
  rw[r2];have hu2:=hu;rw[List.getElem?_eq_getElem (by rw[hk];exact hm)] at hu2;injection hu2 with hu2;simp[madeCells,h,hk,hu2,hm]
 ·rw[Array.getElem?_eq_none (by simp[madeCells];omega),Array.getElem?_eq_none (by rw[List.size_toArray,kR hk];simp;omega)]
end
end Go.Proofs.RK
namespace Mailsack
section
variable {α:Type} {v:RdP->α} {t:RdP->RdP} {r0 r:RdP} {k n:Nat} {L:List α}
end
end Mailsack
namespace Go.Proofs.IX
open Go.RowKit Mailsack MM BB SH SV RK DS
section
variable {w W W':World} {g bb:Nat} {n:Bs} {v x:Int} {mv cv:Value} {L:List uT} {r r':RdP}
end
section
variable {w W W':World} {g bb mb:Nat} {n:Bs} {v x:Int} {mv cv:Value} {L:List uT} {r r':RdP} {m:uT}
end
end Go.Proofs.IX
namespace Go.Proofs.IX
open Go.RowKit Mailsack MM BB SH SV RK DS
structure xR4 where
 b:wN
 A:Option Addr
 c:Nat
abbrev xR4.mv (p:xR4):Value:=.slice p.A p.b.xU.length p.c
abbrev bxF (p:xR4):List Value:=[xK p.b.name,.int .i64 p.b.validity,.int .i64 p.b.next,p.mv]
abbrev bxV (p:xR4):Value:=.agg #[xK p.b.name,.int .i64 p.b.validity,.int .i64 p.b.next,p.mv]
abbrev txF (s:Bs):List Value:=[xK s]
theorem xAt (s:Bs):(txF s).length=1:=rfl
theorem yAg (x:Bs):∀u∈txF x,u.oneCell'=true:=by
 intro u hu;rw[List.mem_singleton.1 hu];rfl
theorem infoTx:(prog.info? 9).map (λi=>(i.zero,i.size,i.bytes))=some (some (.string ⟨#[]⟩),1,16):=κ
theorem tyTx:RowT prog 22 9 1 16 txF:=by
 obtain⟨i,hi,hz,hs,hb⟩:=kP infoTx;exact⟨underlying22,⟨i,_,hi,hz,hs,hb,rfl⟩,ω,ω,xAt,yAg⟩
theorem xDi {w:World} {B:Nat} {v:Value} {l:List Bs} (h:RdR 1 txF w B v l):RdS w B v l:=by
 obtain⟨A,c,h1,h2,h3⟩:=h;refine⟨A,c,h1,h2,λhn=>?_⟩;obtain⟨b,off,h4,h5,h6⟩:=h3 hn;refine⟨b,off,h4,h5,λj x hx=>?_⟩;have:=h6 j x hx 0 _ rfl;rw[Nat.mul_one,Nat.add_zero] at this;exact this
abbrev ixO (a b:Value) (n:Int):Obj:=.cells #[a,b,.int .i64 n] 28
section
variable {w W W':World} {g xb:Nat} {cb cs ob os:Value} {bl:List xR4} {sl:List Bs} {n:Int} {r r':RdP}
end
section
variable {w w':World} {base:Nat} {bv sv:Value} {x:zO}
end
theorem jP.rows {w:World} {B:Nat} {v:Value} {L:List wN} (h:jP w B v L):∃bl:List xR4,L=bl.map (·.b)/\RdR 4 bxF w B v bl/\∀p∈bl,uN w B p.mv p.b.xU:=by
 obtain⟨A,c,rfl,hc,h3⟩:=h
 by_cases h0:L.length=0
 ·have:L=[]:=List.eq_nil_of_length_eq_zero h0;subst this;exact⟨[],rfl,⟨A,c,rfl,hc,λh=>absurd h δ⟩,λp hp=>by cases hp⟩
 ·obtain⟨b,off,rfl,hb,h6⟩:=h3 ω
  have key:∀(M:List wN) (k:Nat),(∀(j:Nat) x,M[j]?=some x->L[k+j]?=some x)->∃bl:List xR4,M=bl.map (·.b)/\∀(j:Nat) p,bl[j]?=some p->(∀(i:Nat) u,(bxF p)[i]?=some u->w.cell? ⟨b,off+(k+j)*4+i,none⟩=some u)/\uN w B p.mv p.b.xU:=by
   intro M
   induction M with
   |nil=>exact λk _=>⟨[],rfl,λj p hp=>by simp at hp⟩
   |cons x M ih=>
    intro k hM
    obtain⟨bl,e,hbl⟩:=ih (k+1) (λj y hy=>by
     have:=hM (j+1) y (by simpa using hy);rw[show k+1+j=k+(j+1) by omega];exact this)
    have hx:=hM 0 x rfl;rw[Nat.add_zero] at hx;obtain⟨mv,k1,k2,k3,k4,k5⟩:=h6 k x hx;obtain⟨A',c',rfl,hc',_⟩:=id k5;refine⟨⟨x,A',c'⟩::bl,by rw[List.map_cons,<-e],λj p hp=>?_⟩;cases j with
    |zero=>
     simp at hp;subst hp;refine⟨λi u hu=>?_,k5⟩;rw[Nat.add_zero]
     match i,hu with
     |0,hu=>simp at hu;subst hu;exact k1
     |1,hu=>simp at hu;subst hu;exact k2
     |2,hu=>simp at hu;subst hu;exact k3
     |3,hu=>simp at hu;subst hu;exact k4
     |n+4,hu=>simp at hu
    |succ j=>
     have:=hbl j p (by simpa using hp);rw[show k+1+j=k+(j+1) by omega] at this;exact this
  obtain⟨bl,e,hbl⟩:=key L 0 (λj x hx=>by rw[Nat.zero_add];exact hx);refine⟨bl,e,⟨_,c,by rw[e,List.length_map],by rw[e,List.length_map] at hc;exact hc,λ_=>⟨b,off,rfl,hb,λj p hp i u hu=>?_⟩⟩,λp hp=>?_⟩
  ·have:=(hbl j p hp).1 i u hu;rw[Nat.zero_add] at this;exact this
  ·obtain⟨j,hj⟩:=List.getElem?_of_mem hp;exact(hbl j p hj).2
end Go.Proofs.IX
namespace Go.Proofs.ST
open Go.RowKit Mailsack MM BB SH SV RK DS
def yA0 (d:Dk) (v:Value) (w:World):Prop:=xF8 d=true->RdS w w.heap.size v (zH d).secs
theorem xKb (va vb:Value) (d:Dk) (w:World) (h:RdD w w.heap.size va vb d):
  Calls prog 73 #[.agg #[va,vb]] w λe w'=>∃v,e=.returned (.tuple #[v,.bool (xF8 d)])/\yA0 d v w'/\ψ w w':=by
 obtain⟨A1,c1,A2,c2,rfl,rfl⟩:=vY h;have HA:=ι (φ w (yQ (.slice A1 d.secs.length c1) (.slice A2 d.cache.length c2)));have hD0:=xI w (yQ (.slice A1 d.secs.length c1) (.slice A2 d.cache.length c2));have HD0:=ι hD0;obtain⟨d0,d1⟩:=xFa hD0;clear hD0
 have HRD:=ι ((h.below HA.o ν).more HA.o.size);have HRT:=ι (qA _ _ d _ HRD.o);have HCP:Hid (xF8 d=(decide (d.secs.length=381)&&zM d)):=ι rfl;obtain⟨cv,hcv⟩:∃cv,xF8 d=cv:=⟨_,rfl⟩;rw[hcv] at HCP⊢;have HQ:=ι hcv;clear hcv h
 by_cases hl:d.secs.length=381
 ·have hli:(d.secs.length:Int)=381:=ω;have hlb:((d.secs.length:Int)!=381)=false:=by simp[hli]
  rw[decide_eq_true hl,Bool.true_and] at HCP;clear hl;cases hr:zM d with
  |false=>
   rw[hr] at HRT HCP;have HCV:=HCP;clear hr HCP;rw[HCV.o];go_enter func73,ntmps73;go_wp2_with fail
   refine HRT.o.mono ?_;rintro e w1 ⟨rfl,hb⟩;have HB:=ι (HA.o.trans (hb.mono HA.o.size));clear hb d0 d1;go_wp2;go_ret2;exact⟨_,rfl,(λe=>by rw[HQ.o,HCV.o] at e;cases e),HB.o⟩
  |true=>
   rw[hr] at HRT HCP;rw[HCP.o];have HR:=ι hr;clear hr HCP;go_enter func73,ntmps73;go_wp2_with fail
   refine HRT.o.mono ?_;rintro e w1 ⟨rfl,hb⟩;have HB:=ι (And.intro (HA.o.trans (hb.mono HA.o.size)) ((HRD.o.below hb ν).more hb.size));have h1:=xC HD0.o hb (xJ HD0.o);clear hb d0 d1;obtain⟨d0,d1⟩:=xFa h1;clear h1 HD0;have HF:=ι (xUj _ _ d w1 HB.o.2);go_wp2_with fail
   refine HF.o.mono ?_;rintro e w2 ⟨ua,ub,rfl,hr2,_,hb2⟩;obtain⟨A3,c3,A4,c4,rfl,rfl⟩:=vY hr2;have HB2:=ι (And.intro (HB.o.1.trans (hb2.mono HB.o.1.size)) hr2.s)
   have hfld:=λ(W:World)=>(show(Instr.field 25 (.agg #[.slice A3 (zH d).secs.length c3,.slice A4 (zH d).cache.length c4]) 0).run prog W=.ok (.slice A3 (zH d).secs.length c3) W from by rfl);clear hr2 hb2 HF HB d0 d1 HRT HRD;go_wp2;go_ret2;exact⟨_,rfl,λ_=>HB2.o.2,HB2.o.1⟩
 ·have hli:¬((d.secs.length:Int)=381):=ω;have hlb:((d.secs.length:Int)!=381)=true:=by simp[hli]
  rw[decide_eq_false hl,Bool.false_and] at HCP;rw[HCP.o];clear hl;go_enter func73,ntmps73;go_wp2;go_ret2;exact⟨_,rfl,(λe=>by rw[HQ.o,HCP.o] at e;cases e),HA.o⟩
theorem xSn (v:Value) (S:List Bs) (w:World) (h:RdS w w.heap.size v S) (hl:S.length=381) (h64:∀s∈S,s.length=64):
  Calls prog 74 #[v] w λe w'=>∃g,e=.returned (.slice (some ⟨g,0,none⟩) 32 32)/\w.heap.size<=g/\w'.heap[g]?=some (.cells ((zV S).flatMap xKt).toArray 165 (0,0))/\ψ w w':=by
 obtain⟨A,c,rfl,hc,hcell⟩:=h;obtain⟨b,off,rfl,hb,hcs⟩:=hcell ω;obtain⟨z,hi,hz,hsz,hby⟩:=kP yBk;have hmk:=run_make (P:=prog) (w:=w) 159 165 z _ underlying159 hi hz .i64 .i64 (32:Int) (32:Int) ω ω (by rw[hby];omega) ω;simp only[hsz] at hmk
 have hmf:madeCells (Value.cells (.agg #[.bool false,.int .i64 0,.int .i64 0,.int .i64 0,.string ⟨#[]⟩])) ((32:Int).toNat*5)=((List.replicate 32 noSlot).flatMap xKt).toArray:=xTm jI ω noSlot 32;rw[hmf] at hmk;clear hmf hi hz hsz hby
 have H0:Hid (xFz 165 xKt (w.alloc (.cells ((List.replicate 32 noSlot).flatMap xKt).toArray 165)) w.heap.size ((zV S).take 0++List.replicate (32-0) noSlot)/\ψ w (w.alloc (.cells ((List.replicate 32 noSlot).flatMap xKt).toArray 165))):=ι ⟨xI _ _,(Below.refl _ _).alloc ν _⟩
 have HSL:=ι (tJ hl);have HGT:=ι (λk=>xCn S k);have HC:=ι hcs;have H64:=ι h64;generalize ((List.replicate 32 noSlot).flatMap xKt).toArray=cs0 at hmk H0;have HLL:=ι hl;clear hcs h64 hl hc;go_enter func74,ntmps74;go_wp2_with fail
 clear hmk;generalize w.alloc (.cells cs0 165)=w1 at H0⊢
 go_loopw [8] (λiv wr=>∃k:Nat,k<=32/\iv=.int .i64 k/\Hid (xFz 165 xKt wr w.heap.size ((zV S).take k++List.replicate (32-k) noSlot)/\ψ w wr)) (λiv _=>32- (intOf iv).toNat)
 case atStart=>exact⟨0,ω,rfl,H0⟩
 case round=>
  obtain⟨k,hk,rfl,HI⟩:=hrel;clear H0
  by_cases hlt:k<32
  ·obtain⟨x,hx⟩:∃x,S[61+k]?=some x:=⟨_,List.getElem?_eq_getElem (by have:=HLL.o;omega)⟩;have q:=(HI.o.2.cell (p:=⟨b,off+(61+k),none⟩) hb).trans (HC.o _ x hx);have hx64:=H64.o x (List.mem_of_getElem? hx)
   have HD:=ι (λW=>xQq ⟨x.toArray⟩ W (by show x.toArray.size=64;simpa using hx64));have HXS:Hid ((zV S)[k]?=some (xOg x)):=ι (by rw[HGT.o,if_pos hlt,hx];rfl);rw[show(⟨x.toArray⟩:ByteArray).data.toList=x from rfl] at HD;have tn:(61+(k:Int)).toNat=61+k:=ω
   have t0:(0:Int)<=61+(k:Int):=ω;have t1:61+(k:Int)<(S.length:Int):=by have:=HLL.o;omega
   clear hx hx64;go_wp2_with fail
   refine(HD.o _).mono ?_;rintro e w2 ⟨rfl,hb2⟩;have HI2:=ι (And.intro (HI.o.1.below hb2) (HI.o.2.trans (hb2.mono HI.o.2.size)));have hlen:((zV S).take k++List.replicate (32-k) noSlot).length=32:=by simp[HSL.o];omega
   have HNX:Hid (((zV S).take k++List.replicate (32-k) noSlot).set k (xOg x)=(zV S).take (k+1)++List.replicate (32- (k+1)) noSlot):=ι (by
    rw[List.set_append_right _ _ (by rw[List.length_take];omega),List.length_take,HSL.o,show k-min k 32=0 by omega,show 32-k=(32- (k+1))+1 by omega,List.replicate_succ,List.set_cons_zero,List.take_add_one,HXS.o];simp)
   have HPU:=ι (HI2.o.1.put jI (k:=k) (by rw[hlen];exact hlt) (xOg x));have HPB:=ι (zU (b:=w.heap.size) (B:=w.heap.size) ν (xKt (xOg x)) (k*5) w2 HI2.o.2);rw[HNX.o] at HPU;have f:=λi=>HI2.o.1.free i;have f0:=f (k*5);have f1:=f (k*5+1);have f2:=f (k*5+2);have f3:=f (k*5+3)
   have f4:=f (k*5+4);obtain⟨y,hy⟩:∃y,((zV S).take k++List.replicate (32-k) noSlot)[k]?=some y:=⟨_,List.getElem?_eq_getElem (by rw[hlen];exact hlt)⟩;have o0:=HI2.o.1.cell jI (i:=0) hy rfl;have o1:=HI2.o.1.cell jI (i:=1) hy rfl;have o2:=HI2.o.1.cell jI (i:=2) hy rfl
   have o3:=HI2.o.1.cell jI (i:=3) hy rfl;have o4:=HI2.o.1.cell jI (i:=4) hy rfl;rw[Nat.add_zero] at o0;simp only[yX] at HPU HPB;clear f hlen hy HNX HXS HI HI2 hb2 HD q tn t0 t1;generalize xOg x=t at HPU HPB⊢;go_wp2;exact⟨⟨k+1,ω,by go_num,ι ⟨HPU.o,HPB.o⟩⟩,by simp[intOf];omega⟩
  ·obtain rfl:k=32:=ω;have HE:Hid ((zV S).take 32++List.replicate (32-32) noSlot=zV S):=ι (by rw[show 32-32=0 by omega,List.take_of_length_le (by rw[HSL.o];omega)];simp);rw[HE.o] at HI;go_wp2;go_ret;exact⟨_,rfl,Nat.le_refl _,HI.o.1,HI.o.2⟩
end Go.Proofs.ST
namespace Mailsack
theorem xK1 {α:Type} {p:α->Bool} {l:List α} {k:Nat} {x:α} (hx:l[k]?=some x) (hp:p x=true) (h:∀y∈l.take k,p y=false):kQ p l=k:=
 yBm hx hp λj y hj hy=>h y (by
  have:=(List.getElem?_eq_some_iff.1 hy).1;exact List.mem_of_getElem? (i:=j) (by rw[List.getElem?_take,if_pos hj];exact hy))
end Mailsack
namespace Go.Proofs.ST
open Go.RowKit Mailsack MM BB SH SV RK DS
theorem xU2 (fid:FuncId) (fr:Array Value) (p:Slot->Bool) (v:Value) (l:List Slot) (w:World) (h:RdR 5 xKt w w.heap.size v l) (hl:l.length<=100000) (hE:∀args W,(callFunc fid args).run prog W=.ok (.enter fid args) W)
  (hp:∀(t:Slot) (W:World),ψ w W->Calls prog fid (#[xLi t]++fr) W λe w'=>e=.returned (.bool (p t))/\ψ W w'):
  Calls prog 150 #[v,.func (.func fid) #[] fr] w λe w'=>e=.returned (.int .i64 (kQ p l))/\ψ w w':=by
 obtain⟨A,c,rfl,hc,hcell⟩:=h;have HL:=ι hcell;have HP:=ι hp;obtain⟨r,hr⟩:∃r,kQ p l=r:=⟨_,rfl⟩;rw[hr];have HR:=ι hr;clear hcell hc hp hr;go_enter func150,ntmps150;go_wp2_with fail
 go_loopw [8] (λiv wr=>∃k:Nat,k<=l.length/\iv=.int .i64 k/\Hid (ψ w wr)/\Hid (∀y∈l.take k,p y=false)) (λiv _=>l.length- (intOf iv).toNat)
 case atStart=>exact⟨0,Nat.zero_le _,rfl,ι (Below.refl _ _),ι σ⟩
 case round=>
  obtain⟨k,hk,rfl,HI,HN⟩:=hrel
  by_cases hlt:k<l.length
  ·obtain⟨x,hx⟩:∃x,l[k]?=some x:=⟨_,List.getElem?_eq_getElem hlt⟩;obtain⟨b,off,rfl,hb,hcell⟩:=HL.o ω;have q:=λi u hu=>(HI.o.cell (p:=⟨b,off+k*5+i,none⟩) hb).trans (hcell k x hx i u hu);have q0:wr.cell? ⟨b,off+k*5,none⟩=some (.bool x.used):=q 0 _ rfl
   have q1:wr.cell? ⟨b,off+k*5+1,none⟩=some (.int .i64 x.cls):=q 1 _ rfl;have q2:wr.cell? ⟨b,off+k*5+2,none⟩=some (.int .i64 x.blk):=q 2 _ rfl;have q3:wr.cell? ⟨b,off+k*5+3,none⟩=some (.int .i64 x.size):=q 3 _ rfl;have q4:wr.cell? ⟨b,off+k*5+4,none⟩=some (xK x.name):=q 4 _ rfl
   have HC:=ι (HP.o x wr HI.o);have HX:=ι hx;clear hcell q hx;cases hpx:p x with
   |true=>
    rw[hpx] at HC;have HRK:Hid (r=(k:Int)):=ι (by rw[<-HR.o];exact xK1 HX.o hpx HN.o);clear hpx HR;go_wp2_with (go_at_fn fid;refine HC.o.mono ?_;rintro e w' ⟨rfl,hb'⟩)
    go_ret;exact⟨by rw[HRK.o];rfl,HI.o.trans (hb'.mono HI.o.size)⟩
   |false=>
    rw[hpx] at HC
    have HN2:Hid (∀y∈l.take (k+1),p y=false):=ι (by
     intro y hy;rw[List.take_add_one,HX.o] at hy;rcases List.mem_append.1 hy with hy|hy
     ·exact HN.o y hy
     ·simp at hy;subst hy;exact hpx)
    clear hpx HN;go_wp2_with (go_at_fn fid;refine HC.o.mono ?_;rintro e w' ⟨rfl,hb'⟩;have HB':=ι (HI.o.trans (hb'.mono HI.o.size));clear hb')
    exact⟨⟨k+1,ω,by go_num,HB',HN2⟩,by simp[intOf];omega⟩
  ·obtain rfl:k=l.length:=ω;rw[List.take_length] at HN;have HRK:Hid (r=-1):=ι (by rw[<-HR.o];exact xK2 HN.o);clear HR;go_wp2;go_ret;exact⟨by rw[HRK.o];rfl,HI.o⟩
theorem xUm (t:Slot) (n:Bs) (nb:Nat) (w:World) (h:w.heap[nb]?=some (.cells #[xK n] 9 (0,0))):
  Calls prog 151 #[xLi t,.pointer (some ⟨nb,0,none⟩)] w λe w'=>e=.returned (.bool (xD3 n t))/\ψ w w':=by
 obtain⟨u,c,b,s,m⟩:=t;have HB:=ι (φ w (xFe ⟨u,c,b,s,m⟩));have hb:=xI w (xFe ⟨u,c,b,s,m⟩);have c0:=xA hb 0;have c4:=xA hb 4;have n0:=xA (xM h (xFe ⟨u,c,b,s,m⟩)) 0;simp only[gA,gB,gC] at c0 c4 n0;clear hb h;cases u with
 |false=>
  go_enter func151,ntmps151;go_wp2;go_ret;exact⟨rfl,HB.o⟩
 |true=>
  have HN:Hid (xD3 n ⟨true,c,b,s,m⟩=(m==n)):=ι rfl;cases hq:(m==n) with
  |true=>
   rw[hq] at HN;rw[HN.o];obtain rfl:m=n:=by simpa using hq
   clear hq;go_enter func151,ntmps151;go_wp2;go_ret;exact⟨rfl,HB.o⟩
  |false=>
   rw[hq] at HN;rw[HN.o];have hq2:¬m=n:=by simpa using hq
   go_enter func151,ntmps151;go_wp2;go_ret;exact⟨rfl,HB.o⟩
theorem xDr (v:Value) (l:List Slot) (n:Bs) (w:World) (h:RdR 5 xKt w w.heap.size v l) (hl:l.length<=100000):
  Calls prog 75 #[v,xK n] w λe w'=>e=.returned (.int .i64 (xEw l n))/\ψ w w':=by
 have HA:=ι (φ w (.cells #[xK n] 9));have HN:=ι (xI w (.cells #[xK n] 9))
 have HI:=ι (xU2 151 #[.pointer (some ⟨w.heap.size,0,none⟩)] (xD3 n) v l (w.alloc (.cells #[xK n] 9)) ((h.below HA.o ν).more HA.o.size) hl (λargs W=>enters_of func151 κ rfl args W) (λt W hW=>xUm t n w.heap.size W (xC HN.o hW σ)));have HF:Hid (xEw l n=kQ (xD3 n) l):=ι rfl
 obtain⟨r,hr⟩:∃r,xEw l n=r:=⟨_,rfl⟩;rw[hr] at HF⊢;rw[<-HF.o] at HI;clear hr h HF;go_enter func75,ntmps75;go_wp2_with fail
 refine HI.o.mono ?_;rintro e w1 ⟨rfl,hb⟩;have HB:=ι (HA.o.trans (hb.mono HA.o.size));clear hb HI HA HN;go_wp2;go_ret;exact⟨rfl,HB.o⟩
end Go.Proofs.ST
namespace Mailsack
def rV (x:zO) (n:Bs):Int:=kQ (λb:wN=>b.name==n) x.boxes
theorem xY4 {α β:Type} (f:α->β) (p:β->Bool) (l:List α):kQ p (l.map f)=kQ (λa=>p (f a)) l:=by
 induction l with
 |nil=>rfl
 |cons x l ih=>rw[List.map_cons,kQ,kQ,ih]
end Mailsack
namespace Go.Proofs.IX
open Go.RowKit Mailsack MM BB SH SV RK DS Go.Proofs.ST
theorem xU3 (fid:FuncId) (fr:Array Value) (p:xR4->Bool) (v:Value) (l:List xR4) (w:World) (h:RdR 4 bxF w w.heap.size v l) (hl:l.length<=9223372036854775807) (hE:∀args W,(callFunc fid args).run prog W=.ok (.enter fid args) W)
  (hp:∀(t:xR4) (W:World),ψ w W->Calls prog fid (#[bxV t]++fr) W λe w'=>e=.returned (.bool (p t))/\ψ W w'):
  Calls prog 44 #[v,.func (.func fid) #[] fr] w λe w'=>e=.returned (.int .i64 (kQ p l))/\ψ w w':=by
 obtain⟨A,c,rfl,hc,hcell⟩:=h;have HL:=ι hcell;have HP:=ι hp;obtain⟨r,hr⟩:∃r,kQ p l=r:=⟨_,rfl⟩;rw[hr];have HR:=ι hr;clear hcell hc hp hr;go_enter func44,ntmps44;go_wp2_with fail
 go_loopw [8] (λiv wr=>∃k:Nat,k<=l.length/\iv=.int .i64 k/\Hid (ψ w wr)/\Hid (∀y∈l.take k,p y=false)) (λiv _=>l.length- (intOf iv).toNat)
 case atStart=>exact⟨0,Nat.zero_le _,rfl,ι (Below.refl _ _),ι σ⟩
 case round=>
  obtain⟨k,hk,rfl,HI,HN⟩:=hrel
  by_cases hlt:k<l.length
  ·obtain⟨x,hx⟩:∃x,l[k]?=some x:=⟨_,List.getElem?_eq_getElem hlt⟩;obtain⟨b,off,rfl,hb,hcell⟩:=HL.o ω;have q:=λi u hu=>(HI.o.cell (p:=⟨b,off+k*4+i,none⟩) hb).trans (hcell k x hx i u hu);have q0:wr.cell? ⟨b,off+k*4,none⟩=some (xK x.b.name):=q 0 _ rfl
   have q1:wr.cell? ⟨b,off+k*4+1,none⟩=some (.int .i64 x.b.validity):=q 1 _ rfl;have q2:wr.cell? ⟨b,off+k*4+2,none⟩=some (.int .i64 x.b.next):=q 2 _ rfl;have q3:wr.cell? ⟨b,off+k*4+3,none⟩=some x.mv:=q 3 _ rfl;have HC:=ι (HP.o x wr HI.o);have HX:=ι hx;clear hcell q hx
   cases hpx:p x with
   |true=>
    rw[hpx] at HC;have HRK:Hid (r=(k:Int)):=ι (by rw[<-HR.o];exact xK1 HX.o hpx HN.o);clear hpx HR;go_wp2_with (go_at_fn fid;refine HC.o.mono ?_;rintro e w' ⟨rfl,hb'⟩)
    go_ret;exact⟨by rw[HRK.o];rfl,HI.o.trans (hb'.mono HI.o.size)⟩
   |false=>
    rw[hpx] at HC
    have HN2:Hid (∀y∈l.take (k+1),p y=false):=ι (by
     intro y hy;rw[List.take_add_one,HX.o] at hy;rcases List.mem_append.1 hy with hy|hy
     ·exact HN.o y hy
     ·simp at hy;subst hy;exact hpx)
    clear hpx HN;go_wp2_with (go_at_fn fid;refine HC.o.mono ?_;rintro e w' ⟨rfl,hb'⟩;have HB':=ι (HI.o.trans (hb'.mono HI.o.size));clear hb')
    exact⟨⟨k+1,ω,by go_num,HB',HN2⟩,by simp[intOf];omega⟩
  ·obtain rfl:k=l.length:=ω;rw[List.take_length] at HN;have HRK:Hid (r=-1):=ι (by rw[<-HR.o];exact xK2 HN.o);clear HR;go_wp2;go_ret;exact⟨by rw[HRK.o];rfl,HI.o⟩
theorem xUn (t:xR4) (n:Bs) (nb:Nat) (w:World) (h:w.heap[nb]?=some (.cells #[xK n] 9 (0,0))):
  Calls prog 45 #[bxV t,.pointer (some ⟨nb,0,none⟩)] w λe w'=>e=.returned (.bool (t.b.name==n))/\ψ w w':=by
 obtain⟨⟨m,va,nx,ml⟩,A,c⟩:=t;have HB:=ι (φ w (.cells #[xK m,.int .i64 va,.int .i64 nx,.slice A ml.length c] 39));have hb:=xI w (.cells #[xK m,.int .i64 va,.int .i64 nx,.slice A ml.length c] 39);have c0:=cbl1 hb
 have n0:=cbl1 (xM h (.cells #[xK m,.int .i64 va,.int .i64 nx,.slice A ml.length c] 39));clear hb h;show Calls _ _ _ _ λe w'=>e=.returned (.bool (m==n))/\_;go_enter func45,ntmps45;go_wp2;go_ret;exact⟨rfl,HB.o⟩
theorem xDr (bv sv:Value) (x:zO) (n:Bs) (w:World) (h:xIn w w.heap.size bv sv x) (hl:x.boxes.length<=9223372036854775807):
  Calls prog 22 #[.agg #[bv,sv,.int .i64 x.given],xK n] w λe w'=>e=.returned (.int .i64 (rV x n))/\ψ w w':=by
 obtain⟨bl,hbl,hrd,_⟩:=h.boxes.rows;obtain⟨A1,c1,rfl,hc1,_⟩:=id hrd;obtain⟨A2,c2,rfl,hc2,_⟩:=h.subs;have hba:=(φ w (ixO (.slice A1 bl.length c1) (.slice A2 x.subs.length c2) x.given)).alloc σ (.cells #[xK n] 9)
 have H0:=ι (And.intro (zK w (ixO (.slice A1 bl.length c1) (.slice A2 x.subs.length c2) x.given) (.cells #[xK n] 9)) (And.intro (zD w (ixO (.slice A1 bl.length c1) (.slice A2 x.subs.length c2) x.given) (.cells #[xK n] 9)) hba))
 have HF:Hid (rV x n=kQ (λt:xR4=>t.b.name==n) bl):=ι (by unfold rV;rw[hbl,xY4]);have hbl2:bl.length<=9223372036854775807:=by rw[hbl,List.length_map] at hl;exact hl
 have HR:=ι ((hrd.below hba ν).more hba.size)
 have HI:=ι (λW (e:W=(w.alloc (ixO (.slice A1 bl.length c1) (.slice A2 x.subs.length c2) x.given)).alloc (.cells #[xK n] 9))=>xU3 45 #[.pointer (some ⟨w.heap.size+1,0,none⟩)] (λt=>t.b.name==n) (.slice A1 bl.length c1) bl W (by rw[e];exact HR.o) hbl2 (λargs W=>enters_of func45 κ rfl args W) (λt W2 hW=>xUn t n (w.heap.size+1) W2 (by rw[e] at hW;exact xC H0.o.2.1 hW (xJ H0.o.2.1))))
 rw[HF.o];obtain⟨r,hr⟩:∃r,kQ (λt:xR4=>t.b.name==n) bl=r:=⟨_,rfl⟩;rw[hr] at HI⊢;have hs:=H0.o.1;have s0:=cbl1 hs;clear hr h HF hba hs hrd hbl hl hbl2;go_enter func22,ntmps22;go_wp2_with fail
 refine(HI.o _ rfl).mono ?_;rintro e w1 ⟨rfl,hb⟩;have HB:=ι (H0.o.2.2.trans (hb.mono H0.o.2.2.size));clear hb HI H0 HR s0;go_wp2;go_ret;exact⟨rfl,HB.o⟩
end Go.Proofs.IX
namespace Go.Proofs.BK
open Go.RowKit MM SV RK
structure Bk (w:World) (L:List (Nat×Obj)) (W:World):Prop where
 k:∀(i:Nat) (p:Nat×Obj),L[i]?=some p->W.heap[p.1]?=some p.2
 inc:L.Pairwise (λp q=>p.1≠q.1)
 lo:∀p∈L,w.heap.size<=p.1
 bel:ψ w W
section
variable {w W W':World} {L:List (Nat×Obj)}
theorem Bk.nil (w:World):Bk w [] w:=⟨λi p h=>by simp at h,List.Pairwise.nil,λp h=>(by cases h),Below.refl _ _⟩
theorem Bk.below (h:Bk w L W) (hb:ψ W W'):Bk w L W':=
 ⟨λi p hp=>xC (h.k i p hp) hb (xJ (h.k i p hp)),h.inc,h.lo,h.bel.trans (hb.mono h.bel.size)⟩
theorem Bk.alloc (h:Bk w L W) (o:Obj):Bk w (L++[(W.heap.size,o)]) (W.alloc o):=by
 have hb:=φ W o;have h2:=h.below hb;refine⟨λi p hp=>?_,?_,λp hp=>?_,h2.bel⟩
 ·by_cases hi:i<L.length
  ·rw[List.getElem?_append_left hi] at hp;exact h2.k i p hp
  ·rw[List.getElem?_append_right ω] at hp
   have:i-L.length=0:=by
    have:=(List.getElem?_eq_some_iff.1 hp).1;simp at this;omega
   rw[this] at hp;injection hp with hp;subst hp;exact xI W o
 ·refine List.pairwise_append.2 ⟨h.inc,σ,λp hp q hq=>?_⟩;obtain⟨i,hi⟩:=List.getElem?_of_mem hp;rw[List.mem_singleton.1 hq];exact Nat.ne_of_lt (xJ (h.k i p hi))
 ·rcases List.mem_append.1 hp with hp|hp
  ·exact h.lo p hp
  ·rw[List.mem_singleton.1 hp];exact h.bel.size
theorem Bk.two (h:Bk w L W) (o o':Obj):Bk w (L++[(W.heap.size,o),(W.heap.size+1,o')]) ((W.alloc o).alloc o'):=by
 have:=(h.alloc o).alloc o';simpa[World.size_alloc] using this
theorem bk1 (w:World) (o0:Obj):Bk w [(w.heap.size,o0)] (w.alloc o0):=(Bk.nil w).alloc o0
theorem bk2 (w:World) (o0 o1:Obj):Bk w [(w.heap.size,o0),(w.heap.size+1,o1)] ((w.alloc o0).alloc o1):=(Bk.nil w).two o0 o1
theorem bk3 (w:World) (o0 o1 o2:Obj):Bk w [(w.heap.size,o0),(w.heap.size+1,o1),(w.heap.size+1+1,o2)] (((w.alloc o0).alloc o1).alloc o2):=by
 have:=(bk2 w o0 o1).alloc o2;simpa[World.size_alloc] using this
end
end Go.Proofs.BK
namespace Mailsack
def xKy:wN:=⟨[],0,0,[]⟩
def xWb (x:zO) (n:Bs):wN:=if 0<=rV x n then x.boxes.getD (rV x n).toNat xKy else xKy
theorem xU5 {α:Type} (p:α->Bool):∀(l:List α),kQ p l<l.length
 |[]=>by simp[kQ]
 |x::l=>by
  have:=xU5 p l;simp only[kQ,List.length_cons];split
  ·omega
  ·split<;>omega
theorem xOa (x:zO) (n:Bs):rV x n<x.boxes.length:=xU5 _ _
end Mailsack
namespace Go.Proofs.IM
open Go.RowKit MM BU Mailsack SV RK DS IX BK
abbrev bxT (b:wN) (mv:Value):Value:=.agg #[xK b.name,.int .i64 b.validity,.int .i64 b.next,mv]
theorem yCc (b:Nat) (bv sv:Value) (x:zO) (n:Bs) (w:World) (hb:b<w.heap.size) (h6:w.cell? ⟨b,6,none⟩=some bv) (h7:w.cell? ⟨b,7,none⟩=some sv) (h8:w.cell? ⟨b,8,none⟩=some (.int .i64 x.given)) (hx:xIn w w.heap.size bv sv x) (hl:x.boxes.length<=9223372036854775807):
  Calls prog 209 #[xIs b,xK n] w λe w'=>∃mv,e=.returned (.tuple #[bxT (xWb x n) mv,.bool (decide (0<=rV x n))])/\uN w' w'.heap.size mv (xWb x n).xU/\ψ w w':=by
 have HF:=ι (λW (hb:ψ w W)=>xDr bv sv x n W ((hx.below hb ν).more hb.size) hl);have HX:=ι hx;obtain⟨Ab,cb,rfl,hcb,hcs⟩:=hx.boxes;obtain⟨As,cs,rfl,hcs2,_⟩:=hx.subs;have HCS:=ι hcs;have HLT:=ι (xOa x n)
 have HBO:Hid (xWb x n=if 0<=rV x n then x.boxes.getD (rV x n).toNat xKy else xKy):=ι rfl;have H0:=ι (bk1 w (.cells #[.string ⟨#[]⟩,.int .i64 0,.int .i64 0,.slice none 0 0] 39));have HCC:=ι (And.intro hb (And.intro h6 (And.intro h7 h8)))
 obtain⟨nb,hnb⟩:∃n,x.boxes.length=n:=⟨_,rfl⟩;have HNB:=ι hnb;rw[hnb] at HF HCC;obtain⟨bo,hbo⟩:∃bo,xWb x n=bo:=⟨_,rfl⟩;rw[hbo] at HBO⊢;generalize rV x n=fi at HF HLT HBO⊢;have hl2:nb<=9223372036854775807:=ω;clear hb h6 h7 h8 hx hl hcb hcs hcs2 hbo hnb
 go_enter func209,ntmps209;go_upto_region 1 with fail
 obtain⟨w1,hw1⟩:∃w1,w.alloc (.cells #[.string ⟨#[]⟩,.int .i64 0,.int .i64 0,.slice none 0 0] 39)=w1:=⟨_,rfl⟩;rw[hw1] at H0;rw[hw1];clear hw1;have s6:=(H0.o.bel.cell (p:=⟨b,6,none⟩) HCC.o.1).trans HCC.o.2.1;have s7:=(H0.o.bel.cell (p:=⟨b,7,none⟩) HCC.o.1).trans HCC.o.2.2.1
 have s8:=(H0.o.bel.cell (p:=⟨b,8,none⟩) HCC.o.1).trans HCC.o.2.2.2;go_wp2_with fail
 refine(HF.o _ H0.o.bel).mono ?_;rintro e w2 ⟨rfl,hb2⟩;have H2:=ι (H0.o.below hb2);clear H0 HF hb2 s6 s7 s8
 by_cases hf:fi<0
 ·have HD:Hid (decide (0<=fi)=false):=ι (decide_eq_false ω);have HB0:Hid (bo=xKy):=ι (by rw[HBO.o,if_neg ω]);have hz:=H2.o.k 0 _ rfl;have hbb:=H2.o.bel
  obtain⟨o0,y0,f0,o1,y1,f1,o2,y2,f2,o3,y3,f3,HB⟩:=cpl4 hz hbb ω (.string ⟨#[]⟩) (.int .i64 0) (.int .i64 0) (.slice none 0 0) _ rfl;clear hz hbb H2 HBO HLT HCC HX HCS;go_wp2
  refine bodyPost_ret (v:=.tuple #[.agg #[.string ⟨#[]⟩,.int .i64 0,.int .i64 0,.slice none 0 0],.bool false]) (by simp[results,results209,go_sem,f0,f1,f2,f3]) rfl ?_;rw[HB0.o,HD.o];exact⟨_,rfl,⟨none,0,rfl,Nat.le_refl _,λh=>absurd h δ⟩,HB.o⟩
 ·have HD:Hid (decide (0<=fi)=true):=ι (decide_eq_true ω);obtain⟨k,hk⟩:∃k:Nat,fi=(k:Int):=⟨fi.toNat,ω⟩;subst hk;have hkn:k<nb:=by have:=HLT.o;rw[HNB.o] at this;omega
  obtain⟨y,hy⟩:∃y,x.boxes[k]?=some y:=⟨_,List.getElem?_eq_getElem (by rw[HNB.o];exact hkn)⟩;have HB0:Hid (bo=y):=ι (by rw[HBO.o,if_pos ω,List.getD_eq_getElem?_getD,show((k:Int)).toNat=k from rfl,hy];rfl);obtain⟨bb,off,rfl,hbb,hcell⟩:=HCS.o (by rw[HNB.o];omega)
  obtain⟨mv,c0,c1,c2,c3,hm⟩:=hcell k y hy;obtain⟨Am,cm,rfl,_,_⟩:=id hm;have q0:=(H2.o.bel.cell (p:=⟨bb,off+k*4,none⟩) hbb).trans c0;have q1:=(H2.o.bel.cell (p:=⟨bb,off+k*4+1,none⟩) hbb).trans c1;have q2:=(H2.o.bel.cell (p:=⟨bb,off+k*4+2,none⟩) hbb).trans c2
  have q3:=(H2.o.bel.cell (p:=⟨bb,off+k*4+3,none⟩) hbb).trans c3;have s6:=(H2.o.bel.cell (p:=⟨b,6,none⟩) HCC.o.1).trans HCC.o.2.1;have HM:=ι hm;have hz:=H2.o.k 0 _ rfl;have hbe:=H2.o.bel
  obtain⟨o0,y0,f0,o1,y1,f1,o2,y2,f2,o3,y3,f3,HB⟩:=cpl4 hz hbe ω (xK y.name) (.int .i64 y.validity) (.int .i64 y.next) (.slice Am y.xU.length cm) _ rfl;clear hz hbe H2 HBO HLT HCC HX HCS hcell c0 c1 c2 c3 hm hy;go_wp2
  refine bodyPost_ret (v:=.tuple #[.agg #[xK y.name,.int .i64 y.validity,.int .i64 y.next,.slice Am y.xU.length cm],.bool true]) (by simp[results,results209,go_sem,f0,f1,f2,f3]) rfl ?_;rw[HB0.o,HD.o];exact⟨_,rfl,(HM.o.below HB.o ν).more HB.o.size,HB.o⟩
theorem xTj (b:Nat) (bv sv:Value) (x:zO) (n:Bs) (w:World) (hb:b<w.heap.size) (h6:w.cell? ⟨b,6,none⟩=some bv) (h7:w.cell? ⟨b,7,none⟩=some sv) (h8:w.cell? ⟨b,8,none⟩=some (.int .i64 x.given)) (h9:w.cell? ⟨b,9,none⟩=some (xK n)) (hx:xIn w w.heap.size bv sv x) (hl:x.boxes.length<=9223372036854775807):
  Calls prog 218 #[xIs b] w λe w'=>∃mv,e=.returned mv/\uN w' w'.heap.size mv (xWb x n).xU/\ψ w w':=by
 have HB:=ι (yCc b bv sv x n w hb h6 h7 h8 hx hl);clear hb h6 h7 h8 hx hl;generalize xWb x n=bo at HB⊢;go_enter func218,ntmps218;go_wp2_with fail
 refine HB.o.mono ?_;rintro e w1 ⟨mv,rfl,hm,hb1⟩;have HM:=ι hm;obtain⟨Am,cm,rfl,_,_⟩:=hm;have H1:=ι (((bk1 w1 (.cells #[xK bo.name,.int .i64 bo.validity,.int .i64 bo.next,.slice Am bo.xU.length cm] 39))).bel);have HB1:=ι hb1;clear hb1 HB;go_wp2;go_ret
 exact⟨_,rfl,(HM.o.below H1.o ν).more H1.o.size,HB1.o.trans (H1.o.mono HB1.o.size)⟩
end Go.Proofs.IM
namespace Mailsack
def U64 (x:Int):Prop:=0<=x/\x<18446744073709551616
theorem yJ (op:Go.BinOp) (x y:Int):U64 (Go.bits op .u64 x y):=by
 have h:=Go.wf_bits op .u64 x y;simp[Go.Lit.wf] at h;have e1:Go.IntKind.u64.min=0:=δ;have e2:Go.IntKind.u64.max=18446744073709551615:=δ;unfold U64;omega
theorem xCt (x:Int):U64 (x % 18446744073709551616):=⟨ω,ω⟩
def xRu (c0 c1 c2 c3:Int):Int:=Go.bits .or .u64 (Go.bits .or .u64 (Go.bits .or .u64 c0 (c1*256)) (c2*65536)) (c3*16777216)
def zR (s:ByteArray) (i:Nat):Int:=xRu (yO (s.extract i (i+4)) 0) (yO (s.extract i (i+4)) 1) (yO (s.extract i (i+4)) 2) (yO (s.extract i (i+4)) 3)
theorem qU (s:ByteArray) (i:Nat):U64 (zR s i):=by unfold zR xRu;exact yJ _ _ _
structure L5 where
 a:Int
 b:Int
 c:Int
 d:Int
 e:Int
def L5.list (l:L5):List Int:=[l.a,l.b,l.c,l.d,l.e]
def L5.ok (l:L5):Prop:=U64 l.a/\U64 l.b/\U64 l.c/\U64 l.d/\U64 l.e
def yT (s:ByteArray):L5:=
 ⟨Go.bits .and .u64 (zR s 0) 67108863,Go.bits .and .u64 (zR s 3 / 4) 67108863,Go.bits .and .u64 (zR s 6 / 16) 67108863,zR s 9 / 64,zR s 12 / 256⟩
theorem rO (s:ByteArray):(yT s).ok:=by
 have h9:=qU s 9;have h12:=qU s 12;refine⟨by simp only[yT];exact yJ _ _ _,by simp only[yT];exact yJ _ _ _,by simp only[yT];exact yJ _ _ _,?_,?_⟩
 ·unfold U64 at h9;show U64 (zR s 9 / 64);unfold U64;omega
 ·unfold U64 at h12;show U64 (zR s 12 / 256);unfold U64;omega
def wQ (s:ByteArray):L5:=
 ⟨(yT s).a,Go.bits .and .u64 (yT s).b 67108611,Go.bits .and .u64 (yT s).c 67092735,Go.bits .and .u64 (yT s).d 66076671,Go.bits .and .u64 (yT s).e 1048575⟩
theorem xVd (s:ByteArray):(wQ s).ok:=⟨(rO s).1,by simp only[wQ];exact yJ _ _ _,by simp only[wQ];exact yJ _ _ _,by simp only[wQ];exact yJ _ _ _,by simp only[wQ];exact yJ _ _ _⟩
end Mailsack
namespace Go.Proofs.SH
open Go.RowKit Mailsack MM BB
theorem jW {w W:World} (h:ψ w W) (i:Nat) (u:Value):ψ w (W.setCell ⟨w.heap.size,i,none⟩ u):=h.setCell (p:=⟨w.heap.size,i,none⟩) ν u
theorem jF (s:ByteArray) (i:Nat) (w:World) (hi:i+4<=s.size) (hs:s.size<=1099511627776):
  Calls prog 391 #[.string s,.int .i64 i] w λe w'=>e=.returned (.int .u64 (zR s i))/\ψ w w':=by
 obtain⟨z,hz⟩:∃z,zR s i=z:=⟨_,rfl⟩;rw[hz];unfold zR at hz;have hxs:(s.extract i (i+4)).size=4:=by rw[ByteArray.size_extract];omega
 go_enter func391,ntmps391;go_upto_region 2 with fail
 generalize s.extract i (i+4)=x at hz hxs⊢;have i0:=λw=>zG (P:=prog) underlying9 x 0 0 rfl ω w;have i1:=λw=>zG (P:=prog) underlying9 x 1 1 rfl ω w;have i2:=λw=>zG (P:=prog) underlying9 x 2 2 rfl ω w
 have i3:=λw=>zG (P:=prog) underlying9 x 3 3 rfl ω w;obtain⟨r00,r01⟩:=yZ x 0;obtain⟨r10,r11⟩:=yZ x 1;obtain⟨r20,r21⟩:=yZ x 2;obtain⟨r30,r31⟩:=yZ x 3;generalize yO x 0=c0 at i0 r00 r01 hz;generalize yO x 1=c1 at i1 r10 r11 hz;generalize yO x 2=c2 at i2 r20 r21 hz
 generalize yO x 3=c3 at i3 r30 r31 hz;unfold xRu at hz;have HZ:=ι hz;clear hz hxs hi hs;refine RG.xH (λW=>Hid (ψ w W)) κ κ (ι (Below.refl _ _).drew) ?_;iterate 18 refine RG.dS ?_
 rw[HZ.o];refine RG.dS ?_;refine RG.xL (λw9 hw9=>?_);clear i0 i1 i2 i3;go_wp2;go_ret;exact⟨rfl,hw9.o⟩
theorem rM (s:ByteArray) (w:World) (hs:s.size=16):
  Calls prog 330 #[.string s] w λe w'=>e=.returned (.agg #[.int .u64 (yT s).a,.int .u64 (yT s).b,.int .u64 (yT s).c,.int .u64 (yT s).d,.int .u64 (yT s).e])/\ψ w w':=by
 have W0:Hid (∀W,Calls prog 391 #[.string s,.int .i64 0] W λe w'=>e=.returned (.int .u64 (zR s 0))/\ψ W w'):=ι (λW=>jF s 0 W ω ω);have W3:Hid (∀W,Calls prog 391 #[.string s,.int .i64 3] W λe w'=>e=.returned (.int .u64 (zR s 3))/\ψ W w'):=ι (λW=>jF s 3 W ω ω)
 have W6:Hid (∀W,Calls prog 391 #[.string s,.int .i64 6] W λe w'=>e=.returned (.int .u64 (zR s 6))/\ψ W w'):=ι (λW=>jF s 6 W ω ω);have W9:Hid (∀W,Calls prog 391 #[.string s,.int .i64 9] W λe w'=>e=.returned (.int .u64 (zR s 9))/\ψ W w'):=ι (λW=>jF s 9 W ω ω)
 have W12:Hid (∀W,Calls prog 391 #[.string s,.int .i64 12] W λe w'=>e=.returned (.int .u64 (zR s 12))/\ψ W w'):=ι (λW=>jF s 12 W ω ω)
 have HP:Hid (yT s=⟨bits .and .u64 (zR s 0) 67108863,bits .and .u64 (zR s 3 / 4) 67108863,bits .and .u64 (zR s 6 / 16) 67108863,zR s 9 / 64,zR s 12 / 256⟩):=ι rfl;obtain⟨u30,u31⟩:=qU s 3;obtain⟨u60,u61⟩:=qU s 6;obtain⟨u90,u91⟩:=qU s 9;obtain⟨uc0,uc1⟩:=qU s 12;rw[HP.o]
 generalize zR s 0=x0 at W0 HP⊢;generalize zR s 3=x3 at W3 HP u30 u31⊢;generalize zR s 6=x6 at W6 HP u60 u61⊢;generalize zR s 9=x9 at W9 HP u90 u91⊢;generalize zR s 12=x12 at W12 HP uc0 uc1⊢
 have B0:=ι (φ w (.cells #[.int .u64 0,.int .u64 0,.int .u64 0,.int .u64 0,.int .u64 0] 377));have P0:=ι (xI w (.cells #[.int .u64 0,.int .u64 0,.int .u64 0,.int .u64 0,.int .u64 0] 377));clear hs HP;go_enter func330,ntmps330;go_wp2_with fail
 refine(W0.o _).mono ?_;rintro e w1 ⟨rfl,hb⟩;have B1:=ι (B0.o.trans (hb.mono B0.o.size));have P1:=ι (xC P0.o hb σ);clear hb P0 B0;go_wp2_with fail
 refine(W3.o _).mono ?_;rintro e w2 ⟨rfl,hb⟩;have B2:=ι (B1.o.trans (hb.mono B1.o.size));have P2:=ι (xC P1.o hb (xJ P1.o));clear hb P1 B1;go_wp2_with fail
 refine(W6.o _).mono ?_;rintro e w3 ⟨rfl,hb⟩;have B3:=ι (B2.o.trans (hb.mono B2.o.size));have P3:=ι (xC P2.o hb (xJ P2.o));clear hb P2 B2;go_wp2_with fail
 refine(W9.o _).mono ?_;rintro e w4 ⟨rfl,hb⟩;have B4:=ι (B3.o.trans (hb.mono B3.o.size));have P4:=ι (xC P3.o hb (xJ P3.o));clear hb P3 B3;go_wp2_with fail
 refine(W12.o _).mono ?_;rintro e w5 ⟨rfl,hb⟩;have B5:=ι (B4.o.trans (hb.mono B4.o.size));have P5:=xC P4.o hb (xJ P4.o);have f0:=xA P5 0;have f1:=xA P5 1;have f2:=xA P5 2;have f3:=xA P5 3;have f4:=xA P5 4;have y0:=xD P5 0;have y1:=xD P5 1;have y2:=xD P5 2;have y3:=xD P5 3
 have y4:=xD P5 4;clear hb P4 B4 P5;go_wp2
 refine bodyPost_ret (v:=.agg #[.int .u64 (bits .and .u64 x0 67108863),.int .u64 (bits .and .u64 (x3 / 4) 67108863),.int .u64 (bits .and .u64 (x6 / 16) 67108863),.int .u64 (x9 / 64),.int .u64 (x12 / 256)]) (by simp[results,results330,go_sem,f0,f1,f2,f3,f4]) rfl ?_
 refine⟨rfl,?_⟩;have h:=B5.o;clear f0 f1 f2 f3 f4 y0 y1 y2 y3 y4;have k0:=jW h 0 (.int .u64 (bits .and .u64 x0 67108863));have k1:=jW k0 1 (.int .u64 (bits .and .u64 (x3 / 4) 67108863));have k2:=jW k1 2 (.int .u64 (bits .and .u64 (x6 / 16) 67108863))
 have k3:=jW k2 3 (.int .u64 (x9 / 64));have k4:=jW k3 4 (.int .u64 (x12 / 256));with_reducible exact k4
theorem xF9 (s:ByteArray) (w:World) (hs:s.size=16):
  Calls prog 329 #[.string s] w λe w'=>e=.returned (.agg #[.int .u64 (wQ s).a,.int .u64 (wQ s).b,.int .u64 (wQ s).c,.int .u64 (wQ s).d,.int .u64 (wQ s).e])/\ψ w w':=by
 have HS:=ι (λW=>rM s W hs);have HP:Hid (wQ s=⟨(yT s).a,bits .and .u64 (yT s).b 67108611,bits .and .u64 (yT s).c 67092735,bits .and .u64 (yT s).d 66076671,bits .and .u64 (yT s).e 1048575⟩):=ι rfl;rw[HP.o];generalize yT s=q at HS HP⊢;obtain⟨a,b,c,d,e⟩:=q
 have B0:=ι (φ w (.cells #[.int .u64 0,.int .u64 0,.int .u64 0,.int .u64 0,.int .u64 0] 377));have P0:=ι (xI w (.cells #[.int .u64 0,.int .u64 0,.int .u64 0,.int .u64 0,.int .u64 0] 377));clear hs HP;go_enter func329,ntmps329;go_wp2_with fail
 refine(HS.o _).mono ?_;rintro e2 w1 ⟨rfl,hb⟩;have B1:=ι (B0.o.trans (hb.mono B0.o.size))
 have P1:=xM (xC P0.o hb σ) (.cells #[.int .u64 a,.int .u64 (bits .and .u64 b 67108611),.int .u64 (bits .and .u64 c 67092735),.int .u64 (bits .and .u64 d 66076671),.int .u64 (bits .and .u64 e 1048575)] 377)
 have B2:=ι (B1.o.alloc B1.o.size (.cells #[.int .u64 a,.int .u64 (bits .and .u64 b 67108611),.int .u64 (bits .and .u64 c 67092735),.int .u64 (bits .and .u64 d 66076671),.int .u64 (bits .and .u64 e 1048575)] 377));have f0:=xA P1 0;have f1:=xA P1 1;have f2:=xA P1 2
 have f3:=xA P1 3;have f4:=xA P1 4;have y0:=xD P1 0;have y1:=xD P1 1;have y2:=xD P1 2;have y3:=xD P1 3;have y4:=xD P1 4;clear hb P0 B0 P1 B1;go_wp2
 refine bodyPost_ret (v:=.agg #[.int .u64 a,.int .u64 (bits .and .u64 b 67108611),.int .u64 (bits .and .u64 c 67092735),.int .u64 (bits .and .u64 d 66076671),.int .u64 (bits .and .u64 e 1048575)]) (by simp[results,results329,go_sem,f0,f1,f2,f3,f4]) rfl ?_;refine⟨rfl,?_⟩
 have h:=B2.o;clear f0 f1 f2 f3 f4 y0 y1 y2 y3 y4;have k0:=jW h 0 (.int .u64 a);have k1:=jW k0 1 (.int .u64 (bits .and .u64 b 67108611));have k2:=jW k1 2 (.int .u64 (bits .and .u64 c 67092735));have k3:=jW k2 3 (.int .u64 (bits .and .u64 d 66076671))
 have k4:=jW k3 4 (.int .u64 (bits .and .u64 e 1048575));with_reducible exact k4
end Go.Proofs.SH
namespace Mailsack
def yE (ws:List Int):Prop:=∀i,U64 (ws.getD i 0)
theorem yE.set {ws:List Int} (h:yE ws) (i:Nat) {x:Int} (hx:U64 x):yE (ws.set i x):=by
 intro j;rw[List.getD_eq_getElem?_getD,List.getElem?_set];split
 ·split
  ·exact hx
  ·exact⟨δ,δ⟩
 ·have:=h j
  rwa [List.getD_eq_getElem?_getD] at this
theorem xAr (n:Nat):yE (List.replicate n 0):=by
 intro i;rw[List.getD_eq_getElem?_getD,List.getElem?_replicate];split<;>exact⟨δ,δ⟩
theorem L5.all {l:L5} (h:l.ok):yE l.list:=by
 obtain⟨h0,h1,h2,h3,h4⟩:=h;intro i
 match i with
 |0=>exact h0
 |1=>exact h1
 |2=>exact h2
 |3=>exact h3
 |4=>exact h4
 |n+5=>
  rw[List.getD_eq_getElem?_getD,List.getElem?_eq_none (by simp[L5.list])];exact⟨δ,δ⟩
theorem wrap_u64 (x:Int):U64 (Go.IntKind.u64.wrap x):=by
 rw[show Go.IntKind.u64.wrap x=x % 18446744073709551616 from by simp[Go.IntKind.wrap,Go.IntKind.signed,Go.IntKind.bits]];exact xCt x
def xZ (l:List Int):Nat->List Int×Int
 |0=>(l,0)
 |i+1=>((xZ l i).1.set i (Go.bits .and .u64 (Go.IntKind.u64.wrap ((xZ l i).1.getD i 0+(xZ l i).2)) 67108863),Go.IntKind.u64.wrap ((xZ l i).1.getD i 0+(xZ l i).2) / 67108864)
theorem tX (l:List Int):∀i,(xZ l i).1.length=l.length
 |0=>rfl
 |i+1=>by simp[xZ,tX l i]
theorem xCe {l:List Int} (h:yE l):∀i,yE (xZ l i).1
 |0=>h
 |i+1=>(xCe h i).set i (yJ _ _ _)
theorem xFc (l:List Int):∀i,0<=(xZ l i).2/\(xZ l i).2<274877906944
 |0=>⟨by simp[xZ],by simp[xZ]⟩
 |i+1=>by
  have ⟨h0,h1⟩:=wrap_u64 ((xZ l i).1.getD i 0+(xZ l i).2);simp only[xZ];omega
def vZ (l:List Int):List Int:=(xZ l 5).1.set 0 (Go.IntKind.u64.wrap ((xZ l 5).1.getD 0 0+5*(xZ l 5).2))
theorem wG (l:List Int):(vZ l).length=l.length:=by unfold vZ;rw[List.length_set,tX]
theorem qO {l:List Int} (h:yE l):yE (vZ l):=(xCe h 5).set 0 (wrap_u64 _)
end Mailsack
namespace Go.Proofs.SH
open Go.RowKit Mailsack MM BB
def xE (ws:List Int):Array Value:=(ws.map λx=>Value.int .u64 x).toArray
theorem xQ (ws:List Int):(xE ws).size=ws.length:=by simp[xE]
theorem xAc {ws:List Int} {i:Nat} (h:i<ws.length):(xE ws)[i]?=some (.int .u64 (ws.getD i 0)):=by
 simp[xE,List.getD_eq_getElem?_getD,List.getElem?_eq_getElem h]
theorem xOd (ws:List Int) (i:Nat) (x:Int):(xE ws).setIfInBounds i (.int .u64 x)=xE (ws.set i x):=by
 simp[xE,List.map_set]
theorem xR (ws:List Int):(xE ws).all (·.oneCell')=true:=by
 simp[xE,Value.oneCell']
def zX (W:World) (g:Nat) (ws:List Int):Prop:=W.heap[g]?=some (.cells (xE ws) 377 (0,0))
theorem zX.blk {W:World} {g:Nat} {ws:List Int} (h:zX W g ws):W.heap[g]?=some (.cells (xE ws) 377 (0,0)):=h
theorem zX.put {W:World} {g:Nat} {ws:List Int} (h:zX W g ws) (i:Nat) (x:Int):zX (W.setCell ⟨g,i,none⟩ (.int .u64 x)) g (ws.set i x):=by
 have:=yC h.blk i (.int .u64 x);rw[xOd] at this;exact this
theorem zX.far {W:World} {g:Nat} {ws:List Int} (h:zX W g ws) {p:Addr} (hp:g≠p.block) (u:Value):zX (W.setCell p u) g ws:=zL h.blk hp u
theorem zX.cell {W:World} {g:Nat} {ws:List Int} (h:zX W g ws) {i:Nat} (hi:i<ws.length):W.cell? ⟨g,i,none⟩=some (.int .u64 (ws.getD i 0)):=by rw[xA h.blk,xAc hi]
theorem zX.free {W:World} {g:Nat} {ws:List Int} (h:zX W g ws) (i:Nat):W.frozen? ⟨g,i,none⟩=false:=xD h.blk i
theorem xAh {ws:List Int} (h:ws.length=5):(prog.info? 377).map (·.size)=some (xE ws).size:=by rw[xQ,h];kernel_rfl
structure xIw (w:World) (ws:List Int) (W:World):Prop where
 st:zX W w.heap.size ws
 res:zX W (w.heap.size+1) (List.replicate 5 0)
 bel:ψ w W
theorem xIw.put {w:World} {ws:List Int} {W:World} (h:xIw w ws W) (i:Nat) (x:Int):xIw w (ws.set i x) (W.setCell ⟨w.heap.size,i,none⟩ (.int .u64 x)):=
 ⟨h.st.put i x,h.res.far (p:=⟨w.heap.size,i,none⟩) σ _,h.bel.setCell (p:=⟨w.heap.size,i,none⟩) ν _⟩
theorem xFb (ws:List Int) (w:World) (hl:ws.length=5) (hu:yE ws):
  Calls prog 392 #[.agg (xE ws)] w λe w'=>e=.returned (.agg (xE (vZ ws)))/\ψ w w':=by
 have H0:Hid (xIw w (xZ ws 0).1 ((w.alloc (.cells (xE ws) 377)).alloc (.cells (xE (List.replicate 5 0)) 377))):=ι ⟨zK _ _ _,zD _ _ _,(φ w _).alloc σ _⟩;have HL:Hid (∀i,(xZ ws i).1.length=5):=ι (λi=>by rw[tX,hl]);have HU:=ι (λi=>xCe hu i);have HV:=ι (λi=>xFc ws i)
 have HS:Hid (∀i,(xZ ws (i+1)).1=(xZ ws i).1.set i (bits .and .u64 (IntKind.u64.wrap ((xZ ws i).1.getD i 0+(xZ ws i).2)) 67108863)/\(xZ ws (i+1)).2=IntKind.u64.wrap ((xZ ws i).1.getD i 0+(xZ ws i).2) / 67108864):=ι (λi=>⟨rfl,rfl⟩)
 have HP:Hid (∀n,n=5->vZ ws=(xZ ws n).1.set 0 (IntKind.u64.wrap ((xZ ws n).1.getD 0 0+5*(xZ ws n).2))):=ι (λn hn=>by rw[hn];rfl);have HPL:Hid ((vZ ws).length=5):=ι (by rw[wG,hl]);clear hl hu;go_enter func392,ntmps392;go_wp2_with fail
 go_loopw [3,5] (λov iv wr=>∃i:Nat,i<=5/\iv=.int .i64 i/\ov=.int .u64 (xZ ws i).2/\Hid (xIw w (xZ ws i).1 wr)) (λ_ iv _=>5- (intOf iv).toNat)
 case atStart=>exact⟨0,δ,rfl,rfl,H0⟩
 case round=>
  clear H0;obtain⟨i,hi,rfl,rfl,hr⟩:=hrel;obtain⟨v0,v1⟩:=HV.o i
  by_cases hlt:i<5
  ·have hl:=HL.o i;obtain⟨u0,u1⟩:=HU.o i i;have hl5:=HL.o i;obtain⟨s1,s2⟩:=HS.o i;obtain⟨x1,hx1⟩:∃x,(xZ ws (i+1)).1=x:=⟨_,rfl⟩;obtain⟨o1,ho1⟩:∃x,(xZ ws (i+1)).2=x:=⟨_,rfl⟩;rw[hx1] at s1;rw[ho1] at s2;have HX1:=ι hx1;have HO1:=ι ho1;clear hx1 ho1
   generalize (xZ ws i).2=o at v0 v1 s1 s2⊢;generalize (xZ ws i).1=xs at hr hl5 u0 u1 s1 s2;have q0:=hr.o.st.cell (i:=i) ω;have q1:=hr.o.st.free i;obtain⟨x,hx⟩:∃x,xs.getD i 0=x:=⟨_,rfl⟩;rw[hx] at q0 u0 u1 s1 s2;obtain⟨z,hz⟩:∃z,IntKind.u64.wrap (x+o)=z:=⟨_,rfl⟩;rw[hz] at s1 s2
   have hzr:=wrap_u64 (x+o);rw[hz] at hzr;obtain⟨z0,z1⟩:=hzr;have HZ:=ι hz;have hlx:xs.length=5:=hl5;have HA:Hid (xIw w (xs.set i z) (wr.setCell ⟨w.heap.size,i,none⟩ (.int .u64 z))):=ι (hr.o.put i z)
   have HB:Hid (xIw w x1 ((wr.setCell ⟨w.heap.size,i,none⟩ (.int .u64 z)).setCell ⟨w.heap.size,i,none⟩ (.int .u64 (bits .and .u64 z 67108863)))):=ι (by
    have h:=HA.o.put i (bits .and .u64 z 67108863);rw[List.set_set,<-s1] at h;exact h)
   have HS2:=ι s2
   have HQ:Hid (∀W,Hid (xIw w (xs.set i z) W)->W.cell? ⟨w.heap.size,i,none⟩=some (.int .u64 z)/\W.frozen? ⟨w.heap.size,i,none⟩=false):=ι (λW h=>by
    have q:=h.o.st.cell (i:=i) (by rw[List.length_set];omega);rw[List.getD_eq_getElem?_getD,List.getElem?_set_self ω] at q;exact⟨q,h.o.st.free i⟩)
   clear hx hz s1 s2 hr hlx hl5;go_upto_region 6 with fail
   rw[HZ.o];clear q0 q1 u0 u1
   revert HB
   refine(λ(h:∀W3,Hid (xIw w (xs.set i z) W3)->Hid (xIw w x1 (W3.setCell ⟨w.heap.size,i,none⟩ (.int .u64 (bits .and .u64 z 67108863))))->Code.wp _ _ _ _ W3)=>h _ HA) ?_;clear HA;intro w3 hw3 HB;obtain⟨q0,q1⟩:=HQ.o w3 hw3;clear HQ;go_wp2;refine⟨⟨i+1,ω,?_,?_,?_⟩,?_⟩
   ·exact congrArg (Value.int .i64) ω
   ·rw[HO1.o,HS2.o]
   ·rw[HX1.o];exact HB
   ·simp[intOf];omega
  ·have hi5:i=5:=ω;have hP:=HP.o i hi5;obtain⟨u0,u1⟩:=HU.o i 0;generalize (xZ ws i).2=o at v0 v1 hP⊢;have hl5:=HL.o i;generalize (xZ ws i).1=xs at hr hl5 u0 u1 hP;have q0:=hr.o.st.cell (i:=0) ω;have q1:=hr.o.st.free 0;obtain⟨x,hx⟩:∃x,xs.getD 0 0=x:=⟨_,rfl⟩;rw[hx] at q0 u0 u1 hP
   obtain⟨z,hz⟩:∃z,IntKind.u64.wrap (x+5*o)=z:=⟨_,rfl⟩;rw[hz] at hP;have HZ:=ι hz;have HF:=ι hP;have HA:Hid (xIw w (xs.set 0 z) (wr.setCell ⟨w.heap.size,0,none⟩ (.int .u64 z))):=ι (hr.o.put 0 z)
   have HI:Hid ((prog.info? 377).map (·.size)=some (xE (xs.set 0 z)).size):=ι (xAh (by rw[List.length_set];exact hl5));have HZ5:Hid ((xE (List.replicate 5 0)).size=(xE (xs.set 0 z)).size):=ι (by rw[xQ,xQ,List.length_set,hl5];rfl);have hneg:¬((i:Int)<5):=ω
   clear hx hz hP HP hr hl5 hi5 hlt hi;go_upto_region 10 with fail
   rw[HZ.o];clear q0 q1 u0 u1 v0 v1;refine(λ(h:∀W3,Hid (xIw w (xs.set 0 z) W3)->Code.wp _ _ _ _ W3)=>h _ HA) ?_;clear HA;intro w3 hw3;refine wp_region_lit ?_;refine wpList_load_row rfl _ _ rfl w.heap.size rfl _ (xE (xs.set 0 z)) (0,0) _ hw3.o.st underlying377 rfl HI.o ?_
   refine wpList_store_row rfl _ _ _ rfl (w.heap.size+1) (xE (xs.set 0 z)) rfl rfl _ _ hw3.o.res HI.o HZ5.o (xR _) ?_;go_wp2;refine bodyPost_ret (results_cell_row rfl _ _ (w.heap.size+1) _ _ (0,0) _ rfl (setRow_heap _ _ _ _ _ _ hw3.o.res) underlying377 rfl HI.o) rfl ?_
   rw[HF.o];exact⟨rfl,below_setRow hw3.o.bel ω _⟩
end Go.Proofs.SH
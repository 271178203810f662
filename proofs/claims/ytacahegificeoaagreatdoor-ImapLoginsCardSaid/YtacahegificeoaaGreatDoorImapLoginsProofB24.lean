/- Contracts of functions. Conditions: as stated. -/
import Derived.Test.YtacahegificeoaaGreatDoorImapLoginsProofB23
set_option maxHeartbeats 8000000
set_option maxRecDepth 100000
namespace Go.Proofs.DS
open Go.RowKit Mailsack MM BB SH SV RK BU
theorem yCw {w:World} {B:Nat} {A:Option Addr} {n c:Nat} {l:List Wr} (h:RdW w B (.slice A n c) l) {j:Nat} {x:Wr} (hx:l[j]?=some x):∃b off,A=some ⟨b,off,none⟩/\b<B/\w.cell? ⟨b,off+j*2,none⟩=some (.int .i64 x.at_)/\w.cell? ⟨b,off+j*2+1,none⟩=some (xO x.data):=by
 obtain⟨A',c',e,_,h3⟩:=h;injection e with e1 e2 e3;subst e1 e2;obtain⟨b,off,h4,h5,h6⟩:=h3 (by have:=(List.getElem?_eq_some_iff.1 hx).1;omega);exact⟨b,off,h4,h5,(h6 j x hx).1,(h6 j x hx).2⟩
theorem RdR.xPs {α:Type} {k:Nat} {f:α->List Value} (w:World) (B:Nat):RdR k f w B (.slice none 0 0) ([]:List α):=⟨none,0,rfl,Nat.le_refl _,λh=>by simp at h⟩
theorem xVt (va vb lv:Value) (d:Dk) (l:List Wr) (w:World) (h:RdD w w.heap.size va vb d) (hl:RdW w w.heap.size lv l) (hs:xBs d=false∨l.length=0):
  Calls Tryz.prog 273 #[.agg #[va,vb],lv] w λe w'=>e=.returned (.tuple #[.slice none 0 0,.int .i64 1])/\Below w.heap.size w w':=by
 obtain⟨A1,c1,A2,c2,rfl,rfl⟩:=yE h;obtain⟨A3,c3,rfl,_,_⟩:=hl;have HA:=ι ((Below.refl w.heap.size w).alloc ν (xX (.slice A1 d.secs.length c1) (.slice A2 d.cache.length c2)));have HS:=ι (xKv _ _ d _ ((h.below HA.o ν).more HA.o.size))
 rw[show(decide (61<d.secs.length)&&yZ d)=xBs d from rfl] at HS;cases hsu:xBs d with
 |false=>
  rw[hsu] at HS;clear hs hsu h;go_enter Tryz.func273,Tryz.ntmps273;go_wp2_with fail
  refine HS.o.mono ?_;rintro e w1 ⟨rfl,hb⟩;have HB:=ι (HA.o.trans (hb.mono HA.o.size));clear hb HS HA;go_wp2;go_ret2;exact⟨rfl,HB.o⟩
 |true=>
  rw[hsu] at HS;have h0:l.length=0:=hs.resolve_left (by rw[hsu];simp);rw[h0];clear hs hsu h h0;go_enter Tryz.func273,Tryz.ntmps273;go_wp2_with fail
  refine HS.o.mono ?_;rintro e w1 ⟨rfl,hb⟩;have HB:=ι (HA.o.trans (hb.mono HA.o.size));clear hb HS HA;go_wp2;go_ret2;exact⟨rfl,HB.o⟩
theorem yA5 (va vb lv:Value) (d:Dk) (l:List Wr) (w:World) (h:RdD w w.heap.size va vb d) (hl:RdW w w.heap.size lv l) (hll:l.length<=100000) (hs:xBs d=true) (h0:l.length≠0) (hT:wL w):
  Calls Tryz.prog 273 #[.agg #[va,vb],lv] w λe w'=>∃ov,e=.returned (.tuple #[ov,.int .i64 (vW d l)])/\RdR 3 opF w' w'.heap.size ov (if vW d l=0 then jQ l else[])/\Below w.heap.size w w':=by
 obtain⟨A1,c1,A2,c2,rfl,rfl⟩:=yE h;have HWR:=ι hl;obtain⟨A3,c3,rfl,_,_⟩:=hl;have HA:=ι ((Below.refl w.heap.size w).alloc ν (xX (.slice A1 d.secs.length c1) (.slice A2 d.cache.length c2)));have HD0:=ι (xL w (xX (.slice A1 d.secs.length c1) (.slice A2 d.cache.length c2)))
 have HS:=ι (xKv _ _ d _ ((h.below HA.o ν).more HA.o.size));rw[show(decide (61<d.secs.length)&&yZ d)=xBs d from rfl,hs] at HS;have HPE:Hid (vW d l=if l.all (xOd d.secs.length)=false then 1 else if 30<l.length then 4 else 0):=ι (by unfold vW;rw[if_neg (by rw[hs];simp[h0])])
 have HTT:=ι hT;obtain⟨pe,hpe⟩:∃pe,vW d l=pe:=⟨_,rfl⟩;obtain⟨pl,hpl⟩:∃pl,(if vW d l=0 then jQ l else[])=pl:=⟨_,rfl⟩;rw[hpl,hpe];have HV:=ι (And.intro hpe hpl);clear hs h hT hpe hpl;have h0i:¬((l.length:Int)=0):=by omega
 have h0b:((l.length:Int)==0)=false:=by simpa using h0i
 go_enter Tryz.func273,Tryz.ntmps273;go_wp2_with fail
 refine HS.o.mono ?_;rintro e w1 ⟨rfl,hb⟩;have HB:=ι (And.intro (HA.o.trans (hb.mono HA.o.size)) (xB HD0.o hb (xG HD0.o)));clear hb HS HA HD0;go_wp2_with fail
 clear h0i h0b
 -- the first loop:each write goes
 go_loopw [25] (λiv wr=>∃k:Nat,k<=l.length/\iv=.int .i64 k/\Hid (Below w.heap.size w wr/\wr.heap[w.heap.size]?=some (xX (.slice A1 d.secs.length c1) (.slice A2 d.cache.length c2)))/\Hid (∀r∈l.take k,xOd d.secs.length r=true)) (λiv _=>l.length- (intOf iv).toNat)
 case atStart=>exact⟨0,Nat.zero_le _,rfl,HB,ι σ⟩
 case round=>
  obtain⟨k,hk,rfl,HI,hok⟩:=hrel;clear HB
  by_cases hlt:k<l.length
  ·obtain⟨x,hx⟩:∃x,l[k]?=some x:=⟨_,List.getElem?_eq_getElem hlt⟩;obtain⟨b,off,rfl,hbw,q0,q1⟩:=yCw HWR.o hx;have q0:=(HI.o.1.cell (p:=⟨b,off+k*2,none⟩) hbw).trans q0;have q1:=(HI.o.1.cell (p:=⟨b,off+k*2+1,none⟩) hbw).trans q1;have HX:=ι hx
   have HF:Hid (xOd d.secs.length x=(decide (61<=x.at_)&&decide (x.at_<d.secs.length)&&decide (x.data.length=64))):=ι rfl;have HAL:=ι (And.intro (HI.o.1.alloc HI.o.1.size (.cells #[.int .i64 x.at_,xO x.data] 118)) (xK HI.o.2 (.cells #[.int .i64 x.at_,xO x.data] 118)))
   have hbn:=xL wr (.cells #[.int .i64 x.at_,xO x.data] 118);have hbd:=HAL.o.2;obtain⟨x0,x1⟩:=zQ hbn;obtain⟨d0,d1⟩:=zQ hbd;obtain⟨xa,xd⟩:=x;obtain⟨sb,hsb⟩:∃sb:ByteArray,(⟨xd.toArray⟩:ByteArray)=sb:=⟨_,rfl⟩;have hsz:sb.size=xd.length:=by rw[<-hsb];rfl
   simp only at q0 q1 HF HAL x0 x1 d0 d1;simp only[xO] at q0 q1 HAL x0 x1 d0 d1;rw[hsb] at q1 HAL x1 d0 d1 x0;clear hx hbn hbd HI hsb
   by_cases g1:xa<61
   ·have HR:Hid (vW d l=1):=ι (by rw[HPE.o,if_pos (all_false HX.o (by rw[HF.o];simp;omega))]);clear HPE HF HWR;go_wp2;go_ret2;exact⟨_,by rw[<-HV.o.1,HR.o];rfl,by rw[<-HV.o.2,HR.o,if_neg ω];exact RdR.xPs _ _,HAL.o.1⟩
   ·by_cases g2:(d.secs.length:Int)<=xa
    ·have HR:Hid (vW d l=1):=ι (by rw[HPE.o,if_pos (all_false HX.o (by rw[HF.o];simp;omega))]);clear HPE HF HWR;go_wp2;go_ret2;exact⟨_,by rw[<-HV.o.1,HR.o];rfl,by rw[<-HV.o.2,HR.o,if_neg ω];exact RdR.xPs _ _,HAL.o.1⟩
    ·by_cases g3:sb.size=64
     ·have g3i:(sb.size:Int)=64:=by omega
      have g3b:((sb.size:Int)!=64)=false:=by simp[g3i]
      have HO:=ι (xK8 HX.o (by rw[HF.o];simp;omega) hok.o);clear HF HX hok HPE;go_wp2;exact⟨⟨k+1,ω,by go_num,HAL,HO⟩,by simp[intOf];omega⟩
     ·have g3i:¬((sb.size:Int)=64):=by omega
      have g3b:((sb.size:Int)!=64)=true:=by simp[g3i]
      have HR:Hid (vW d l=1):=ι (by rw[HPE.o,if_pos (all_false HX.o (by rw[HF.o];simp;omega))]);clear HPE HF HWR;go_wp2;go_ret2;exact⟨_,by rw[<-HV.o.1,HR.o];rfl,by rw[<-HV.o.2,HR.o,if_neg ω];exact RdR.xPs _ _,HAL.o.1⟩
  ·obtain rfl:k=l.length:=by omega
   have HAL:=ι (all_true hok.o);have HLN:=ι (xK9 l HAL.o);rw[HAL.o,if_neg σ] at HPE;clear hok hlt
   by_cases h30:30<l.length
   ·have HR:Hid (vW d l=4):=ι (by rw[HPE.o,if_pos h30]);have yEs:30<(l.length:Int):=by omega
    clear HPE HWR;go_wp2;go_ret2;exact⟨_,by rw[<-HV.o.1,HR.o];rfl,by rw[<-HV.o.2,HR.o,if_neg ω];exact RdR.xPs _ _,HI.o.1⟩
   ·have HR:Hid (vW d l=0):=ι (by rw[HPE.o,if_neg h30]);have yEs:¬(30<(l.length:Int)):=by omega
    rw[HR.o,if_pos rfl] at HV;clear HPE HR;obtain⟨z,hzz,hmk⟩:=madeR tyOp wr (3*l.length+6) ω;rw[show((3*l.length+6:Nat):Int)=3*(l.length:Int)+6 by omega] at hmk;have hzs:=xG HI.o.2
    have HO2:Hid (xV 419 3 opF ((wr.alloc (.cells z 419)).alloc (.cells #[.pointer none,.slice none 0 0] 81)) (w.heap.size+1) (.slice (some ⟨wr.heap.size,0,none⟩) 0 (3*l.length+6)) (qJ 0 (l.take 0))/\
      PlM w (wr.heap.size+1) (.slice A1 d.secs.length c1) (.slice A2 d.cache.length c2) (xIi (l.take 0)) ((wr.alloc (.cells z 419)).alloc (.cells #[.pointer none,.slice none 0 0] 81))):=ι (by
     refine⟨(xV.room z wr _ ω ω hzz).alloc _,xK (xK HI.o.2 _) _,?_,ω,(HI.o.1.alloc HI.o.1.size _).alloc (by simp;omega) _⟩;have:=Lib.fresh_isBuilder 81 5 (wr.alloc (.cells z 419));rw[uX] at this;exact this)
    go_upto_region 13 with fail
    clear hmk hzz HI;obtain⟨bb,hbb⟩:∃bb,wr.heap.size+1=bb:=⟨_,rfl⟩;rw[hbb] at HO2⊢;generalize Value.slice (some ⟨wr.heap.size,0,none⟩) 0 (3*l.length+6)=ov at HO2⊢;generalize (wr.alloc (.cells z 419)).alloc (.cells #[.pointer none,.slice none 0 0] 81)=w2 at HO2⊢;clear hbb hzs
    go_wp2_with fail
    go_loopw [8,57] (λov iv wr=>∃k:Nat,k<=l.length/\iv=.int .i64 k/\Hid (xV 419 3 opF wr (w.heap.size+1) ov (qJ 0 (l.take k))/\PlM w bb (.slice A1 d.secs.length c1) (.slice A2 d.cache.length c2) (xIi (l.take k)) wr)) (λ_ iv _=>l.length- (intOf iv).toNat)
    case atStart=>exact⟨0,Nat.zero_le _,rfl,HO2⟩
    case round=>
     obtain⟨k,hk,rfl,HI⟩:=hrel;clear HO2
     by_cases hlt:k<l.length
     ·obtain⟨x,hx⟩:∃x,l[k]?=some x:=⟨_,List.getElem?_eq_getElem hlt⟩;obtain⟨b,off,rfl,hbw,q0,q1⟩:=yCw HWR.o hx;have q0:=(HI.o.2.bel.cell (p:=⟨b,off+k*2,none⟩) hbw).trans q0;have q1:=(HI.o.2.bel.cell (p:=⟨b,off+k*2+1,none⟩) hbw).trans q1
      have HSN:=ι (And.intro (xYm hx) (xWt hx))
      have HG:Hid (x.data.length=64/\(xIi (l.take k)).length<=100000/\(qJ 0 (l.take k)).length<=100000):=ι (by
       have g1:=List.all_eq_true.1 HAL.o x (List.mem_of_getElem? hx);have g2:=xK9 (l.take k) (List.all_eq_true.2 λy hy=>List.all_eq_true.1 HAL.o y (List.mem_of_mem_take hy));have g3:=List.length_take_le k l;unfold xOd at g1;simp at g1;exact⟨g1.2,ω,by rw[xFc];omega⟩)
      have HX2:Hid (PlX w bb (.slice A1 d.secs.length c1) (.slice A2 d.cache.length c2) (xIi (l.take k)) wr.heap.size x u8 (qJ 0 (l.take k)) (wr.alloc (.cells #[.int .i64 x.at_,xO x.data] 118))):=ι ⟨HI.o.2.below ((Below.refl _ _).alloc ν _),xL _ _,HI.o.1.alloc _⟩
      generalize xIi (l.take k)=bs at HX2 HSN HG;generalize qJ 0 (l.take k)=ops at HX2 HSN HG;obtain⟨xa,xd⟩:=x;simp only at q0 q1 HX2 HSN HG;clear hx HI;go_upto_region 16 with fail
      clear q0 q1;generalize wr.alloc (.cells #[.int .i64 xa,xO xd] 118)=w3 at HX2⊢;generalize wr.heap.size=xb at HX2⊢;obtain⟨x0,x1⟩:=zQ HX2.o.x;have HDS:=ι (yBj xa w3);have HDL:=ι (xMb xa);generalize xGm xa=ds at HDS HDL HSN;go_wp2_with fail
      refine HDS.o.mono ?_;rintro e w4 ⟨rfl,hb4⟩;have HX4:=ι (HX2.o.below hb4);clear HX2 hb4 x0 x1 HDS
      have HWS:=ι (xAd bb bb bs ⟨ds.toArray⟩ w4 HX4.o.m.bl (by have:=HG.o.2.1;have:=HDL.o;show bs.length+ds.toArray.size<=_;simp;omega) (Nat.le_of_lt (by obtain⟨cs,h⟩:=Bld.blk HX4.o.m.bl;exact xG h)));go_wp2_with fail
      refine HWS.o.mono ?_;rintro e w5 ⟨rfl,hl5,hb5,ht5⟩;have HX5:=ι (HX4.o.write hl5 hb5 ht5);rw[show bs++(⟨ds.toArray⟩:ByteArray).data.toList=bs++ds from rfl] at HX5;clear HX4 hl5 hb5 ht5 HWS;obtain⟨x0,x1⟩:=zQ HX5.o.x
      have HWS:=ι (xAd bb bb (bs++ds) ⟨xd.toArray⟩ w5 HX5.o.m.bl (by have:=HG.o.2.1;have:=HDL.o;have:=HG.o.1;show(bs++ds).length+xd.toArray.size<=_;simp;omega) (Nat.le_of_lt (by obtain⟨cs,h⟩:=Bld.blk HX5.o.m.bl;exact xG h)));go_wp2_with fail
      refine HWS.o.mono ?_;rintro e w6 ⟨rfl,hl6,hb6,ht6⟩;have HX6:=ι (HX5.o.write hl6 hb6 ht6);rw[show bs++ds++(⟨xd.toArray⟩:ByteArray).data.toList=bs++(ds++xd) from by rw[<-List.append_assoc]] at HX6;rw[<-HSN.o.1] at HX6;clear HX5 hl6 hb6 ht6 HWS x0 x1
      go_upto_region 19 with fail
      have HW1:=ι (λW=>xCd (1+2*(k:Int)) ⟨ds.toArray⟩ W);have HW2:=ι (λW=>xCd (2+2*(k:Int)) ⟨xd.toArray⟩ W);have HJL:Hid (ops.length<=100000):=ι HG.o.2.2;obtain⟨BS,hBS⟩:∃B,xIi (l.take (k+1))=B:=⟨_,rfl⟩;rw[hBS] at HX6 HSN;have b1:(k:Int)<=100000:=by omega
      refine RG.uB [14] [12,13] (λL α W=>Hid (PlM w bb (.slice A1 d.secs.length c1) (.slice A2 d.cache.length c2) BS W/\W.heap[xb]?=some (.cells #[.int .i64 xa,xO xd] 118 (0,0))/\
       (L 12=true->L 13=false->RdR 3 opF W W.heap.size (α 12) [wOp (1+2*(k:Int)) ds,wOp (2+2*(k:Int)) xd])/\(L 13=false->xV 419 3 opF W (w.heap.size+1) u8 ops)/\
       (L 13=true->xV 419 3 opF W (w.heap.size+1) (α 13) (ops++[wOp (1+2*(k:Int)) ds,wOp (2+2*(k:Int)) xd]))))
       (λL L' α α' W hl ha h=>ι ⟨h.o.1,h.o.2.1,λe12 e13=>by
        have f12:L 12=true:=by rw[hl 12 σ];exact e12
        rw[<-ha 12 σ f12];exact h.o.2.2.1 f12 (by rw[hl 13 σ];exact e13),λe13=>h.o.2.2.2.1 (by rw[hl 13 σ];exact e13),λe13=>by
        have f13:L 13=true:=by rw[hl 13 σ];exact e13
        rw[<-ha 13 σ f13];exact h.o.2.2.2.2 f13⟩) κ κ κ (ι ⟨HX6.o.drew.m,HX6.o.drew.x,λe=>(by cases e),λ_=>HX6.o.drew.o,λe=>(by cases e)⟩) ?_
      iterate 5 refine RG.vS ?_
      apply RG.uA
      ·rfl
      ·rfl
      ·intro α L w9 h0 hcl xN hw9;repeat go_step
       refine(HW1.o _).mono ?_;rintro e w10 ⟨rfl,zM⟩;simp only[];repeat go_step
       with_reducible refine RG.xD ?_
       exact ι ⟨hw9.o.1.below zM,xB hw9.o.2.1 zM (xG hw9.o.2.1),λe f=>((hw9.o.2.2.1 e f).below zM ν).more zM.size,λe=>(hw9.o.2.2.2.1 e).below zM,λe=>(hw9.o.2.2.2.2 e).below zM⟩
      ·intro α;rfl
      iterate 5 refine RG.vF (λα L w9 h0 hcl xN hw9=>zQ hw9.o.2.1) ?_
      apply RG.uA
      ·rfl
      ·rfl
      ·intro α L w9 h0 hcl xN hw9;repeat go_step
       refine(HW2.o _).mono ?_;rintro e w10 ⟨rfl,zM⟩;simp only[];repeat go_step
       with_reducible refine RG.xD ?_
       exact ι ⟨hw9.o.1.below zM,xB hw9.o.2.1 zM (xG hw9.o.2.1),λe f=>((hw9.o.2.2.1 e f).below zM ν).more zM.size,λe=>(hw9.o.2.2.2.1 e).below zM,λe=>(hw9.o.2.2.2.2 e).below zM⟩
      ·intro α;rfl
      apply RG.jC
      ·rfl
      ·intro α L w9 h0 hcl xN hw9;have h13:L 13=false:=hcl.not 8 (i:=13) h0 κ;refine⟨.slice (some ⟨w9.heap.size,0,none⟩) 2 2,λbv hbv=>?_⟩;repeat go_step
       rw[<-hbv];with_reducible refine RG.xD ?_
       exact ι ⟨hw9.o.1.below ((Below.refl _ _).alloc ν _),xK hw9.o.2.1 _,λ_ _=>by
        rw[show RG.wF α (0+1+1+1+1+1+1+1+1+1+1+1+1) bv 12=bv from RG.zF _ _ _,hbv,uX];exact RdR.lit (m:=[wOp (1+2*(k:Int)) ds,wOp (2+2*(k:Int)) xd]) xDr w9 _ rfl,λ_=>(hw9.o.2.2.2.1 h13).alloc _,λe=>by
        have:L 13=true:=by simpa using e
        rw[h13] at this;cases this⟩
      ·intro b α;rfl
      apply RG.jC
      ·rfl
      ·intro α L w9 h0 hcl xN hw9
       have h12:L 12=true:=by
        have:=xN.yes 8 (i:=13) (j:=12) σ κ;simpa using this
       obtain⟨v',w',hr,ha⟩:=xCq (P:=Tryz.prog) tyOp 346 (hw9.o.2.2.2.1 h0) (hw9.o.2.2.1 h12 h0) (by have:=HJL.o;simp;omega) (by have:=hw9.o.1.bel.size;have:=xG hw9.o.1.d;omega);refine⟨v',λbv hbv=>?_⟩;refine kX rfl _ _ rfl rfl rfl hr ?_;rw[<-hbv];repeat go_step
       with_reducible refine RG.xD ?_
       exact ι ⟨hw9.o.1.app (hw9.o.2.2.2.1 h0) ha,ha.keep hw9.o.2.1 (xV.neT (hw9.o.2.2.2.1 h0) hw9.o.2.1 δ),λ_ f=>by simp at f,λf=>by simp at f,λ_=>by
        rw[show RG.wF α (0+1+1+1+1+1+1+1+1+1+1+1+1+1) bv 13=bv from RG.zF _ _ _,hbv];exact ha.own⟩
      ·intro b α;rfl
      apply RG.xF2
      ·rfl
      ·kernel_rfl
      ·rfl
      ·intro α L w9 h0 hcl xN hw9;repeat go_step
       with_reducible refine RG.xD ?_
       exact ι ⟨hw9.o.1,hw9.o.2.1,λe f=>hw9.o.2.2.1 (by simpa using e) (by simpa using f),λe=>hw9.o.2.2.2.1 (by simpa using e),λe=>hw9.o.2.2.2.2 (by simpa using e)⟩
      ·intro α;rfl
      refine RG.pE (λα w9 hw9=>?_);have H9:Hid (xV 419 3 opF w9 (w.heap.size+1) (α 13) (qJ 0 (l.take (k+1)))/\PlM w bb (.slice A1 d.secs.length c1) (.slice A2 d.cache.length c2) (xIi (l.take (k+1))) w9):=ι ⟨by rw[HSN.o.2];exact hw9.o.2.2.2.2 rfl,by rw[hBS];exact hw9.o.1⟩
      clear HX6 HW1 HW2 HJL HSN HG HDL hw9 hBS;go_wp2;exact⟨⟨k+1,ω,by go_num,H9⟩,by simp[intOf];omega⟩
     ·obtain rfl:k=l.length:=by omega
      rw[List.take_length] at HI;clear hlt;have HWF:=ι (λW=>xR9 W);go_upto_region 21 with fail
      go_wp2_with fail
      refine(HWF.o _).mono ?_;rintro e w3 ⟨rfl,hb3⟩;have HI3:=ι (And.intro (HI.o.1.below hb3) (HI.o.2.below hb3));clear hb3 HI;have HST:=ι (Tryz.Builder_String_k bb bb (xIi l) w3 (Lib.IsBuilderF.of HI3.o.2.bl) (by intro e;have:=HLN.o;rw[e] at this;simp at this;omega))
      go_wp2_with fail
      refine HST.o.mono ?_;rintro e w4 ⟨rfl,_,hb4,ho4⟩
      have HI4:Hid (xV 419 3 opF w4 (w.heap.size+1) u8 (qJ 0 l)/\Below w.heap.size w w4):=ι (by
       obtain⟨cs,hbk⟩:=Bld.blk HI3.o.2.bl;exact⟨xV.byT HI3.o.1 (byT_of ho4) hbk δ δ,HI3.o.2.bel.trans (hb4.mono (Nat.le_of_lt HI3.o.2.lo))⟩)
      clear HST hb4 ho4 HI3;have HHD:=ι (xSx l.length ⟨(xIi l).toArray⟩ w4 ω (by have:=HLN.o;show(xIi l).toArray.size<=_;simp;omega) (HTT.o.below HI4.o.2 ν));rw[show(⟨(xIi l).toArray⟩:ByteArray).data.toList=xIi l from rfl] at HHD
      obtain⟨hd,hhd⟩:∃hd,xSy l.length (xIi l)=hd:=⟨_,rfl⟩;rw[hhd] at HHD;have HHE:=ι hhd;clear hhd;have HJL:Hid ((qJ 0 l).length<=1000):=ι (by rw[xFc];omega);have HWR2:=ι (λW=>xCd 0 ⟨hd.toArray⟩ W);go_wp2_with fail
      refine(HHD.o).mono ?_;rintro e w5 ⟨rfl,hb⟩;have HI5:=ι (And.intro (HI4.o.1.below hb) (HI4.o.2.trans (hb.mono HI4.o.2.size)));clear hb HI4 HHD;go_wp2_with fail
      refine(HWR2.o _).mono ?_;rintro e w6 ⟨rfl,hb⟩;have HI6:=ι (And.intro (HI5.o.1.below hb) (HI5.o.2.trans (hb.mono HI5.o.2.size)));clear hb HI5 HWR2;go_wp2_with fail
      refine(HWF.o _).mono ?_;rintro e w7 ⟨rfl,hb⟩;have HI7:=ι (And.intro (HI6.o.1.below hb) (HI6.o.2.trans (hb.mono HI6.o.2.size)));clear hb HI6 
      go_upto_region 22 with (at_builtin;refine zY tyOp rfl _ _ rfl rfl rfl (HI7.o.1.alloc _) (RdR.lit (m:=[fOp,wOp 0 hd,fOp]) xDr _ _ rfl) (by have:=HJL.o;simp;omega) (by have:=HI7.o.2.size;simp;omega) ?_;intro v8 w8 h8;have HA8:Hid (qP 419 3 opF (w7.alloc (.cells #[.bool true,.int .i64 0,.string ⟨#[]⟩,.bool false,.int .i64 0,.string ⟨hd.toArray⟩,.bool true,.int .i64 0,.string ⟨#[]⟩] 419)) w8 (w.heap.size+1) u8 v8 (qJ 0 l++[fOp,wOp 0 hd,fOp])):=ι h8;clear h8)
      have HI8:Hid (xV 419 3 opF w8 (w.heap.size+1) v8 (qJ 0 l++[fOp,wOp 0 hd,fOp]++(l.take 0).map (λx=>(⟨false,x⟩:Mailsack.Op)))/\Below w.heap.size w w8):=ι ⟨by simpa using HA8.o.own,HA8.o.bel (HI7.o.1.alloc _) ω (HI7.o.2.alloc HI7.o.2.size _) (by have:=HI7.o.2.size;simp;omega)⟩
      have HPL:Hid ((qJ 0 l++[fOp,wOp 0 hd,fOp]).length<=1010):=ι (by have:=HJL.o;simp;omega);have HPE2:Hid (jQ l=qJ 0 l++[fOp,wOp 0 hd,fOp]++l.map (λx=>(⟨false,x⟩:Mailsack.Op))++[fOp,wOp 0 (xQ 64),fOp]):=ι (by unfold jQ;rw[HHE.o])
      generalize qJ 0 l++[fOp,wOp 0 hd,fOp]=P0 at HI8 HPL HPE2;clear HA8 HI7 HJL HHE;go_wp2_with fail
      go_loopw [8,97] (λov iv wr=>∃k:Nat,k<=l.length/\iv=.int .i64 k/\Hid (xV 419 3 opF wr (w.heap.size+1) ov (P0++(l.take k).map (λx=>(⟨false,x⟩:Mailsack.Op)))/\Below w.heap.size w wr)) (λ_ iv _=>l.length- (intOf iv).toNat)
      case atStart=>exact⟨0,Nat.zero_le _,rfl,HI8⟩
      case round=>
       obtain⟨k,hk,rfl,HI⟩:=hrel;clear HI8
       by_cases hlt:k<l.length
       ·obtain⟨x,hx⟩:∃x,l[k]?=some x:=⟨_,List.getElem?_eq_getElem hlt⟩;obtain⟨b,off,rfl,hbw,q0,q1⟩:=yCw HWR.o hx;have q0:=(HI.o.2.cell (p:=⟨b,off+k*2,none⟩) hbw).trans q0;have q1:=(HI.o.2.cell (p:=⟨b,off+k*2+1,none⟩) hbw).trans q1;have HSN:=ι (xO2 hx)
        have HKL:Hid (((l.take k).map (λx=>(⟨false,x⟩:Mailsack.Op))).length<=1000):=ι (by have:=List.length_take_le k l;rw[List.length_map];omega);generalize (l.take k).map (λx=>(⟨false,x⟩:Mailsack.Op))=P1 at HI HSN HKL
        have HXA:=ι (And.intro (HI.o.1.alloc (.cells #[.int .i64 x.at_,xO x.data] 118)) (HI.o.2.alloc HI.o.2.size (.cells #[.int .i64 x.at_,xO x.data] 118)));have hxb:=xL wr (.cells #[.int .i64 x.at_,xO x.data] 118);obtain⟨x0,x1⟩:=zQ hxb;clear hx hxb HI
        go_upto_region 25 with fail
        clear q0 q1;generalize wr.alloc (.cells #[.int .i64 x.at_,xO x.data] 118)=w3 at HXA x0 x1⊢
        have HAD:∀v8 w8,qP 419 3 opF (w3.alloc (.cells #[.bool false,.int .i64 x.at_,xO x.data] 419)) w8 (w.heap.size+1) u8 v8 (P0++P1++[⟨false,x⟩])->Hid (xV 419 3 opF w8 (w.heap.size+1) v8 (P0++(l.take (k+1)).map (λx=>(⟨false,x⟩:Mailsack.Op)))/\Below w.heap.size w w8):=λv8 w8 h8=>ι ⟨by rw[HSN.o,<-List.append_assoc];exact h8.own,h8.bel (HXA.o.1.alloc _) ω (HXA.o.2.alloc HXA.o.2.size _) (by have:=HXA.o.2.size;simp;omega)⟩
        have HAH:=ι HAD;clear HAD
        go_wp2_with (at_builtin;refine zY tyOp rfl _ _ rfl rfl rfl (HXA.o.1.alloc _) (RdR.lit (m:=[(⟨false,x⟩:Mailsack.Op)]) xDr _ _ rfl) (by have:=HPL.o;have:=HKL.o;simp only[List.length_append,List.length_cons,List.length_nil];omega) (by have:=HXA.o.2.size;simp;omega) ?_;intro v8 w8 h8;have HA8:=HAH.o _ _ h8;clear h8)
        exact⟨⟨k+1,ω,by go_num,HA8⟩,by simp[intOf];omega⟩
       ·obtain rfl:k=l.length:=by omega
        rw[List.take_length] at HI;have HKL:Hid ((P0++l.map (λx=>(⟨false,x⟩:Mailsack.Op))).length<=2000):=ι (by have:=HPL.o;simp only[List.length_append,List.length_map];omega);rw[HPE2.o] at HV;generalize P0++l.map (λx=>(⟨false,x⟩:Mailsack.Op))=P2 at HI HKL HV;have HI3:=HI
        clear HI hlt HPE2 HPL HLN HAL HWR;go_upto_region 27 with fail
        go_wp2_with fail
        refine(HWF.o _).mono ?_;rintro e w4 ⟨rfl,hb⟩;have HI4:=ι (And.intro (HI3.o.1.below hb) (HI3.o.2.trans (hb.mono HI3.o.2.size)));clear hb HI3 ;have HZZ:=ι (xKj 64 w4 ω);obtain⟨zb,hzb⟩:∃z,xQ 64=z:=⟨_,rfl⟩;rw[hzb] at HZZ HV;clear hzb
        have HWR2:=ι (λW=>xCd 0 ⟨zb.toArray⟩ W);go_wp2_with fail
        refine(HZZ.o).mono ?_;rintro e w5 ⟨rfl,hb⟩;have HI5:=ι (And.intro (HI4.o.1.below hb) (HI4.o.2.trans (hb.mono HI4.o.2.size)));clear hb HI4 HZZ;go_wp2_with fail
        refine(HWR2.o _).mono ?_;rintro e w6 ⟨rfl,hb⟩;have HI6:=ι (And.intro (HI5.o.1.below hb) (HI5.o.2.trans (hb.mono HI5.o.2.size)));clear hb HI5 HWR2;go_wp2_with fail
        refine(HWF.o _).mono ?_;rintro e w7 ⟨rfl,hb⟩;have HI7:=ι (And.intro (HI6.o.1.below hb) (HI6.o.2.trans (hb.mono HI6.o.2.size)));clear hb HI6 HWF
        go_wp2_with (at_builtin;refine zY tyOp rfl _ _ rfl rfl rfl (HI7.o.1.alloc _) (RdR.lit (m:=[fOp,wOp 0 zb,fOp]) xDr _ _ rfl) (by have:=HKL.o;simp;omega) (by have:=HI7.o.2.size;simp;omega) ?_;intro v8 w8 h8;have HA8:Hid (qP 419 3 opF (w7.alloc (.cells #[.bool true,.int .i64 0,.string ⟨#[]⟩,.bool false,.int .i64 0,.string ⟨zb.toArray⟩,.bool true,.int .i64 0,.string ⟨#[]⟩] 419)) w8 (w.heap.size+1) u8 v8 (P2++[fOp,wOp 0 zb,fOp])):=ι h8;clear h8)
        go_ret2;refine⟨v8,by rw[<-HV.o.1];rfl,?_,HA8.o.bel (HI7.o.1.alloc _) ω (HI7.o.2.alloc HI7.o.2.size _) (by have:=HI7.o.2.size;simp;omega)⟩;rw[<-HV.o.2];exact HA8.o.own.rd xDr
theorem xNr (va vb lv:Value) (d:Dk) (l:List Wr) (w:World) (h:RdD w w.heap.size va vb d) (hl:RdW w w.heap.size lv l) (hll:l.length<=100000) (hT:wL w):
  Calls Tryz.prog 273 #[.agg #[va,vb],lv] w λe w'=>∃ov,e=.returned (.tuple #[ov,.int .i64 (vW d l)])/\RdR 3 opF w' w'.heap.size ov (if vW d l=0 then jQ l else[])/\Below w.heap.size w w':=by
 by_cases hs:xBs d=false∨l.length=0
 ·refine(xVt va vb lv d l w h hl hs).mono ?_;rintro e w' ⟨rfl,hb⟩;exact⟨_,by rw[xHy hs],by rw[xHy hs,if_neg ω];exact RdR.xPs _ _,hb⟩
 ·have h1:xBs d=true:=by
   cases e:xBs d with
   |true=>rfl
   |false=>exact absurd (.inl e) hs
  exact yA5 va vb lv d l w h hl hll h1 (λe=>hs (.inr e)) hT
theorem xNq {d:Dk} {l:List Wr} (h:vW d l=0):(jQ l).length<=100:=by
 have:l.length<=30:=by
  unfold vW at h;split at h
  ·omega
  ·split at h
   ·omega
   ·split at h<;>omega
 unfold jQ;simp[xFc];omega
structure CmM (w:World) (va vb:Value) (D:Dk) (W:World):Prop where
 d:W.heap[w.heap.size]?=some (xX va vb)
 o:W.heap[w.heap.size+1]?=some (xX (.slice none 0 0) (.slice none 0 0))
 rd:RdD W W.heap.size va vb D
 bel:Below w.heap.size w W
theorem CmM.below {w W W':World} {va vb:Value} {D:Dk} (h:CmM w va vb D W) (hb:Below W.heap.size W W'):CmM w va vb D W':=
 ⟨xB h.d hb (xG h.d),xB h.o hb (xG h.o),(h.rd.below hb ν).more hb.size,h.bel.trans (hb.mono h.bel.size)⟩
theorem xT7 (va vb lv:Value) (d:Dk) (l:List Wr) (w:World) (h:RdD w w.heap.size va vb d) (hl:RdW w w.heap.size lv l) (hll:l.length<=100000) (hc:d.cache.length<=10000) (hT:wL w):
  Calls Tryz.prog 190 #[.agg #[va,vb],lv] w λe w'=>∃va' vb',e=.returned (.tuple #[.agg #[va',vb'],.int .i64 (vW d l)])/\RdD w' w'.heap.size va' vb' (xB2 d l)/\Below w.heap.size w w':=by
 obtain⟨A1,c1,A2,c2,rfl,rfl⟩:=yE h;obtain⟨A3,c3,rfl,hc3,hl3⟩:=id hl
 have H0:Hid (CmM w (.slice A1 d.secs.length c1) (.slice A2 d.cache.length c2) d ((w.alloc (xX (.slice A1 d.secs.length c1) (.slice A2 d.cache.length c2))).alloc (xX (.slice none 0 0) (.slice none 0 0)))):=ι (by
  have hb:=((Below.refl w.heap.size w).alloc ν (xX (.slice A1 d.secs.length c1) (.slice A2 d.cache.length c2))).alloc σ (xX (.slice none 0 0) (.slice none 0 0));exact⟨zG _ _ _,yX _ _ _,(h.below hb ν).more hb.size,hb⟩)
 have HP:=ι (xNr _ _ (.slice A3 l.length c3) d l _ H0.o.rd ((hl.below H0.o.bel ν).more H0.o.bel.size) hll (hT.below H0.o.bel ν));have HCV:Hid (xB2 d l=if vW d l=0 then vR d (jQ l) else⟨[],[]⟩):=ι rfl;have HOL:Hid (vW d l=0->(jQ l).length<=100):=ι xNq;have HC:=ι hc
 obtain⟨cm,hcm⟩:∃c,xB2 d l=c:=⟨_,rfl⟩;rw[hcm] at HCV⊢;clear h hl hl3 hc3 hc hcm hll
 by_cases h0:vW d l=0
 ·rw[h0,if_pos rfl] at HP;rw[h0,if_pos rfl] at HCV;rw[h0];have HOL2:=ι (HOL.o h0);clear h0 HOL;go_enter Tryz.func190,Tryz.ntmps190;go_upto_region 1 with fail
  generalize (w.alloc (xX (.slice A1 d.secs.length c1) (.slice A2 d.cache.length c2))).alloc (xX (.slice none 0 0) (.slice none 0 0))=w1 at H0 HP⊢;obtain⟨d0,d1⟩:=zQ H0.o.d;go_wp2_with fail
  refine HP.o.mono ?_;rintro e w2 ⟨ov,rfl,hro,hb⟩;obtain⟨A4,c4,rfl,hc4,ho4⟩:=id hro;have H2:=ι (H0.o.below hb);have HRO:=ι hro;clear hb H0 HP d0 d1 hro ho4 hc4
  have HR:=ι (yDf _ _ (.slice A4 (jQ l).length c4) d (jQ l) ((jQ l).length:Int) w2 H2.o.rd HRO.o (by have:=HC.o;have:=HOL2.o;omega));rw[Int.toNat_natCast,List.take_length] at HR;rw[<-HCV.o] at HR;obtain⟨d0,d1⟩:=zQ H2.o.d;go_upto_region 4 with fail
  go_wp2_with fail
  refine HR.o.mono ?_;rintro e w3 ⟨ua,ub,rfl,hr,hb⟩;obtain⟨A5,c5,A6,c6,rfl,rfl⟩:=yE hr;have H3:=ι (H2.o.below hb);have HRR:=ι hr;clear hr hb H2 HR HRO d0 d1
  have hRD:RdD ((w3.setCell ⟨w.heap.size+1,0,none⟩ (.slice A5 cm.secs.length c5)).setCell ⟨w.heap.size+1,1,none⟩ (.slice A6 cm.cache.length c6)) w3.heap.size (.slice A5 cm.secs.length c5) (.slice A6 cm.cache.length c6) cm:=by
   have e0:=xY H3.o.o 0 (.slice A5 cm.secs.length c5);simp only[List.setIfInBounds_toArray,List.set_cons_zero] at e0;exact RdD.far (RdD.far HRR.o (p:=⟨w.heap.size+1,0,none⟩) (vH H3.o.o) _) (p:=⟨w.heap.size+1,1,none⟩) (vH e0) _
  have HRD:=ι hRD;clear hRD;obtain⟨o0,y0,f0,o1,y1,f1,HB⟩:=xMe H3.o.o H3.o.bel ω (.slice A5 cm.secs.length c5) (.slice A6 cm.cache.length c6) _ rfl;clear H3 HRR;go_wp2
  refine bodyPost_ret (v:=.tuple #[.agg #[.slice A5 cm.secs.length c5,.slice A6 cm.cache.length c6],.int .i64 0]) (by simp[results,Tryz.results190,go_sem,f0,f1]) rfl ?_;exact⟨_,_,rfl,by simpa[size_set] using HRD.o,HB.o⟩
 ·rw[if_neg h0] at HP HCV;obtain⟨pe,hpe⟩:∃pe,vW d l=pe:=⟨_,rfl⟩;rw[hpe] at HP h0⊢;have h0b:(pe==0)=false:=by simpa using h0
  have h0c:(pe !=0)=true:=by simpa using h0
  clear hpe HOL;go_enter Tryz.func190,Tryz.ntmps190;go_upto_region 1 with fail
  generalize (w.alloc (xX (.slice A1 d.secs.length c1) (.slice A2 d.cache.length c2))).alloc (xX (.slice none 0 0) (.slice none 0 0))=w1 at H0 HP⊢;obtain⟨d0,d1⟩:=zQ H0.o.d;go_wp2_with fail
  refine HP.o.mono ?_;rintro e w2 ⟨ov,rfl,hro,hb⟩;have H2:=ι (H0.o.below hb);clear hb H0 HP d0 d1 hro;obtain⟨o0,y0,f0,o1,y1,f1,HB⟩:=xMe H2.o.o H2.o.bel ω (.slice none 0 0) (.slice none 0 0) _ rfl;clear H2;go_wp2
  refine bodyPost_ret (v:=.tuple #[.agg #[.slice none 0 0,.slice none 0 0],.int .i64 pe]) (by simp[results,Tryz.results190,go_sem,f0,f1]) rfl ?_;refine⟨_,_,rfl,?_,HB.o⟩;rw[HCV.o];exact⟨⟨_,_,rfl,Nat.le_refl _,λh=>by simp at h⟩,RdW.xPs _ _,σ,σ⟩
end Go.Proofs.DS
namespace Mailsack
def xVf (S:List Bs) (x:Wr):List Bs:=S.set x.at_.toNat x.data
def xDc (S:List Bs) (C:List Wr):List Bs:=C.foldl xVf S
theorem xBj:∀(C:List Wr) (S:List Bs),(xDc S C).length=S.length
 |[],_=>rfl
 |x::C,S=>by
  show(xDc (xVf S x) C).length=_;rw[xBj C,xVf,List.length_set]
theorem xK6 (S:List Bs) (A B:List Wr):xDc S (A++B)=xDc (xDc S A) B:=by unfold xDc;rw[List.foldl_append]
theorem xI0 (C:List Wr) (S:List Bs):∀k,k<=C.length->rC (λ_=>true) C S k=xDc S (C.take k)
 |0,_=>rfl
 |k+1,h=>by
  unfold rC;rw[if_pos rfl,xI0 C S k ω,List.take_add_one,List.getElem?_eq_getElem ω,xK6];show _=xVf _ _;rw[wrD,List.getD_eq_getElem?_getD,List.getElem?_eq_getElem ω]
  rfl
theorem xM7 {d:Dk} (h:yZ d=true):yG d=⟨xDc d.secs d.cache,[]⟩:=by
 unfold yG;rw[if_pos h,xI0 _ _ _ ν,List.take_length]
theorem xCs {d:Dk}:yZ d=true↔1<=d.secs.length/\d.secs.length<=1024/\(∀s∈d.secs,s.length=64)/\∀x∈d.cache,tF x d.secs.length=true:=by
 unfold yZ;simp only[Bool.and_eq_true,decide_eq_true_eq,List.all_eq_true,and_assoc]
theorem yBb {x:Wr} {n:Nat}:tF x n=true↔0<=x.at_/\x.at_<n/\x.data.length=64:=by
 unfold tF;simp only[Bool.and_eq_true,decide_eq_true_eq,and_assoc]
theorem xRv {d:Dk} {x:Wr} (h:yZ d=true) (hx:tF x d.secs.length=true):yZ (yA1 d x)=true:=by
 rw[xCs] at h⊢;obtain⟨h1,h2,h3,h4⟩:=h;refine⟨h1,h2,h3,λy hy=>?_⟩;rcases List.mem_append.1 hy with hy|hy
 ·exact h4 y hy
 ·rw[List.mem_singleton.1 hy];exact hx
theorem xMk:∀(C:List Wr) (S:List Bs),(∀s∈S,s.length=64)->(∀x∈C,x.data.length=64)->∀s∈xDc S C,s.length=64
 |[],_,h,_=>h
 |x::C,S,h,hc=>by
  refine xMk C (xVf S x) (λs hs=>?_) (λy hy=>hc y (List.mem_cons_of_mem _ hy));rcases List.mem_or_eq_of_mem_set hs with hs|rfl
  ·exact h s hs
  ·exact hc x (List.mem_cons_self ..)
theorem rY {d:Dk} (h:yZ d=true):yZ (yG d)=true:=by
 rw[xM7 h];rw[xCs] at h⊢;obtain⟨h1,h2,h3,h4⟩:=h;refine⟨by rw[xBj];exact h1,by rw[xBj];exact h2,xMk _ _ h3 (λx hx=>(yBb.1 (h4 x hx)).2.2),σ⟩
theorem xT1 {d:Dk} (h:yZ d=true):(yG d).secs.length=d.secs.length:=by rw[xM7 h,xBj]
theorem rF {α:Type} (p:α->Bool):∀(l:List α),(jE p l=-1/\∀x∈l,p x=false)∨∃(i:Nat) (x:α),jE p l=i/\l[i]?=some x/\p x=true/\∀(j:Nat) y,j<i->l[j]?=some y->p y=false
 |[]=>.inl ⟨rfl,σ⟩
 |x::l=>by
  unfold jE;cases hx:p x with
  |true=>exact .inr ⟨0,x,σ,rfl,hx,λj y hj=>by omega⟩
  |false=>
   rw[if_neg σ];rcases rF p l with ⟨h,ha⟩|⟨i,y,h,h1,h2,h3⟩
   ·refine .inl ⟨by rw[h];rfl,λz hz=>?_⟩;rcases List.mem_cons.1 hz with rfl|hz
    ·exact hx
    ·exact ha z hz
   ·refine .inr ⟨i+1,y,by rw[h,if_neg ω];rfl,by simpa using h1,h2,λj z hj hz=>?_⟩;cases j with
    |zero=>simp at hz;subst hz;exact hx
    |succ j=>exact h3 j z ω (by simpa using hz)
theorem yEp {α:Type} {p:α->Bool} {l:List α} {i:Nat} {x:α} (h1:l[i]?=some x) (h2:p x=true) (h3:∀(j:Nat) y,j<i->l[j]?=some y->p y=false):jE p l=i:=by
 rcases rF p l with ⟨_,ha⟩|⟨k,y,h,k1,k2,k3⟩
 ·rw[ha x (List.mem_of_getElem? h1)] at h2;cases h2
 ·rw[h];rcases Nat.lt_trichotomy k i with hlt|rfl|hlt
  ·rw[h3 k y hlt k1] at k2;cases k2
  ·rfl
  ·rw[k3 i x hlt h1] at h2;cases h2
theorem xM3 {α:Type} {p:α->Bool} {l:List α} (h:∀x∈l,p x=false):jE p l=-1:=by
 rcases rF p l with ⟨h1,_⟩|⟨k,y,_,k1,k2,_⟩
 ·exact h1
 ·rw[h y (List.mem_of_getElem? k1)] at k2;cases k2
structure xQz (t:Slot):Prop where
 cls:t.cls<=1
 blk:t.blk<jT t.cls
 size:t.size<=xId t.cls
 n1:1<=t.name.length
 n2:t.name.length<=24
theorem xOt (c:Nat):xId c<=1024:=by unfold xId;split<;>omega
theorem xIg (c:Nat):jT c<=24:=by unfold jT;split<;>omega
theorem yBg {t:Slot} (h:t.used=true->t.name.length<=58):(xQh t).length=64:=by
 unfold xQh xS5;split
 ·rename_i hu
  have:=h hu;have e:(xZs t).length=6+t.name.length:=by simp[xZs];omega
  rw[List.length_append,zC];omega
 ·simp[xQ]
theorem xJz (s:Bs):xQk s=noSlot∨(xQk s).used=true/\xQz (xQk s):=by
 unfold xQk;split
 ·rename_i h
  split
  ·rename_i h2
   right
   unfold xPq at h;simp only[Bool.and_eq_true,decide_eq_true_eq] at h;obtain⟨⟨⟨⟨⟨h0,h1⟩,h3⟩,h4⟩,h5⟩,h6⟩:=h
   have hlen:s.length=64∨(qB s).name.length>58:=by
    by_cases hx:(qB s).name.length<=58
    ·left
     rw[h2];exact yBg (λ_=>hx)
    ·right;omega
   have hnl:(qB s).name.length<=bN s 5:=by simp[qB];omega
   have h64:s.length=64:=by rcases hlen with h|h;exact h;omega
   have hn:(qB s).name.length=bN s 5:=by simp[qB,h64];omega
   exact⟨rfl,⟨h1,h3,h4,ω,ω⟩⟩
  ·exact .inl rfl
 ·exact .inl rfl
theorem pX (S:List Bs) (k:Nat):(yR S)[k]?=if k<32 then(S[61+k]?).map xQk else none:=by
 unfold yR;rw[List.getElem?_map,List.getElem?_take];split
 ·rw[List.getElem?_drop]
 ·rfl
theorem kQ {S:List Bs} (h:S.length=381):(yR S).length=32:=by simp[yR,h]
theorem yBc {c b:Nat} (h:b<jT c):kP c b+countP c<=381:=by
 unfold kP countP;unfold jT at h;split<;>simp_all<;>omega
theorem yA6 {s:Bs} {n:Nat} (h:s.length<=n):(xS5 s n).length=n:=by simp[xS5,zC];omega
theorem xYa {c:Nat} (h:c<=1):xId c=countP c*64:=by
 unfold xId countP;rcases(show c=0∨c=1 by omega) with rfl|rfl<;>rfl
theorem swap_perm (h:List Nat) (i j:Nat) (hi:i<h.length) (hj:j<h.length):((h.set i (h.getD j 0)).set j (h.getD i 0)).Perm h:=by
 rw[List.getD_eq_getElem?_getD,List.getD_eq_getElem?_getD,List.getElem?_eq_getElem hi,List.getElem?_eq_getElem hj];simp only[Option.getD_some];exact List.set_set_perm hi hj
theorem xE4 (n:Nat):∀(f i:Nat) (h:List Nat),n<=h.length->i<h.length->(vX h n f i).Perm h
 |0,_,_,_,_=>List.Perm.refl _
 |f+1,i,h,hn,hi=>by
  unfold vX;split
  ·exact List.Perm.refl _
  ·rename_i hj
   simp only;generalize hje:(if 2*i+2<n/\h.getD (2*i+2) 0<h.getD (2*i+1) 0 then 2*i+2 else 2*i+1)=j
   have hjl:j<h.length:=by
    rw[<-hje];split<;>omega
   split
   ·refine(xE4 n f j _ (by simpa using hn) (by simpa using hjl)).trans (swap_perm h i j hi hjl)
   ·exact List.Perm.refl _
theorem xE5 (n:Nat):∀(f i:Nat) (h:List Nat) (k:Nat),n<=k->i<n->(vX h n f i)[k]?=h[k]?
 |0,_,_,_,_,_=>rfl
 |f+1,i,h,k,hk,hi=>by
  unfold vX;split
  ·rfl
  ·rename_i hj
   simp only;generalize hje:(if 2*i+2<n/\h.getD (2*i+2) 0<h.getD (2*i+1) 0 then 2*i+2 else 2*i+1)=j
   have hjl:j<n:=by
    rw[<-hje];split<;>omega
   split
   ·rw[xE5 n f j _ k hk hjl,List.getElem?_set_ne ω,List.getElem?_set_ne ω]
   ·rfl
theorem xI7:∀(i:Nat) (h:List Nat),i<=h.length->(xLy h i).Perm h
 |0,_,_=>List.Perm.refl _
 |i+1,h,hi=>by
  unfold xLy;have hp:=xE4 h.length h.length i h ν ω;exact(xI7 i _ (by rw[hp.length_eq];omega)).trans hp
theorem xSv (h:List Nat):(xSw h).Perm h:=xI7 _ _ ω
theorem xPm {h:List Nat} (h0:h.length≠0):(h.getD 0 0::xH0 h).Perm h:=by
 unfold xH0;generalize hg:(h.set 0 (h.getD (h.length-1) 0)).set (h.length-1) (h.getD 0 0)=g;have hgp:g.Perm h:=by rw[<-hg];exact swap_perm h 0 (h.length-1) ω ω
 have hgl:g.length=h.length:=hgp.length_eq;have hd:=xE4 (h.length-1) (h.length-1) 0 g ω ω
 have hlast:(vX g (h.length-1) (h.length-1) 0)[h.length-1]?=some (h.getD 0 0):=by
  by_cases h1:h.length=1
  ·have hk:vX g (h.length-1) (h.length-1) 0=g:=by rw[h1];rfl
   rw[hk,<-hg,List.getElem?_set_self (by simp;omega)]
  ·rw[xE5 _ _ _ _ _ ν ω,<-hg,List.getElem?_set_self (by simp;omega)]
 generalize vX g (h.length-1) (h.length-1) 0=e at hd hlast;have hel:e.length=h.length:=hd.length_eq.trans hgl;have hne:e≠[]:=by intro e0;subst e0;simp at hel;omega
 have hgl2:e.getLast hne=h.getD 0 0:=by
  rw[<-hel,<-List.getLast?_eq_getElem?,List.getLast?_eq_some_getLast hne] at hlast;injection hlast
 have hsplit:=List.dropLast_concat_getLast hne;rw[hgl2] at hsplit;refine List.Perm.trans ?_ (hd.trans hgp);refine List.Perm.trans ?_ (List.Perm.of_eq hsplit);exact(List.perm_append_singleton _ _).symm
theorem yDp {h:List Nat} (h0:h.length≠0):(xH0 h).length+1=h.length:=by
 have:=(xPm h0).length_eq;simpa using this
theorem xI3 {n:Bs} {t:Slot}:xEh n t=true↔t.used=true/\t.name=n:=by simp[xEh]
theorem xDx (l:List Slot) (n:Bs):(rG l n=-1/\∀t∈l,t.used=true->t.name≠n)∨∃(i:Nat) (t:Slot),rG l n=i/\l[i]?=some t/\t.used=true/\t.name=n/\i<l.length:=by
 rcases rF (xEh n) l with ⟨h,ha⟩|⟨i,t,h,h1,h2,_⟩
 ·refine .inl ⟨h,λt ht hu he=>?_⟩;have:=ha t ht;rw[xI3.2 ⟨hu,he⟩] at this;cases this
 ·obtain⟨a,b⟩:=xI3.1 h2;exact .inr ⟨i,t,h,h1,a,b,(List.getElem?_eq_some_iff.1 h1).1⟩
theorem xRm {l:List Slot} {i:Nat} {t:Slot} (h:l[i]?=some t):xHr l (i:Int)=t:=by
 unfold xHr;rw[List.getD_eq_getElem?_getD,Int.toNat_natCast,h]
 rfl
theorem xLb (s:StS) (c:Nat):(xJ4 s c).writes=s.writes:=by unfold xJ4;split<;>rfl
end Mailsack
/- Contracts of functions. Conditions: as stated. -/
import Derived.Test.YtacahegificeoaaGreatDoorImapLoginsProofB32
set_option maxHeartbeats 8000000
set_option maxRecDepth 100000
namespace Go.Proofs.ST
open Go.RowKit Mailsack MM BB SH SV RK DS AL
def yCu (w:World) (K:StL) (s:StS) (c:Ch) (W:World):Prop:=∃wv',StM w K wv' wv' (if xGq s c=0 then xK2 s c else s) W
theorem xTb (w:World) (K:StL) (wv:Value) (s:StS) (c:Ch) (W:World) (h:StM w K wv wv s W) (hw:s.writes.length<=9000):
  Calls Tryz.prog 272 #[.pointer (some ⟨K.gs,0,none⟩),chV c] W λe W'=>e=.returned (.int .i64 (xGq s c))/\yCu w K s c W':=by
 have H0:Hid (ChM w K wv s c W.heap.size (W.alloc (chO c))):=ι ⟨h.below ((Below.refl _ _).alloc ν _),xL _ _,h.o6⟩;have HW:=ι hw
 have HCE:Hid (xGq s c=if c.name.length<1∨24<c.name.length then 1 else if c.gone=true then(if rG s.slots c.name<0 then 6 else 0) else if 1024<c.data.length then 4 else if xEf s.slots c.name<0 then 5 else if (s.free (vZ c.data)).length=0 then 5 else 0):=ι rfl
 have HPO:Hid (∀W',(∃wv',StM w K wv' wv' (if xGq s c=0 then xK2 s c else s) W')->yCu w K s c W'):=ι λ_ h=>h;obtain⟨ce,hce⟩:∃ce,xGq s c=ce:=⟨_,rfl⟩;rw[hce] at HCE HPO⊢;obtain⟨bx,hbx⟩:∃bx,W.heap.size=bx:=⟨_,rfl⟩;rw[hbx] at H0;have HBX:=ι hbx;clear h hw hce hbx
 by_cases hn:c.name.length<1∨24<c.name.length
 ·have HC:Hid (ce=1):=ι (by rw[HCE.o,if_pos hn]);have c0:=xQn H0.o.c;rw[HC.o,if_neg ω] at HPO;clear HCE
  by_cases h1:c.name.length<1
  ·have i1:(c.name.length:Int)<1:=by omega
   clear hn h1;go_enter Tryz.func272,Tryz.ntmps272;go_upto_region 1 with fail
   rw[HBX.o];go_wp2;go_ret;exact⟨by rw[HC.o];rfl,HPO.o _ ⟨_,H0.o.m⟩⟩
  ·have i1:¬((c.name.length:Int)<1):=by omega
   have i2:24<(c.name.length:Int):=by omega
   clear hn h1;go_enter Tryz.func272,Tryz.ntmps272;go_upto_region 1 with fail
   rw[HBX.o];go_wp2;go_ret;exact⟨by rw[HC.o];rfl,HPO.o _ ⟨_,H0.o.m⟩⟩
 ·have i1:¬((c.name.length:Int)<1):=by omega
  have i2:¬(24<(c.name.length:Int)):=by omega
  have HNL:Hid (c.name.length<=24):=ι ω;rw[if_neg hn] at HCE;clear hn;have c0:=xQn H0.o.c;have HFI:=ι (λW (h:ChM w K wv s c bx W)=>xFe (.slice (some ⟨K.gl,0,none⟩) 32 32) s.slots c.name W h.slots (by rw[h.m.len];omega));go_enter Tryz.func272,Tryz.ntmps272
  go_upto_region 1 with fail
  rw[HBX.o];go_upto_region 3 with fail
  clear c0 i1 i2;generalize W.alloc (.cells #[xO c.name,xO c.data,.bool c.gone] 113)=w1 at H0⊢;refine RG.xP (λW=>Hid (ChM w K wv s c bx W)) κ κ (ι H0.o.drew) ?_
  iterate 6
   apply RG.xJ
   ·intro w9 hw9;have hb:=hw9.o.m.st;have s0:=xA hb 0;have hc:=hw9.o.c;have c0:=xA hc 0;simp only[gA,gC] at s0 c0;repeat go_step
    with_reducible exact RG.xD hw9
   ·rfl
  apply RG.xJ
  ·intro w9 hw9;repeat go_step
   refine(HFI.o _ hw9.o).mono ?_;rintro e w10 ⟨rfl,zM⟩;simp only[];repeat go_step
   with_reducible refine RG.xD ?_
   exact ι (hw9.o.below zM)
  ·rfl
  refine RG.dS ?_;refine RG.xS (λw3 hw3=>?_);clear H0 HFI HBX;have c2:=xA hw3.o.c 2;simp only[gA,gB,gC] at c2;cases hg:c.gone with
  |true=>
   rw[hg] at c2;rw[hg,if_pos rfl] at HCE;have HGO:Hid (xK2 s c=putAt s (rG s.slots c.name).toNat noSlot):=ι (by unfold xK2;rw[hg,if_pos rfl]);rcases xDx s.slots c.name with ⟨f1,_⟩|⟨i,t,f1,f2,_,_,f5⟩
   ·rw[f1];rw[f1,if_pos ω] at HCE;have HC:=HCE;rw[HC.o,if_neg ω] at HPO;clear f1 hg HGO HCE;go_wp2;go_ret;exact⟨by rw[HC.o];rfl,HPO.o _ ⟨_,hw3.o.m⟩⟩
   ·rw[f1];rw[f1,if_neg ω] at HCE;rw[f1,Int.toNat_natCast] at HGO;have HC:=HCE;rw[HC.o,if_pos rfl,HGO.o] at HPO;have HST:=ι (xFu w K wv s i noSlot w3 hw3.o.m (by rw[hw3.o.m.len] at f5;exact f5) δ δ δ δ (by have:=HW.o;omega))
    rw[show xGz noSlot=.agg #[.bool false,.int .i64 0,.int .i64 0,.int .i64 0,.string ⟨#[]⟩] from rfl] at HST;clear f1 f2 f5 hg HGO HCE;go_wp2_with fail
    refine HST.o.mono ?_;rintro e w4 ⟨rfl,hp⟩;have HP:=ι hp;clear hp c2 HST;go_wp2;go_ret;exact⟨by rw[HC.o];rfl,HPO.o _ HP.o⟩
  |false=>
   rw[hg] at c2;rw[hg,if_neg σ] at HCE;have c1:=xA hw3.o.c 1;simp only[gA,gB,gC] at c1
   have HGO:Hid (xK2 s c=putAt {xJ4 s (vZ c.data) with writes:=(xJ4 s (vZ c.data)).writes++xAi (vZ c.data) ((s.free (vZ c.data)).getD 0 0) c.data} (xEf s.slots c.name).toNat (pI c ((s.free (vZ c.data)).getD 0 0))):=ι (by unfold xK2;rw[hg,if_neg σ]);clear hg
   by_cases hd:1024<c.data.length
   ·have hdi:1024<(c.data.length:Int):=by omega
    rw[if_pos hd] at HCE;have HC:=HCE;rw[HC.o,if_neg ω] at HPO;clear hd HGO HCE;go_wp2;go_ret;exact⟨by rw[HC.o];rfl,HPO.o _ ⟨_,hw3.o.m⟩⟩
   ·have hdi:¬(1024<(c.data.length:Int)):=by omega
    rw[if_neg hd] at HCE;have HDL:Hid (c.data.length<=1024):=ι ω;clear hd;have HPL:Hid (xEf s.slots c.name=if rG s.slots c.name<0 then jE (λt=>!t.used) s.slots else rG s.slots c.name):=ι rfl
    have HPC:Hid ((xEf s.slots c.name=-1)∨∃i:Nat,xEf s.slots c.name=i/\i<32):=ι (by
     have hl:=hw3.o.m.len;unfold xEf;split
     ·rcases rF (λt:Slot=>!t.used) s.slots with ⟨g,_⟩|⟨k,t,g1,g2,_⟩
      ·exact .inl g
      ·exact .inr ⟨k,g1,by have:=(List.getElem?_eq_some_iff.1 g2).1;omega⟩
     ·rcases xDx s.slots c.name with ⟨g,_⟩|⟨k,t,g1,_,_,_,g5⟩
      ·omega
      ·exact .inr ⟨k,g1,ω⟩)
    by_cases hf:rG s.slots c.name<0
    ·rw[if_pos hf] at HPL;have HIF:=ι (xM0 347 #[] (λt=>!t.used) (.slice (some ⟨K.gl,0,none⟩) 32 32) s.slots w3 hw3.o.slots (by rw[hw3.o.m.len];omega) (λargs W=>enters_of Tryz.func347 κ rfl args W) (λt W _=>xXe t W));rw[<-HPL.o] at HIF;have hs0:=xQn hw3.o.m.st
     go_wp2_with fail
     refine HIF.o.mono ?_;rintro e w5 ⟨rfl,hb5⟩;have H5:=ι (hw3.o.below hb5);clear hb5 HIF hs0 c1 c2 hdi hf hw3 HPL;rcases HPC.o with hpl|⟨i,hpl,hi⟩
     ·rw[hpl];rw[hpl,if_pos ω] at HCE;have HC:=HCE;rw[HC.o,if_neg ω] at HPO;clear hpl HGO HCE;go_wp2;go_ret;exact⟨by rw[HC.o];rfl,HPO.o _ ⟨_,H5.o.m⟩⟩
     ·rw[hpl];rw[hpl,if_neg ω] at HCE;rw[hpl,Int.toNat_natCast] at HGO;clear hpl HPC;have HI:=ι hi;clear hi;go_upto_region 16 with fail
      have HCA:=ι (λW=>tX 0 W);rw[show(xId 0:Int)=256 from rfl] at HCA;refine RG.xP (λW=>Hid (ChM w K wv s c bx W)) κ κ (ι H5.o.drew) ?_
      iterate 3
       apply RG.xJ
       ·intro w9 hw9;have hc:=hw9.o.c;have c1:=xA hc 1;simp only[gA,gB,gC] at c1;repeat go_step
        with_reducible exact RG.xD hw9
       ·rfl
      apply RG.xJ
      ·intro w9 hw9;repeat go_step
       refine(HCA.o _).mono ?_;rintro e w10 ⟨rfl,rfl⟩;simp only[];repeat go_step
       with_reducible exact RG.xD hw9
      ·rfl
      refine RG.dS ?_;refine RG.xS (λw6 hw6=>?_);clear H5 HCA;have c1:=xA hw6.o.c 1;simp only[gA,gB,gC] at c1
      by_cases hcl:256<c.data.length
      ·have HCL:Hid (vZ c.data=1):=ι (by unfold vZ;rw[if_pos hcl]);rw[HCL.o] at HCE HGO;have yEr:256<(c.data.length:Int):=by omega
       have s2:=xA hw6.o.m.st 2;simp only[gA,gB,gC] at s2;clear hcl;rw[show s.free 1=s.xAu from rfl] at HCE HGO;rw[show xJ4 s 1={s with xAu:=xH0 s.xAu} from rfl] at HGO;cases hfr:s.xAu with
       |nil=>
        rw[hfr,if_pos (show([]:List Nat).length=0 from rfl)] at HCE;have HC:=HCE;rw[HC.o,if_neg ω] at HPO;have hpm:=hw6.o.m.p1;rw[hfr] at hpm;have HTK:=ι (xCj K.lo1 K.hi1 K.gp1 12 w6 hpm);clear hfr hpm HGO HCE;go_wp2_with fail
        refine HTK.o.mono ?_;rintro e w7 ⟨rfl,hw7⟩;rw[hw7];clear hw7 w7;go_wp2;go_ret;exact⟨by rw[HC.o];rfl,HPO.o _ ⟨_,hw6.o.m⟩⟩
       |cons x fl=>
        rw[hfr,if_neg σ] at HCE;rw[hfr] at HGO;have HC:=HCE;rw[HC.o,if_pos rfl,HGO.o] at HPO;have hpm:=hw6.o.m.p1;rw[hfr] at hpm
        have HXB:Hid (x<12):=ι (by
         obtain⟨_,_,_,_,_,_,_,_,_,_,_,_,h8,_⟩:=hpm;exact h8 x (List.mem_cons_self ..))
        have HTK:=ι (xF5 K.lo1 K.hi1 K.gp1 12 x fl w6 hpm);clear hfr hpm HGO HCE;go_wp2_with fail
        refine HTK.o.mono ?_;rintro e w7 ⟨rfl,hp7,ht7⟩;have H7:=ι (hw6.o.pop1 hp7 ht7);clear hp7 ht7 HTK c1 s2 hw6 yEr;have c1:=xA H7.o.c 1;simp only[gA,gB,gC] at c1
        have HFL:=ι (tQ w K wv {s with xAu:=xH0 (x::fl)} 1 x c.data w7 H7.o.m ω (by have:=HXB.o;omega) (by show c.data.length<=1024;have:=HDL.o;omega) (by show s.writes.length<=_;have:=HW.o;omega));rw[show(((1:Nat)):Int)=1 from rfl] at HFL;go_upto_region 21 with fail
        go_wp2_with fail
        refine HFL.o.mono ?_;rintro e w8 ⟨rfl,⟨uv,hm8⟩,hk8⟩;have HB8:=ι (hk8 _ _ _ _ H7.o.c δ H7.o.lo)
        have HST:=ι (xFu w K uv {s with xAu:=xH0 (x::fl),writes:=s.writes++xAi 1 x c.data} i (pI c x) w8 hm8 HI.o (by show vZ c.data<=255;rw[HCL.o];omega) (by show x<=255;have:=HXB.o;omega) (by show c.data.length<=65535;have:=HDL.o;omega) (by show c.name.length<=255;have:=HNL.o;omega) (by show(s.writes++xAi 1 x c.data).length<=_;rw[List.length_append,xAx];have:=HW.o;have h16:countP 1<=16:=δ;omega))
        rw[show xGz (pI c x)=.agg #[.bool true,.int .i64 (vZ c.data:Nat),.int .i64 x,.int .i64 (c.data.length:Nat),xO c.name] from rfl,HCL.o] at HST;rw[show(((1:Nat)):Int)=1 from rfl] at HST;clear hm8 hk8 HFL H7 c1;have c1:=xA HB8.o 1;have c0:=xA HB8.o 0
        simp only[gA,gB,gC] at c0 c1;go_upto_region 22 with fail
        go_wp2_with fail
        refine HST.o.mono ?_;rintro e w9 ⟨rfl,hp⟩;have HP:=ι hp;clear hp c0 c1 HST;go_wp2;go_ret;exact⟨by rw[HC.o];rfl,HPO.o _ HP.o⟩
      ·have HCL:Hid (vZ c.data=0):=ι (by unfold vZ;rw[if_neg hcl]);rw[HCL.o] at HCE HGO;have HCLB:Hid (c.data.length<=256):=ι ω;have yEr:¬(256<(c.data.length:Int)):=by omega
       have s2:=xA hw6.o.m.st 1;simp only[gA,gB,gC] at s2;clear hcl;rw[show s.free 0=s.xAv from rfl] at HCE HGO;rw[show xJ4 s 0={s with xAv:=xH0 s.xAv} from rfl] at HGO;cases hfr:s.xAv with
       |nil=>
        rw[hfr,if_pos (show([]:List Nat).length=0 from rfl)] at HCE;have HC:=HCE;rw[HC.o,if_neg ω] at HPO;have hpm:=hw6.o.m.p0;rw[hfr] at hpm;have HTK:=ι (xCj K.lo0 K.hi0 K.gp0 24 w6 hpm);clear hfr hpm HGO HCE;go_wp2_with fail
        refine HTK.o.mono ?_;rintro e w7 ⟨rfl,hw7⟩;rw[hw7];clear hw7 w7;go_wp2;go_ret;exact⟨by rw[HC.o];rfl,HPO.o _ ⟨_,hw6.o.m⟩⟩
       |cons x fl=>
        rw[hfr,if_neg σ] at HCE;rw[hfr] at HGO;have HC:=HCE;rw[HC.o,if_pos rfl,HGO.o] at HPO;have hpm:=hw6.o.m.p0;rw[hfr] at hpm
        have HXB:Hid (x<24):=ι (by
         obtain⟨_,_,_,_,_,_,_,_,_,_,_,_,h8,_⟩:=hpm;exact h8 x (List.mem_cons_self ..))
        have HTK:=ι (xF5 K.lo0 K.hi0 K.gp0 24 x fl w6 hpm);clear hfr hpm HGO HCE;go_wp2_with fail
        refine HTK.o.mono ?_;rintro e w7 ⟨rfl,hp7,ht7⟩;have H7:=ι (hw6.o.pop0 hp7 ht7);clear hp7 ht7 HTK c1 s2 hw6 yEr;have c1:=xA H7.o.c 1;simp only[gA,gB,gC] at c1
        have HFL:=ι (tQ w K wv {s with xAv:=xH0 (x::fl)} 0 x c.data w7 H7.o.m ω (by have:=HXB.o;omega) (by show c.data.length<=256;have:=HCLB.o;omega) (by show s.writes.length<=_;have:=HW.o;omega));rw[show(((0:Nat)):Int)=0 from rfl] at HFL;go_upto_region 21 with fail
        go_wp2_with fail
        refine HFL.o.mono ?_;rintro e w8 ⟨rfl,⟨uv,hm8⟩,hk8⟩;have HB8:=ι (hk8 _ _ _ _ H7.o.c δ H7.o.lo)
        have HST:=ι (xFu w K uv {s with xAv:=xH0 (x::fl),writes:=s.writes++xAi 0 x c.data} i (pI c x) w8 hm8 HI.o (by show vZ c.data<=255;rw[HCL.o];omega) (by show x<=255;have:=HXB.o;omega) (by show c.data.length<=65535;have:=HDL.o;omega) (by show c.name.length<=255;have:=HNL.o;omega) (by show(s.writes++xAi 0 x c.data).length<=_;rw[List.length_append,xAx];have:=HW.o;have h16:countP 0<=16:=δ;omega))
        rw[show xGz (pI c x)=.agg #[.bool true,.int .i64 (vZ c.data:Nat),.int .i64 x,.int .i64 (c.data.length:Nat),xO c.name] from rfl,HCL.o] at HST;rw[show(((0:Nat)):Int)=0 from rfl] at HST;clear hm8 hk8 HFL H7 c1;have c1:=xA HB8.o 1;have c0:=xA HB8.o 0
        simp only[gA,gB,gC] at c0 c1;go_upto_region 22 with fail
        go_wp2_with fail
        refine HST.o.mono ?_;rintro e w9 ⟨rfl,hp⟩;have HP:=ι hp;clear hp c0 c1 HST;go_wp2;go_ret;exact⟨by rw[HC.o];rfl,HPO.o _ HP.o⟩
    ·rw[if_neg hf] at HPL;have H5:=hw3;rw[<-HPL.o] at hf⊢;clear hw3 HPL;go_upto_region 13 with fail
     clear c1 c2 hdi hf;obtain⟨w5,hw5⟩:∃w5,w5=w3:=⟨_,rfl⟩;rw[<-hw5] at H5⊢;clear hw5;rcases HPC.o with hpl|⟨i,hpl,hi⟩
     ·rw[hpl];rw[hpl,if_pos ω] at HCE;have HC:=HCE;rw[HC.o,if_neg ω] at HPO;clear hpl HGO HCE;go_wp2;go_ret;exact⟨by rw[HC.o];rfl,HPO.o _ ⟨_,H5.o.m⟩⟩
     ·rw[hpl];rw[hpl,if_neg ω] at HCE;rw[hpl,Int.toNat_natCast] at HGO;clear hpl HPC;have HI:=ι hi;clear hi;go_upto_region 16 with fail
      have HCA:=ι (λW=>tX 0 W);rw[show(xId 0:Int)=256 from rfl] at HCA;refine RG.xP (λW=>Hid (ChM w K wv s c bx W)) κ κ (ι H5.o.drew) ?_
      iterate 3
       apply RG.xJ
       ·intro w9 hw9;have hc:=hw9.o.c;have c1:=xA hc 1;simp only[gA,gB,gC] at c1;repeat go_step
        with_reducible exact RG.xD hw9
       ·rfl
      apply RG.xJ
      ·intro w9 hw9;repeat go_step
       refine(HCA.o _).mono ?_;rintro e w10 ⟨rfl,rfl⟩;simp only[];repeat go_step
       with_reducible exact RG.xD hw9
      ·rfl
      refine RG.dS ?_;refine RG.xS (λw6 hw6=>?_);clear H5 HCA;have c1:=xA hw6.o.c 1;simp only[gA,gB,gC] at c1
      by_cases hcl:256<c.data.length
      ·have HCL:Hid (vZ c.data=1):=ι (by unfold vZ;rw[if_pos hcl]);rw[HCL.o] at HCE HGO;have yEr:256<(c.data.length:Int):=by omega
       have s2:=xA hw6.o.m.st 2;simp only[gA,gB,gC] at s2;clear hcl;rw[show s.free 1=s.xAu from rfl] at HCE HGO;rw[show xJ4 s 1={s with xAu:=xH0 s.xAu} from rfl] at HGO;cases hfr:s.xAu with
       |nil=>
        rw[hfr,if_pos (show([]:List Nat).length=0 from rfl)] at HCE;have HC:=HCE;rw[HC.o,if_neg ω] at HPO;have hpm:=hw6.o.m.p1;rw[hfr] at hpm;have HTK:=ι (xCj K.lo1 K.hi1 K.gp1 12 w6 hpm);clear hfr hpm HGO HCE;go_wp2_with fail
        refine HTK.o.mono ?_;rintro e w7 ⟨rfl,hw7⟩;rw[hw7];clear hw7 w7;go_wp2;go_ret;exact⟨by rw[HC.o];rfl,HPO.o _ ⟨_,hw6.o.m⟩⟩
       |cons x fl=>
        rw[hfr,if_neg σ] at HCE;rw[hfr] at HGO;have HC:=HCE;rw[HC.o,if_pos rfl,HGO.o] at HPO;have hpm:=hw6.o.m.p1;rw[hfr] at hpm
        have HXB:Hid (x<12):=ι (by
         obtain⟨_,_,_,_,_,_,_,_,_,_,_,_,h8,_⟩:=hpm;exact h8 x (List.mem_cons_self ..))
        have HTK:=ι (xF5 K.lo1 K.hi1 K.gp1 12 x fl w6 hpm);clear hfr hpm HGO HCE;go_wp2_with fail
        refine HTK.o.mono ?_;rintro e w7 ⟨rfl,hp7,ht7⟩;have H7:=ι (hw6.o.pop1 hp7 ht7);clear hp7 ht7 HTK c1 s2 hw6 yEr;have c1:=xA H7.o.c 1;simp only[gA,gB,gC] at c1
        have HFL:=ι (tQ w K wv {s with xAu:=xH0 (x::fl)} 1 x c.data w7 H7.o.m ω (by have:=HXB.o;omega) (by show c.data.length<=1024;have:=HDL.o;omega) (by show s.writes.length<=_;have:=HW.o;omega));rw[show(((1:Nat)):Int)=1 from rfl] at HFL;go_upto_region 21 with fail
        go_wp2_with fail
        refine HFL.o.mono ?_;rintro e w8 ⟨rfl,⟨uv,hm8⟩,hk8⟩;have HB8:=ι (hk8 _ _ _ _ H7.o.c δ H7.o.lo)
        have HST:=ι (xFu w K uv {s with xAu:=xH0 (x::fl),writes:=s.writes++xAi 1 x c.data} i (pI c x) w8 hm8 HI.o (by show vZ c.data<=255;rw[HCL.o];omega) (by show x<=255;have:=HXB.o;omega) (by show c.data.length<=65535;have:=HDL.o;omega) (by show c.name.length<=255;have:=HNL.o;omega) (by show(s.writes++xAi 1 x c.data).length<=_;rw[List.length_append,xAx];have:=HW.o;have h16:countP 1<=16:=δ;omega))
        rw[show xGz (pI c x)=.agg #[.bool true,.int .i64 (vZ c.data:Nat),.int .i64 x,.int .i64 (c.data.length:Nat),xO c.name] from rfl,HCL.o] at HST;rw[show(((1:Nat)):Int)=1 from rfl] at HST;clear hm8 hk8 HFL H7 c1;have c1:=xA HB8.o 1;have c0:=xA HB8.o 0
        simp only[gA,gB,gC] at c0 c1;go_upto_region 22 with fail
        go_wp2_with fail
        refine HST.o.mono ?_;rintro e w9 ⟨rfl,hp⟩;have HP:=ι hp;clear hp c0 c1 HST;go_wp2;go_ret;exact⟨by rw[HC.o];rfl,HPO.o _ HP.o⟩
      ·have HCL:Hid (vZ c.data=0):=ι (by unfold vZ;rw[if_neg hcl]);rw[HCL.o] at HCE HGO;have HCLB:Hid (c.data.length<=256):=ι ω;have yEr:¬(256<(c.data.length:Int)):=by omega
       have s2:=xA hw6.o.m.st 1;simp only[gA,gB,gC] at s2;clear hcl;rw[show s.free 0=s.xAv from rfl] at HCE HGO;rw[show xJ4 s 0={s with xAv:=xH0 s.xAv} from rfl] at HGO;cases hfr:s.xAv with
       |nil=>
        rw[hfr,if_pos (show([]:List Nat).length=0 from rfl)] at HCE;have HC:=HCE;rw[HC.o,if_neg ω] at HPO;have hpm:=hw6.o.m.p0;rw[hfr] at hpm;have HTK:=ι (xCj K.lo0 K.hi0 K.gp0 24 w6 hpm);clear hfr hpm HGO HCE;go_wp2_with fail
        refine HTK.o.mono ?_;rintro e w7 ⟨rfl,hw7⟩;rw[hw7];clear hw7 w7;go_wp2;go_ret;exact⟨by rw[HC.o];rfl,HPO.o _ ⟨_,hw6.o.m⟩⟩
       |cons x fl=>
        rw[hfr,if_neg σ] at HCE;rw[hfr] at HGO;have HC:=HCE;rw[HC.o,if_pos rfl,HGO.o] at HPO;have hpm:=hw6.o.m.p0;rw[hfr] at hpm
        have HXB:Hid (x<24):=ι (by
         obtain⟨_,_,_,_,_,_,_,_,_,_,_,_,h8,_⟩:=hpm;exact h8 x (List.mem_cons_self ..))
        have HTK:=ι (xF5 K.lo0 K.hi0 K.gp0 24 x fl w6 hpm);clear hfr hpm HGO HCE;go_wp2_with fail
        refine HTK.o.mono ?_;rintro e w7 ⟨rfl,hp7,ht7⟩;have H7:=ι (hw6.o.pop0 hp7 ht7);clear hp7 ht7 HTK c1 s2 hw6 yEr;have c1:=xA H7.o.c 1;simp only[gA,gB,gC] at c1
        have HFL:=ι (tQ w K wv {s with xAv:=xH0 (x::fl)} 0 x c.data w7 H7.o.m ω (by have:=HXB.o;omega) (by show c.data.length<=256;have:=HCLB.o;omega) (by show s.writes.length<=_;have:=HW.o;omega));rw[show(((0:Nat)):Int)=0 from rfl] at HFL;go_upto_region 21 with fail
        go_wp2_with fail
        refine HFL.o.mono ?_;rintro e w8 ⟨rfl,⟨uv,hm8⟩,hk8⟩;have HB8:=ι (hk8 _ _ _ _ H7.o.c δ H7.o.lo)
        have HST:=ι (xFu w K uv {s with xAv:=xH0 (x::fl),writes:=s.writes++xAi 0 x c.data} i (pI c x) w8 hm8 HI.o (by show vZ c.data<=255;rw[HCL.o];omega) (by show x<=255;have:=HXB.o;omega) (by show c.data.length<=65535;have:=HDL.o;omega) (by show c.name.length<=255;have:=HNL.o;omega) (by show(s.writes++xAi 0 x c.data).length<=_;rw[List.length_append,xAx];have:=HW.o;have h16:countP 0<=16:=δ;omega))
        rw[show xGz (pI c x)=.agg #[.bool true,.int .i64 (vZ c.data:Nat),.int .i64 x,.int .i64 (c.data.length:Nat),xO c.name] from rfl,HCL.o] at HST;rw[show(((0:Nat)):Int)=0 from rfl] at HST;clear hm8 hk8 HFL H7 c1;have c1:=xA HB8.o 1;have c0:=xA HB8.o 0
        simp only[gA,gB,gC] at c0 c1;go_upto_region 22 with fail
        go_wp2_with fail
        refine HST.o.mono ?_;rintro e w9 ⟨rfl,hp⟩;have HP:=ι hp;clear hp c0 c1 HST;go_wp2;go_ret;exact⟨by rw[HC.o];rfl,HPO.o _ HP.o⟩
end Go.Proofs.ST
namespace Mailsack
theorem xMg:∀(l:List Ch) (s:StS) (c:Ch),(uS s l).2=0->uS s (l++[c])=if xGq (uS s l).1 c=0 then(xK2 (uS s l).1 c,0) else((uS s l).1,xGq (uS s l).1 c)
 |[],s,c,_=>by
  show(if xGq s c=0 then uS (xK2 s c) [] else(s,xGq s c))=if xGq s c=0 then(xK2 s c,0) else(s,xGq s c)
  rfl
 |x::l,s,c,h=>by
  unfold uS at h
  by_cases hx:xGq s x=0
  ·rw[if_pos hx] at h;have ih:=xMg l (xK2 s x) c h;show(if xGq s x=0 then uS (xK2 s x) (l++[c]) else(s,xGq s x))=_
   have e:uS s (x::l)=uS (xK2 s x) l:=by
    show(if xGq s x=0 then uS (xK2 s x) l else(s,xGq s x))=_;rw[if_pos hx]
   rw[if_pos hx,ih,e]
  ·rw[if_neg hx] at h;exact absurd h hx
theorem xQm:∀(l:List Ch) (s:StS) (k:Nat),(uS s (l.take k)).2≠0->(uS s l).2=(uS s (l.take k)).2
 |l,s,0,h=>absurd rfl h
 |[],s,k+1,h=>absurd rfl h
 |x::l,s,k+1,h=>by
  rw[List.take_succ_cons] at h⊢;unfold uS at h⊢
  by_cases hx:xGq s x=0
  ·rw[if_pos hx] at h;rw[if_pos hx,if_pos hx];exact xQm l (xK2 s x) k h
  ·rw[if_neg hx,if_neg hx]
theorem yAf (s:StS) (c:Ch):(xK2 s c).writes.length<=s.writes.length+17:=by
 have h16:∀k,countP k<=16:=λk=>by unfold countP;split<;>omega
 unfold xK2;split
 ·simp[putAt]
 ·have:=h16 (vZ c.data);simp[putAt,xLb,xAi];omega
theorem xZj {S:List Bs} {c x:Nat} (h:x∈uE (yR S) c):x<jT c:=by
 unfold uE at h;obtain⟨t,ht,rfl⟩:=List.mem_map.1 h;obtain⟨h1,h2⟩:=List.mem_filter.1 ht;simp only[Bool.and_eq_true,beq_iff_eq] at h2;obtain⟨i,hi⟩:=List.mem_iff_getElem?.1 h1;rw[pX] at hi;split at hi
 ·obtain⟨s,_,rfl⟩:=Option.map_eq_some_iff.1 hi;rcases xJz s with e|⟨_,h3⟩
  ·rw[e] at h2;cases h2.1
  ·have:=h3.blk;rw[h2.2] at this;exact this
 ·cases hi
end Mailsack
namespace Go.Proofs.ST
open Go.RowKit Mailsack MM BB SH SV RK DS AL
abbrev chF (c:Ch):List Value:=[xO c.name,xO c.data,.bool c.gone]
structure Ps0 (w:World) (gl gs:Nat) (ts:List Slot) (W:World):Prop where
 st:W.heap[gs]?=some (.cells #[.slice (some ⟨gl,0,none⟩) 32 32,.pointer none,.pointer none,.slice none 0 0] 342 (0,0))
 sl:kN 137 qC W gl ts
 bel:Below w.heap.size w W
 o0:w.heap.size<=gl
 o1:gl<gs
structure Ps1 (w:World) (gl gs gp0 lo0 hi0:Nat) (ts:List Slot) (W:World):Prop where
 st:W.heap[gs]?=some (.cells #[.slice (some ⟨gl,0,none⟩) 32 32,.pointer (some ⟨gp0,0,none⟩),.pointer none,.slice none 0 0] 342 (0,0))
 sl:kN 137 qC W gl ts
 p0:pU W lo0 hi0 gp0 24 (xDv 24 (uE ts 0))
 bel:Below w.heap.size w W
 o0:w.heap.size<=gl
 o1:gl<gs
 o2:gs<lo0
 o3:lo0<=hi0
 o4:hi0<=W.heap.size
def PsM (w:World) (gl gs:Nat) (sl:List Slot) (k:Nat) (W:World):Prop:=
 (k=0/\Ps0 w gl gs sl W)∨(k=1/\∃gp0 lo0 hi0,Ps1 w gl gs gp0 lo0 hi0 sl W)∨
 (k=2/\∃K:StL,K.gl=gl/\K.gs=gs/\StM w K (.slice none 0 0) (.slice none 0 0) ⟨sl,xDv 24 (uE sl 0),xDv 12 (uE sl 1),[]⟩ W)
theorem Ps0.below {w W W':World} {gl gs:Nat} {sl:List Slot} (h:Ps0 w gl gs sl W) (hb:Below W.heap.size W W'):Ps0 w gl gs sl W':=
 ⟨xB h.st hb (xG h.st),h.sl.below hb,h.bel.trans (hb.mono h.bel.size),h.o0,h.o1⟩
theorem Ps1.below {w W W':World} {gl gs gp0 lo0 hi0:Nat} {sl:List Slot} (h:Ps1 w gl gs gp0 lo0 hi0 sl W) (hb:Below W.heap.size W W'):Ps1 w gl gs gp0 lo0 hi0 sl W':=
 ⟨xB h.st hb (xG h.st),h.sl.below hb,h.p0.below hb,h.bel.trans (hb.mono h.bel.size),h.o0,h.o1,h.o2,h.o3,Nat.le_trans h.o4 hb.size⟩
theorem Ps0.pool {w W W':World} {gl gs gp:Nat} {sl:List Slot} (h:Ps0 w gl gs sl W) (hb:Below W.heap.size W W') (hp:pU W' W.heap.size W'.heap.size gp 24 (xDv 24 (uE sl 0))):
  Ps1 w gl gs gp W.heap.size W'.heap.size sl (W'.setCell ⟨gs,1,none⟩ (.pointer (some ⟨gp,0,none⟩))):=by
 have h':=h.below hb;have hlt:=xG h.st;have:=h.o0;have:=h.o1;have e1:=xY h'.st 1 (.pointer (some ⟨gp,0,none⟩));simp only[List.setIfInBounds_toArray,List.set_cons_zero,List.set_cons_succ] at e1
 exact⟨e1,yA h'.sl.blk (p:=⟨gs,1,none⟩) (by show gl≠gs;omega) _,hp.kept λq o hq h1 h2=>yA hq (p:=⟨gs,1,none⟩) (by show q≠gs;omega) _,h'.bel.setCell (p:=⟨gs,1,none⟩) (by show w.heap.size<=gs;omega) _,h.o0,h.o1,hlt,hb.size,by rw[size_set];exact Nat.le_refl _⟩
theorem Ps1.pool {w W W':World} {gl gs gp0 lo0 hi0 gp:Nat} {sl:List Slot} (h:Ps1 w gl gs gp0 lo0 hi0 sl W) (hl:sl.length=32) (hb:Below W.heap.size W W') (hp:pU W' W.heap.size W'.heap.size gp 12 (xDv 12 (uE sl 1))):
  StM w ⟨gl,gs,gp0,lo0,hi0,gp,W.heap.size,W'.heap.size⟩ (.slice none 0 0) (.slice none 0 0) ⟨sl,xDv 24 (uE sl 0),xDv 12 (uE sl 1),[]⟩ (W'.setCell ⟨gs,2,none⟩ (.pointer (some ⟨gp,0,none⟩))):=by
 have h':=h.below hb;have hlt:=xG h.st;have:=h.o0;have:=h.o1;have:=h.o2;have e1:=xY h'.st 2 (.pointer (some ⟨gp,0,none⟩));simp only[List.setIfInBounds_toArray,List.set_cons_zero,List.set_cons_succ] at e1
 exact⟨e1,yA h'.sl.blk (p:=⟨gs,2,none⟩) (by show gl≠gs;omega) _,h'.p0.kept λq o hq h1 h2=>yA hq (p:=⟨gs,2,none⟩) (by show q≠gs;omega) _,hp.kept λq o hq h1 h2=>yA hq (p:=⟨gs,2,none⟩) (by show q≠gs;omega) _,xV.nil _ _,hl,h'.bel.setCell (p:=⟨gs,2,none⟩) (by show w.heap.size<=gs;omega) _,h.o0,h.o1,h.o2,h.o3,h.o4,hb.size,by rw[size_set];exact Nat.le_refl _⟩
theorem xR3 (va vb lv:Value) (d:Dk) (l:List Ch) (w:World) (h:RdD w w.heap.size va vb d) (hl:RdR 3 chF w w.heap.size lv l) (hll:l.length<=500):
  Calls Tryz.prog 189 #[.agg #[va,vb],lv] w λe w'=>∃v,e=.returned (.tuple #[v,.int .i64 (wN d l)])/\RdW w' w'.heap.size v (wB d l)/\Below w.heap.size w w':=by
 obtain⟨A1,c1,A2,c2,rfl,rfl⟩:=yE h;obtain⟨A3,c3,rfl,hc3,hl3⟩:=hl;have HL:=ι hl3;have HA:=ι ((Below.refl w.heap.size w).alloc ν (xX (.slice A1 d.secs.length c1) (.slice A2 d.cache.length c2)));have hD0:=xL w (xX (.slice A1 d.secs.length c1) (.slice A2 d.cache.length c2))
 obtain⟨d0,d1⟩:=zQ hD0;clear hD0 hl3 hc3;have HCT:=ι (xB1 _ _ d _ ((h.below HA.o ν).more HA.o.size));have HE:Hid (wN d l=if vY d=true then(if (uS (stS d) l).2=0 then(if 30<(uS (stS d) l).1.writes.length then 4 else 0) else(uS (stS d) l).2) else 1):=ι rfl
 have HG:Hid (wB d l=if wN d l=0 then(uS (stS d) l).1.writes else[]):=ι rfl;have HFL:Hid (vY d=true->(yG d).secs.length=381/\∀s∈(yG d).secs,s.length=64):=ι xJr;have HCP:Hid (∀v W,xR1 d v W->vY d=true->RdS W W.heap.size v (yG d).secs):=ι (λv W h=>h)
 have HSD:Hid (stS d=⟨yR (yG d).secs,xDv 24 (uE (yR (yG d).secs) 0),xDv 12 (uE (yR (yG d).secs) 1),[]⟩):=ι rfl;have HLL:=ι hll;obtain⟨we,hwe⟩:∃we,wN d l=we:=⟨_,rfl⟩;obtain⟨wp,hwp⟩:∃wp,wB d l=wp:=⟨_,rfl⟩;rw[hwe] at HE HG;rw[hwp] at HG;rw[hwe,hwp];clear hwe hwp h;cases hc:vY d with
 |false=>
  rw[hc] at HCT HE;rw[if_neg σ] at HE;rw[HE.o,if_neg ω] at HG;clear hc HFL HCP;go_enter Tryz.func189,Tryz.ntmps189;go_wp2_with fail
  refine HCT.o.mono ?_;rintro e w1 ⟨v,rfl,_,hb⟩;have HB:=ι (HA.o.trans (hb.mono HA.o.size));clear hb HA HCT d0 d1;go_wp2;go_ret2;exact⟨_,by rw[HE.o];rfl,by rw[HG.o];exact RdW.xPs _ _,HB.o⟩
 |true=>
  have qG:=ι (HFL.o hc);have xTs:=ι (λv W h=>HCP.o v W h hc);rw[hc] at HCT HE;rw[if_pos rfl] at HE;clear hc HFL HCP;generalize stS d=s0 at HE HG HSD;generalize (yG d).secs=S at qG xTs HSD;go_enter Tryz.func189,Tryz.ntmps189;go_wp2_with fail
  refine HCT.o.mono ?_;rintro e w1 ⟨v,rfl,hct,hb⟩;have HB1:=ι (HA.o.trans (hb.mono HA.o.size));have HSO:=ι (xFs v S w1 (xTs.o v w1 hct) qG.o.1 qG.o.2);obtain⟨A5,c5,rfl,_⟩:=xTs.o v w1 hct;clear hct hb HCT xTs d0 d1 HA;go_wp2_with fail
  refine HSO.o.mono ?_;rintro e w2 ⟨gl,rfl,hgl,hsl,hb2⟩;have HS2:=ι (show kN 137 qC w2 gl (yR S)/\Below w.heap.size w w2/\w.heap.size<=gl from⟨hsl,HB1.o.trans (hb2.mono HB1.o.size),Nat.le_trans HB1.o.size hgl⟩);have HTL:=ι (λc x (h:x∈uE (yR S) c)=>xZj h);have HSL:=ι (kQ qG.o.1)
  have HTN:=ι (λc=>xKs (yR S) c 32);clear hsl hb2 hgl HSO HB1 qG;generalize yR S=sl at HS2 HSD HTL HSL HTN
  have HP0:Hid (PsM w gl w2.heap.size sl 0 (w2.alloc (.cells #[.slice (some ⟨gl,0,none⟩) 32 32,.pointer none,.pointer none,.slice none 0 0] 342))):=ι (.inl ⟨rfl,xL _ _,xK HS2.o.1.blk _,HS2.o.2.1.alloc HS2.o.2.1.size _,HS2.o.2.2,xG HS2.o.1.blk⟩);go_upto_region 5 with fail
  generalize w2.alloc (.cells #[.slice (some ⟨gl,0,none⟩) 32 32,.pointer none,.pointer none,.slice none 0 0] 342)=w3 at HP0⊢;obtain⟨gs,hgs⟩:∃gs,w2.heap.size=gs:=⟨_,rfl⟩;rw[hgs] at HP0⊢;clear hgs HS2;have HBK:=ι (λ(c:Nat) W=>xBh c W);go_wp2_with fail
  go_loopw [23] (λiv wr=>∃k:Nat,k<=2/\iv=.int .i64 k/\Hid (PsM w gl gs sl k wr)) (λiv _=>2- (intOf iv).toNat)
  case atStart=>exact⟨0,ω,rfl,HP0⟩
  case round=>
   obtain⟨k,hk,rfl,HI⟩:=hrel;clear HP0
   by_cases hlt:k<2
   ·rcases(show k=0∨k=1 by omega) with rfl|rfl
    ·have HI0:Hid (Ps0 w gl gs sl wr):=ι (by
      rcases HI.o with ⟨_,h⟩|⟨h,_⟩|⟨h,_⟩
      ·exact h
      ·omega
      ·omega)
     have HTK:=ι (xKt gs gl 0 sl wr (by have:=xA HI0.o.st 0;simpa using this) HI0.o.sl HSL.o (xG HI0.o.st));have HB0:=ι (λW=>xBh 0 W);rw[show((jT 0:Nat):Int)=24 from rfl] at HB0;clear HI hk hlt;go_wp2_with fail
     refine(HB0.o _).mono ?_;rintro e w4 ⟨rfl,hw4⟩;rw[hw4];clear hw4 w4;go_wp2_with fail
     refine HTK.o.mono ?_;rintro e w5 ⟨tv,rfl,hrt,hb5⟩;have HI5:=ι (HI0.o.below hb5);have HNW:=ι (xQv 24 (uE sl 0) tv w5 ω hrt (λx hx=>HTL.o 0 x hx) (by have:=HTN.o 0;rw[List.take_of_length_le (by rw[HSL.o];omega)] at this;omega));rw[show(((24:Nat)):Int)=24 from rfl] at HNW
     obtain⟨A6,c6,rfl,_⟩:=hrt;clear hb5 HTK HB0 HI0;go_wp2_with fail
     refine HNW.o.mono ?_;rintro e w6 ⟨gp,rfl,hp6,hb6⟩;have HI6:=ι (And.intro (HI5.o.pool hb6 hp6) (HI5.o.below hb6).st);clear hp6 hb6 HNW HI5;have s1:=xA HI6.o.2 1;have y1:=xC HI6.o.2 1;simp only[gA,gB,gC] at s1;go_wp2
     exact⟨⟨1,ω,by go_num,ι (.inr (.inl ⟨rfl,_,_,_,HI6.o.1⟩))⟩,by simp[intOf]⟩
    ·obtain⟨gp0,lo0,hi0,HI0⟩:∃gp0 lo0 hi0,Hid (Ps1 w gl gs gp0 lo0 hi0 sl wr):=by
      rcases HI.o with ⟨h,_⟩|⟨_,gp0,lo0,hi0,h⟩|⟨h,_⟩
      ·omega
      ·exact⟨gp0,lo0,hi0,ι h⟩
      ·omega
     have HTK:=ι (xKt gs gl 1 sl wr (by have:=xA HI0.o.st 0;simpa using this) HI0.o.sl HSL.o (xG HI0.o.st));rw[show(((1:Nat)):Int)=1 from rfl] at HTK;have HB0:=ι (λW=>xBh 1 W);rw[show((jT 1:Nat):Int)=12 from rfl,show(((1:Nat)):Int)=1 from rfl] at HB0;clear HI hk hlt
     go_wp2_with fail
     refine(HB0.o _).mono ?_;rintro e w4 ⟨rfl,hw4⟩;rw[hw4];clear hw4 w4;go_wp2_with fail
     refine HTK.o.mono ?_;rintro e w5 ⟨tv,rfl,hrt,hb5⟩;have HI5:=ι (HI0.o.below hb5);have HNW:=ι (xQv 12 (uE sl 1) tv w5 ω hrt (λx hx=>HTL.o 1 x hx) (by have:=HTN.o 1;rw[List.take_of_length_le (by rw[HSL.o];omega)] at this;omega));rw[show(((12:Nat)):Int)=12 from rfl] at HNW
     obtain⟨A6,c6,rfl,_⟩:=hrt;clear hb5 HTK HB0 HI0;go_wp2_with fail
     refine HNW.o.mono ?_;rintro e w6 ⟨gp,rfl,hp6,hb6⟩;have HI6:=ι (And.intro (HI5.o.pool HSL.o hb6 hp6) (HI5.o.below hb6).st);clear hp6 hb6 HNW HI5;have s1:=xA HI6.o.2 2;have y1:=xC HI6.o.2 2;simp only[gA,gB,gC] at s1;go_wp2
     exact⟨⟨2,ω,by go_num,ι (.inr (.inr ⟨rfl,_,rfl,rfl,HI6.o.1⟩))⟩,by simp[intOf]⟩
   ·obtain rfl:k=2:=by omega
    rw[show(((2:Nat)):Int)=2 from rfl]
    obtain⟨K,hK,HK⟩:∃K:StL,K.gs=gs/\Hid (StM w K (.slice none 0 0) (.slice none 0 0) s0 wr):=by
     rcases HI.o with ⟨h,_⟩|⟨h,_⟩|⟨_,K,_,h2,h3⟩
     ·omega
     ·omega
     ·exact⟨K,h2,ι (by rw[HSD.o];exact h3)⟩
    subst hK;clear HI hlt hk HBK HTL HTN HSL;go_wp2_with fail
    go_loopw [37] (λiv wr=>∃(k:Nat) (uv:Value),k<=l.length/\iv=.int .i64 k/\Hid ((uS s0 (l.take k)).2=0/\(uS s0 (l.take k)).1.writes.length<=17*k/\StM w K uv uv (uS s0 (l.take k)).1 wr)) (λiv _=>l.length- (intOf iv).toNat)
    case atStart=>exact⟨0,_,Nat.zero_le _,rfl,ι ⟨rfl,by show s0.writes.length<=_;rw[HSD.o];exact Nat.le_refl _,HK.o⟩⟩
    case round=>
     obtain⟨k,uv,hk,rfl,HI⟩:=hrel;clear HK
     by_cases hlt:k<l.length
     ·obtain⟨x,hx⟩:∃x,l[k]?=some x:=⟨_,List.getElem?_eq_getElem hlt⟩;obtain⟨b,off,rfl,hb,hcell⟩:=HL.o ω;have q:=λi u hu=>(HI.o.2.2.bel.cell (p:=⟨b,off+k*3+i,none⟩) hb).trans (hcell k x hx i u hu);have q0:wr.cell? ⟨b,off+k*3,none⟩=some (xO x.name):=q 0 _ rfl
      have q1:wr.cell? ⟨b,off+k*3+1,none⟩=some (xO x.data):=q 1 _ rfl;have q2:wr.cell? ⟨b,off+k*3+2,none⟩=some (.bool x.gone):=q 2 _ rfl
      have HSN:Hid (uS s0 (l.take (k+1))=if xGq (uS s0 (l.take k)).1 x=0 then(xK2 (uS s0 (l.take k)).1 x,0) else((uS s0 (l.take k)).1,xGq (uS s0 (l.take k)).1 x)):=ι (by
       rw[List.take_add_one,hx];exact xMg _ _ _ HI.o.1)
      have HBD:=ι (xQm l s0 (k+1));have HI2:=ι (And.intro HI.o.2.1 (HI.o.2.2.below ((Below.refl wr.heap.size wr).alloc ν (chO x))));have hbx:=xL wr (chO x);obtain⟨x0,x1,x2⟩:=xH1 hbx;generalize (uS s0 (l.take k)).1=sk at HSN HI2;clear q hcell hbx hx HI
      have HCH:=ι (xTb w K uv sk x _ HI2.o.2 (by have:=HI2.o.1;have:=HLL.o;omega));go_wp2_with fail
      refine HCH.o.mono ?_;rintro e w7 ⟨rfl,hp7⟩;have HP7:=ι hp7;clear hp7 HCH q0 q1 q2 x0 x1 x2
      by_cases hce:xGq sk x=0
      ·obtain⟨uv',hm⟩:=HP7.o;rw[if_pos hce] at hm HSN;rw[hce];have HM:=ι (And.intro hm (Nat.le_trans (yAf sk x) (by have:=HI2.o.1;exact Nat.add_le_add_right this 17)));clear hm hce HP7 HBD;go_wp2
       exact⟨⟨k+1,uv',ω,by go_num,ι ⟨by rw[HSN.o],by rw[HSN.o];have:=HM.o.2;show(xK2 sk x).writes.length<=_;omega,by rw[HSN.o];exact HM.o.1⟩⟩,by simp[intOf];omega⟩
      ·obtain⟨uv',hm⟩:=HP7.o;rw[if_neg hce] at hm HSN;obtain⟨ee,hee⟩:∃ee,xGq sk x=ee:=⟨_,rfl⟩;rw[hee] at hce HSN;rw[hee]
       have HEE:Hid (we=ee):=ι (by
        have:=HBD.o (by rw[HSN.o];exact hce);rw[HSN.o] at this;rw[HE.o,this,if_neg hce])
       have HGG:Hid (wp=[]):=ι (by rw[HG.o,HEE.o,if_neg hce]);have HM:=ι hm.bel;have hc1:(ee==0)=false:=by simpa using hce
       have hc2:(ee !=0)=true:=by simpa using hce
       clear hm hee HP7 HBD HSN HE HG;go_wp2;go_ret2;exact⟨_,by rw[HEE.o];rfl,by rw[HGG.o];exact RdW.xPs _ _,HM.o⟩
     ·obtain rfl:k=l.length:=by omega
      rw[List.take_length] at HI;rw[if_pos HI.o.1] at HE;obtain⟨A8,c8,huv,hle8⟩:=HI.o.2.2.wr.form;have hb:=HI.o.2.2.st;have s3:=xA hb 3;simp only[gA,gB,gC] at s3;have HM:=ι HI.o.2.2;generalize (uS s0 l).1=sk at HE HG HM huv hle8;obtain⟨n,hn⟩:∃n,sk.writes.length=n:=⟨_,rfl⟩
      rw[hn] at HE huv;subst huv;clear hb HI hlt hle8 hn HL
      by_cases h30:30<n
      ·have yEs:30<(n:Int):=by omega
       have HEE:Hid (we=4):=ι (by rw[HE.o,if_pos h30]);have HGG:Hid (wp=[]):=ι (by rw[HG.o,HEE.o,if_neg ω]);clear HE HG;go_wp2;go_ret2;exact⟨_,by rw[HEE.o];rfl,by rw[HGG.o];exact RdW.xPs _ _,HM.o.bel⟩
      ·have yEs:¬(30<(n:Int)):=by omega
       have HEE:Hid (we=0):=ι (by rw[HE.o,if_neg h30]);have HGG:Hid (wp=sk.writes):=ι (by rw[HG.o,HEE.o,if_pos rfl]);clear HE HG;go_wp2;go_ret2;exact⟨_,by rw[HEE.o];rfl,by rw[HGG.o];exact yC7 (HM.o.wr.rd xDg),HM.o.bel⟩
end Go.Proofs.ST
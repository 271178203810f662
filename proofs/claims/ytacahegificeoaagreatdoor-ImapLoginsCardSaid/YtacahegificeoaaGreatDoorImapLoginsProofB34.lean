/- Contracts of functions. Conditions: as stated. -/
import Derived.Test.YtacahegificeoaaGreatDoorImapLoginsProofB33
set_option maxHeartbeats 8000000
set_option maxRecDepth 100000
namespace Mailsack
theorem xN1 {d:Dk} {l:List Ch}:(wB d l).length<=30:=by
 unfold wB;split
 ·rename_i h
  unfold wN at h;split at h
  ·split at h
   ·split at h
    ·omega
    ·omega
   ·rename_i h2;exact absurd h h2
  ·omega
 ·simp
end Mailsack
namespace Go.Proofs.ST
open Go.RowKit Mailsack MM BB SH SV RK DS AL
theorem xYg (va vb lv:Value) (d:Dk) (l:List Ch) (w:World) (h:RdD w w.heap.size va vb d) (hl:RdR 3 chF w w.heap.size lv l) (hll:l.length<=500) (hc:d.cache.length<=10000) (hT:wL w):
  Calls Tryz.prog 103 #[.agg #[va,vb],lv] w λe w'=>∃va' vb',e=.returned (.tuple #[.agg #[va',vb'],.int .i64 (xB5 d l)])/\RdD w' w'.heap.size va' vb' (xDd d l)/\Below w.heap.size w w':=by
 obtain⟨A1,c1,A2,c2,rfl,rfl⟩:=yE h
 have H0:Hid (CmM w (.slice A1 d.secs.length c1) (.slice A2 d.cache.length c2) d ((w.alloc (xX (.slice A1 d.secs.length c1) (.slice A2 d.cache.length c2))).alloc (xX (.slice none 0 0) (.slice none 0 0)))):=ι (by
  have hb:=((Below.refl w.heap.size w).alloc ν (xX (.slice A1 d.secs.length c1) (.slice A2 d.cache.length c2))).alloc σ (xX (.slice none 0 0) (.slice none 0 0));exact⟨zG _ _ _,yX _ _ _,(h.below hb ν).more hb.size,hb⟩)
 have HW:=ι (xR3 _ _ lv d l _ H0.o.rd ((hl.below H0.o.bel ν).more H0.o.bel.size) hll);have HT:=ι (λW (hb:Below w.heap.size w W)=>hT.below hb ν);have HC:=ι hc;have HAE:Hid (xB5 d l=if wN d l=0 then(if (wB d l).length=0 then 0 else vW d (wB d l)) else wN d l):=ι rfl
 have HAP:Hid (xDd d l=if wN d l=0 then(if (wB d l).length=0 then yG d else xB2 d (wB d l)) else⟨[],[]⟩):=ι rfl;have HWL:=ι (xN1 (d:=d) (l:=l));obtain⟨ae,hae⟩:∃ae,xB5 d l=ae:=⟨_,rfl⟩;obtain⟨ap,hap⟩:∃ap,xDd d l=ap:=⟨_,rfl⟩;rw[hae] at HAE;rw[hap] at HAP;rw[hae,hap]
 generalize wB d l=wp at HW HAE HAP HWL;generalize wN d l=we at HW HAE HAP;obtain⟨A3,c3,rfl,_⟩:=hl;clear h hae hap hT hc hll;go_enter Tryz.func103,Tryz.ntmps103;go_upto_region 1 with fail
 generalize (w.alloc (xX (.slice A1 d.secs.length c1) (.slice A2 d.cache.length c2))).alloc (xX (.slice none 0 0) (.slice none 0 0))=w1 at H0 HW⊢;obtain⟨d0,d1⟩:=zQ H0.o.d;go_wp2_with fail
 refine HW.o.mono ?_;rintro e w2 ⟨ov,rfl,hro,hb⟩;obtain⟨A4,c4,rfl,_⟩:=id hro;have H2:=ι (H0.o.below hb);have HRO:=ι hro;clear hb H0 HW d0 d1 hro;obtain⟨d0,d1⟩:=zQ H2.o.d
 by_cases h0:we=0
 ·subst h0;rw[if_pos rfl] at HAE HAP;obtain⟨n,hn⟩:∃n,wp.length=n:=⟨_,rfl⟩;have HN:=ι hn;rw[hn] at HAE HAP⊢
  by_cases hz:n=0
  ·subst hz;rw[if_pos rfl] at HAE HAP;have HEE:Hid (ae=0):=HAE;have HCC:Hid (ap=yG d):=HAP;have HF:=ι (xGb _ _ d w2 H2.o.rd);clear hn;go_wp2_with fail
   refine HF.o.mono ?_;rintro e w3 ⟨ua,ub,rfl,hr,_,hb⟩;have H3:=ι (H2.o.below hb);have HRR:=ι hr;generalize yG d=cm at HRR HCC;obtain⟨ee,hee⟩:∃ee:Int,ee=0:=⟨_,rfl⟩;clear hr hb H2 HF HRO d0 d1 hee ee;obtain⟨A5,c5,A6,c6,rfl,rfl⟩:=yE HRR.o
   have hRD:RdD ((w3.setCell ⟨w.heap.size+1,0,none⟩ (.slice A5 cm.secs.length c5)).setCell ⟨w.heap.size+1,1,none⟩ (.slice A6 cm.cache.length c6)) w3.heap.size (.slice A5 cm.secs.length c5) (.slice A6 cm.cache.length c6) cm:=by
    have e0:=xY H3.o.o 0 (.slice A5 cm.secs.length c5);simp only[List.setIfInBounds_toArray,List.set_cons_zero] at e0;exact RdD.far (RdD.far HRR.o (p:=⟨w.heap.size+1,0,none⟩) (vH H3.o.o) _) (p:=⟨w.heap.size+1,1,none⟩) (vH e0) _
   have HRD:=ι hRD;clear hRD;obtain⟨o0,y0,f0,o1,y1,f1,HB⟩:=xMe H3.o.o H3.o.bel ω (.slice A5 cm.secs.length c5) (.slice A6 cm.cache.length c6) _ rfl;clear H3 HRR;go_wp2
   refine bodyPost_ret (v:=.tuple #[.agg #[.slice A5 cm.secs.length c5,.slice A6 cm.cache.length c6],.int .i64 0]) (by simp[results,Tryz.results103,go_sem,f0,f1]) rfl ?_;exact⟨_,_,by rw[HEE.o],by rw[HCC.o];simpa[size_set] using HRD.o,HB.o⟩
  ·rw[if_neg hz] at HAE HAP;have hzi:¬((n:Int)=0):=by omega
   have hzb:((n:Int)==0)=false:=by simpa using hzi
   have HCM:=ι (xT7 _ _ (.slice A4 wp.length c4) d wp w2 H2.o.rd HRO.o (by have:=HWL.o;omega) HC.o (HT.o _ H2.o.bel));rw[hn] at HCM;have HEE:=HAE;have HCC:=HAP;generalize vW d wp=ee at HCM HEE;generalize xB2 d wp=cm at HCM HCC;clear hz hn;go_wp2_with fail
   refine HCM.o.mono ?_;rintro e w3 ⟨ua,ub,rfl,hr,hb⟩;have H3:=ι (H2.o.below hb);have HRR:=ι hr;clear hr hb H2 HCM HRO d0 d1 HAE HAP;obtain⟨A5,c5,A6,c6,rfl,rfl⟩:=yE HRR.o
   have hRD:RdD ((w3.setCell ⟨w.heap.size+1,0,none⟩ (.slice A5 cm.secs.length c5)).setCell ⟨w.heap.size+1,1,none⟩ (.slice A6 cm.cache.length c6)) w3.heap.size (.slice A5 cm.secs.length c5) (.slice A6 cm.cache.length c6) cm:=by
    have e0:=xY H3.o.o 0 (.slice A5 cm.secs.length c5);simp only[List.setIfInBounds_toArray,List.set_cons_zero] at e0;exact RdD.far (RdD.far HRR.o (p:=⟨w.heap.size+1,0,none⟩) (vH H3.o.o) _) (p:=⟨w.heap.size+1,1,none⟩) (vH e0) _
   have HRD:=ι hRD;clear hRD;obtain⟨o0,y0,f0,o1,y1,f1,HB⟩:=xMe H3.o.o H3.o.bel ω (.slice A5 cm.secs.length c5) (.slice A6 cm.cache.length c6) _ rfl;clear H3 HRR;go_wp2
   refine bodyPost_ret (v:=.tuple #[.agg #[.slice A5 cm.secs.length c5,.slice A6 cm.cache.length c6],.int .i64 ee]) (by simp[results,Tryz.results103,go_sem,f0,f1]) rfl ?_;exact⟨_,_,by rw[HEE.o],by rw[HCC.o];simpa[size_set] using HRD.o,HB.o⟩
 ·rw[if_neg h0] at HAE HAP;have h0b:(we==0)=false:=by simpa using h0
  have h0c:(we !=0)=true:=by simpa using h0
  obtain⟨o0,y0,f0,o1,y1,f1,HB⟩:=xMe H2.o.o H2.o.bel ω (.slice none 0 0) (.slice none 0 0) _ rfl;clear H2 HRO d0 d1;go_wp2;refine bodyPost_ret (v:=.tuple #[.agg #[.slice none 0 0,.slice none 0 0],.int .i64 we]) (by simp[results,Tryz.results103,go_sem,f0,f1]) rfl ?_
  refine⟨_,_,by rw[HAE.o],?_,HB.o⟩;rw[HAP.o];exact⟨⟨_,_,rfl,Nat.le_refl _,λh=>by simp at h⟩,RdW.xPs _ _,σ,σ⟩
end Go.Proofs.ST
namespace Mailsack
def pR (d:Dk) (u:ByteArray):ByteArray:=bsA (xXc d (xKd [117] u.data.toList))
def xGx (d:Dk) (u:ByteArray):Bool:=xBr (pR d u)&&decide ((xBm (pR d u)).user=u)
def xGy (d:Dk) (u:ByteArray):Int:=if xQa d (xKd [117] u.data.toList)=0 then(if xGx d u=true then 0 else 3) else 6
def wH (d:Dk) (u:ByteArray):tJ:=if xGy d u=0 then xBm (pR d u) else vL
theorem xJq (d:Dk) (n:Bs):(xXc d n).length<=1024:=by
 unfold xXc;split
 ·unfold yDh;rw[List.length_take];generalize hs:xHr (yR (yG d).secs) (rG (yR (yG d).secs) n)=t
  have:t.size<=1024:=by
   have hok:t=noSlot∨xQz t:=by
    rw[<-hs];unfold xHr;rw[List.getD_eq_getElem?_getD];cases hg:(yR (yG d).secs)[(rG (yR (yG d).secs) n).toNat]? with
    |none=>exact .inl rfl
    |some t=>
     rw[pX] at hg;split at hg
     ·obtain⟨s,_,rfl⟩:=Option.map_eq_some_iff.1 hg;rcases xJz s with e|⟨_,h⟩
      ·exact .inl e
      ·exact .inr h
     ·cases hg
   rcases hok with e|h
   ·rw[e];exact Nat.zero_le _
   ·exact Nat.le_trans h.size (xOt _)
  omega
 ·simp
end Mailsack
namespace Go.Proofs.VA
open Go.RowKit Mailsack MM BB SH SV RK DS Go.Proofs.ST
structure AcN (w:World) (va vb:Value) (D:Dk) (W:World):Prop where
 d:W.heap[w.heap.size]?=some (xX va vb)
 o:W.heap[w.heap.size+1]?=some (zX vL)
 rd:RdD W W.heap.size va vb D
 bel:Below w.heap.size w W
theorem AcN.below {w W W':World} {va vb:Value} {D:Dk} (h:AcN w va vb D W) (hb:Below W.heap.size W W'):AcN w va vb D W':=
 ⟨xB h.d hb (xG h.d),xB h.o hb (xG h.o),(h.rd.below hb ν).more hb.size,h.bel.trans (hb.mono h.bel.size)⟩
theorem AcN.drew {w W:World} {va vb:Value} {D:Dk} (h:AcN w va vb D W):AcN w va vb D W.drew:=h.below (Below.refl _ W).drew
theorem xOw (va vb:Value) (d:Dk) (u:ByteArray) (w:World) (h:RdD w w.heap.size va vb d) (hu:u.size<=1000000):
  Calls Tryz.prog 14 #[.agg #[va,vb],.string u] w λe w'=>e=.returned (.tuple #[xHj (wH d u),.int .i64 (xGy d u)])/\Below w.heap.size w w':=by
 obtain⟨A1,c1,A2,c2,rfl,rfl⟩:=yE h
 have H0:Hid (AcN w (.slice A1 d.secs.length c1) (.slice A2 d.cache.length c2) d ((w.alloc (xX (.slice A1 d.secs.length c1) (.slice A2 d.cache.length c2))).alloc (zX vL))):=ι (by
  have hb:=((Below.refl w.heap.size w).alloc ν (xX (.slice A1 d.secs.length c1) (.slice A2 d.cache.length c2))).alloc σ (zX vL);exact⟨zG _ _ _,yX _ _ _,(h.below hb ν).more hb.size,hb⟩)
 have HUO:=ι (λW=>pG ⟨#[117]⟩ u W δ hu);rw[show(⟨#[117]⟩:ByteArray).data.toList=[117] from rfl] at HUO;have HGE:=ι (λW (h:AcN w (.slice A1 d.secs.length c1) (.slice A2 d.cache.length c2) d W)=>xOe _ _ d (xKd [117] u.data.toList) W h.rd)
 have HAE:Hid (xGy d u=if xQa d (xKd [117] u.data.toList)=0 then(if xGx d u=true then 0 else 3) else 6):=ι rfl;have HAR:Hid (wH d u=if xGy d u=0 then xBm (pR d u) else vL):=ι rfl;have HAF:Hid (xGx d u=(xBr (pR d u)&&decide ((xBm (pR d u)).user=u))):=ι rfl
 have HTK:=ι (λW=>xVk (pR d u) W (by unfold pR;rw[yS];have:=xJq d (xKd [117] u.data.toList);omega));rw[show xO (xXc d (xKd [117] u.data.toList))=.string (pR d u) from rfl] at HGE;generalize pR d u=ag at HGE HAR HAF HTK;generalize xKd [117] u.data.toList=nm at HUO HGE HAE
 generalize xGx d u=fit at HAE HAF;generalize xQa d nm=ge at HGE HAE;obtain⟨ae,hae⟩:∃ae,xGy d u=ae:=⟨_,rfl⟩;obtain⟨ar,har⟩:∃ar,wH d u=ar:=⟨_,rfl⟩;rw[hae] at HAE HAR;rw[har] at HAR;rw[hae,har];clear hae har h hu;go_enter Tryz.func14,Tryz.ntmps14;go_upto_region 1 with fail
 obtain⟨w1,hw1⟩:∃w1,(w.alloc (xX (.slice A1 d.secs.length c1) (.slice A2 d.cache.length c2))).alloc (zX vL)=w1:=⟨_,rfl⟩;rw[hw1] at H0;simp only[zX,vL] at hw1;rw[hw1];clear hw1
 refine RG.xP (λW=>Hid (AcN w (.slice A1 d.secs.length c1) (.slice A2 d.cache.length c2) d W)) κ κ (ι H0.o.drew) ?_;iterate 2 refine RG.dF (λw9 hw9=>zQ hw9.o.d) ?_
 apply RG.xJ
 ·intro w9 hw9;repeat go_step
  refine(HUO.o _).mono ?_;rintro e w10 ⟨rfl,rfl⟩;simp only[];repeat go_step
  with_reducible exact RG.xD hw9
 ·rfl
 apply RG.xJ
 ·intro w9 hw9;repeat go_step
  refine(HGE.o _ hw9.o).mono ?_;rintro e w10 ⟨rfl,zM⟩;simp only[];repeat go_step
  with_reducible refine RG.xD ?_
  exact ι (hw9.o.below zM)
 ·rfl
 iterate 5 refine RG.dS ?_
 refine RG.xS (λw2 hw2=>?_);clear H0 HUO HGE
 by_cases hg:ge=0
 ·subst hg;rw[if_pos rfl] at HAE;go_wp2_with fail
  refine(HTK.o _).mono ?_;rintro e w3 ⟨rfl,hb3⟩;have H3:=ι (hw2.o.below hb3);clear hb3 hw2 HTK;cases htk:xBr ag with
  |false=>
   have HZ:Hid (AcN w (.slice A1 d.secs.length c1) (.slice A2 d.cache.length c2) d (w3.alloc (zX vL))):=ι (H3.o.below ((Below.refl _ _).alloc ν _));rw[if_neg σ,if_neg σ];rw[htk,Bool.false_and] at HAF;rw[HAF.o,if_neg σ] at HAE;rw[HAE.o,if_neg ω] at HAR;simp only[xHj,vL]
   have hbz:=xL w3 (zX vL);have z0:=xA hbz 0;simp only[zX,vL,gA,gC] at z0;clear hbz htk H3;go_upto_region 6 with fail
   clear z0;obtain⟨w4,hw4⟩:∃w4,w3.alloc (zX vL)=w4:=⟨_,rfl⟩;rw[hw4] at HZ;simp only[zX,vL] at hw4;rw[hw4];clear hw4
   obtain⟨o0,y0,f0,o1,y1,f1,o2,y2,f2,o3,y3,f3,o4,y4,f4,o5,y5,f5,o6,y6,f6,o7,y7,f7,HB⟩:=yCk HZ.o.o HZ.o.bel ω (.string ⟨#[]⟩) (.string ⟨#[]⟩) (.int .i64 0) (.int .i64 0) (.string ⟨#[]⟩) (.string ⟨#[]⟩) (.string ⟨#[]⟩) (.string ⟨#[]⟩) _ rfl;clear HZ;go_wp2
   refine bodyPost_ret (v:=.tuple #[.agg #[.string ⟨#[]⟩,.string ⟨#[]⟩,.int .i64 0,.int .i64 0,.string ⟨#[]⟩,.string ⟨#[]⟩,.string ⟨#[]⟩,.string ⟨#[]⟩],.int .i64 3]) (by simp[results,Tryz.results14,go_sem,f0,f1,f2,f3,f4,f5,f6,f7]) rfl ?_;exact⟨by rw[HAE.o,HAR.o];rfl,HB.o⟩
  |true=>
   rw[if_pos rfl,if_pos rfl];rw[htk,Bool.true_and] at HAF
   have HZ:Hid (AcN w (.slice A1 d.secs.length c1) (.slice A2 d.cache.length c2) d (w3.alloc (zX (xBm ag)))/\(w3.alloc (zX (xBm ag))).heap[w3.heap.size]?=some (zX (xBm ag))):=ι ⟨H3.o.below ((Below.refl _ _).alloc ν _),xL _ _⟩;have hbz:=xL w3 (zX (xBm ag));have z0:=xA hbz 0
   simp only[zX,gA,gC] at z0;clear hbz htk H3;generalize xBm ag=ta at HZ HAF HAR z0⊢;obtain⟨tu,ts,tr,te,tp,tn,tw,to_⟩:=ta;simp only[xHj,zX] at z0 HZ⊢;have HAF2:Hid (fit=decide (tu=u)):=HAF;clear HAF;have HAF:=HAF2;clear HAF2
   by_cases hue:tu=u
   ·have HFT:Hid (fit=true):=ι (by rw[HAF.o,hue];simp);rw[HFT.o,if_pos rfl] at HAE;rw[HAE.o,if_pos rfl] at HAR;have e1:(tu.toList==u.toList)=true:=by rw[hue];simp
    have e2:(!tu.toList==u.toList)=false:=by rw[hue];simp
    clear hue HAF HFT;go_upto_region 7 with fail
    clear z0;generalize hg4:w3.heap.size=g4 at HZ⊢;generalize w3.alloc (.cells #[.string tu,.string ts,.int .i64 tr,.int .i64 te,.string tp,.string tn,.string tw,.string to_] 54)=w4 at HZ⊢;have hz4:=HZ.o.2;obtain⟨z0,z1,z2,z3,z4,z5,z6,z7⟩:=yBn hz4
    obtain⟨o0,y0,f0,o1,y1,f1,o2,y2,f2,o3,y3,f3,o4,y4,f4,o5,y5,f5,o6,y6,f6,o7,y7,f7,HB⟩:=yCk HZ.o.1.o HZ.o.1.bel ω (.string tu) (.string ts) (.int .i64 tr) (.int .i64 te) (.string tp) (.string tn) (.string tw) (.string to_) _ rfl;clear HZ hz4 hg4;go_wp2
    refine bodyPost_ret (v:=.tuple #[.agg #[.string tu,.string ts,.int .i64 tr,.int .i64 te,.string tp,.string tn,.string tw,.string to_],.int .i64 0]) (by simp[results,Tryz.results14,go_sem,f0,f1,f2,f3,f4,f5,f6,f7]) rfl ?_;exact⟨by rw[HAE.o,HAR.o],HB.o⟩
   ·have HFT:Hid (fit=false):=ι (by rw[HAF.o];simpa using hue);rw[HFT.o,if_neg σ] at HAE;rw[HAE.o,if_neg ω] at HAR
    have hne:¬(tu.toList=u.toList):=by
     rw[ByteArray.toList_eq,ByteArray.toList_eq];intro e;exact hue (ByteArray.ext (Array.toList_inj.1 e))
    have e1:(tu.toList==u.toList)=false:=by simpa using hne
    have e2:(!tu.toList==u.toList)=true:=by rw[e1];rfl
    have HZ2:=ι HZ.o.1;clear hue HAF HFT hne HZ;have HZ:=HZ2;clear HZ2;go_upto_region 6 with fail
    clear z0;generalize w3.alloc (.cells #[.string tu,.string ts,.int .i64 tr,.int .i64 te,.string tp,.string tn,.string tw,.string to_] 54)=w4 at HZ⊢
    obtain⟨o0,y0,f0,o1,y1,f1,o2,y2,f2,o3,y3,f3,o4,y4,f4,o5,y5,f5,o6,y6,f6,o7,y7,f7,HB⟩:=yCk HZ.o.o HZ.o.bel ω (.string ⟨#[]⟩) (.string ⟨#[]⟩) (.int .i64 0) (.int .i64 0) (.string ⟨#[]⟩) (.string ⟨#[]⟩) (.string ⟨#[]⟩) (.string ⟨#[]⟩) _ rfl;clear HZ;go_wp2
    refine bodyPost_ret (v:=.tuple #[.agg #[.string ⟨#[]⟩,.string ⟨#[]⟩,.int .i64 0,.int .i64 0,.string ⟨#[]⟩,.string ⟨#[]⟩,.string ⟨#[]⟩,.string ⟨#[]⟩],.int .i64 3]) (by simp[results,Tryz.results14,go_sem,f0,f1,f2,f3,f4,f5,f6,f7]) rfl ?_;exact⟨by rw[HAE.o,HAR.o];rfl,HB.o⟩
 ·have hg1:(ge==0)=false:=by simpa using hg
  have hg2:(ge !=0)=true:=by simpa using hg
  rw[if_neg hg] at HAE;rw[HAE.o,if_neg ω] at HAR;have HZ:=hw2;clear hw2 HTK
  obtain⟨o0,y0,f0,o1,y1,f1,o2,y2,f2,o3,y3,f3,o4,y4,f4,o5,y5,f5,o6,y6,f6,o7,y7,f7,HB⟩:=yCk HZ.o.o HZ.o.bel ω (.string ⟨#[]⟩) (.string ⟨#[]⟩) (.int .i64 0) (.int .i64 0) (.string ⟨#[]⟩) (.string ⟨#[]⟩) (.string ⟨#[]⟩) (.string ⟨#[]⟩) _ rfl;clear HZ;go_wp2
  refine bodyPost_ret (v:=.tuple #[.agg #[.string ⟨#[]⟩,.string ⟨#[]⟩,.int .i64 0,.int .i64 0,.string ⟨#[]⟩,.string ⟨#[]⟩,.string ⟨#[]⟩,.string ⟨#[]⟩],.int .i64 6]) (by simp[results,Tryz.results14,go_sem,f0,f1,f2,f3,f4,f5,f6,f7]) rfl ?_;exact⟨by rw[HAE.o,HAR.o];rfl,HB.o⟩
end Go.Proofs.VA
namespace Mailsack
def xRr (user xI xE enc:ByteArray):Ch:=⟨xKd [120] user.data.toList,(xE++xKz (zV xI) xE user enc).data.toList,false⟩
end Mailsack
namespace Go.Proofs.VA
open Go.RowKit Mailsack MM BB SH SV RK DS Go.Proofs.ST
theorem xNe (s:ByteArray):xO s.data.toList=.string s:=rfl
end Go.Proofs.VA
/- Contracts of functions. Conditions: as stated. -/
import Derived.Test.YtacahegificeoaaGreatDoorImapLoginsProofB41
set_option maxHeartbeats 8000000
set_option maxRecDepth 100000
namespace Mailsack
def lgK (d:Dk) (u pw:ByteArray):List ByteArray:=xUv (wH d u) pw
def jI (d:Dk) (u pw:ByteArray):ByteArray:=(lgK d u pw).getD 0 ⟨#[]⟩
def xEw (d:Dk) (u pw:ByteArray):ByteArray:=(lgK d u pw).getD 1 ⟨#[]⟩
def lgE (d:Dk) (u pw xE:ByteArray):Int:=
 if xE.size≠12 then 1 else if xGy d u≠0 then xGy d u else if xRb (wH d u) pw≠0 then xRb (wH d u) pw else xSd d u (jI d u pw)
def lgX (d:Dk) (u pw xE:ByteArray):yD:=if lgE d u pw xE=0 then xYz d u (jI d u pw) (xEw d u pw) (wH d u).xAb (xCw d u (jI d u pw)) xE else ix0
def lgM (d:Dk) (u pw xE:ByteArray):Bool:=xO1 d u (jI d u pw) (xEw d u pw) (wH d u).xAb (xCw d u (jI d u pw)) xE
def lgD (d:Dk) (u pw xE:ByteArray):Dk:=if lgE d u pw xE=0 then xO0 d u (jI d u pw) (xEw d u pw) (wH d u).xAb (xCw d u (jI d u pw)) xE else⟨[],[]⟩
theorem xYn {d:Dk} {u:ByteArray} (hu:u.size<=1000):(wH d u).user.size<=1000:=by
 unfold wH;split
 ·rename_i h
  unfold xGy at h;split at h
  ·split at h
   ·rename_i h2
    unfold xGx at h2;simp only[Bool.and_eq_true,decide_eq_true_eq] at h2;rw[h2.2];exact hu
   ·cases h
  ·cases h
 ·decide
theorem yEf (a:tJ) (pw:ByteArray):∀k∈xUv a pw,k.size<=1000000:=by
 intro k hk;unfold xUv at hk;split at hk
 ·rename_i h
  have hr:uP a=true:=by
   cases hr:uP a with
   |true=>rfl
   |false=>unfold xRb at h;rw[if_pos hr] at h;cases h
  unfold uP at hr;simp only[Bool.and_eq_true,Bool.or_eq_true,decide_eq_true_eq] at hr;have hw:=xEd (pw:=pw) hr.1.2;split at hk
  ·simp only[List.mem_cons,List.not_mem_nil,or_false] at hk;subst hk;omega
  ·rename_i h0
   simp only[List.mem_cons,List.not_mem_nil,or_false] at hk;rcases hk with rfl|rfl
   ·omega
   ·have:a.old.size=48:=hr.2.resolve_left h0;rw[xKq,yS,xBg,xF3 this];omega
 ·cases hk
theorem yAq (d:Dk) (u xI:ByteArray):xHn (xCw d u xI):=by
 unfold xCw;split
 ·unfold xKu;split
  ·rename_i h
   unfold yEi at h;simp only[Bool.and_eq_true] at h;exact xHn.right h.2
  ·exact⟨δ,λb hb=>(nomatch hb),δ⟩
 ·exact⟨δ,λb hb=>(nomatch hb),δ⟩
end Mailsack
namespace Go.Proofs.VA
open Go.RowKit Mailsack MM BB SH SV RK DS IX Go.Proofs.ST Go.Proofs.SE
def xIk (va vb:Value) (d:Dk) (u pw xE:ByteArray) (w:World) (e:Ending) (w':World):Prop:=
 ∃su sp so se bv sv va' vb',e=.returned (.tuple #[xTv su sp so se bv sv (lgX d u pw xE).given,.agg #[va',vb'],.int .i64 (lgE d u pw xE)])/\(lgE d u pw xE=0->su=u/\sp=jI d u pw/\so=xEw d u pw/\se=(wH d u).xAb)/\(lgE d u pw xE=0->lgM d u pw xE=false->va'=va/\vb'=vb)/\uT 0 w' bv sv (lgX d u pw xE)/\RdD w' w'.heap.size va' vb' (lgD d u pw xE)/\Below w.heap.size w w'
theorem xIk.bad {va vb:Value} {d:Dk} {u pw xE:ByteArray} {w w':World} {er:Int} (he:lgE d u pw xE=er) (hn:er≠0) (hb:Below w.heap.size w w'):xIk va vb d u pw xE w (.returned (.tuple #[xTv ⟨#[]⟩ ⟨#[]⟩ ⟨#[]⟩ 0 (.slice none 0 0) (.slice none 0 0) 0,.agg #[.slice none 0 0,.slice none 0 0],.int .i64 er])) w':=by
 have h1:lgX d u pw xE=ix0:=by unfold lgX;rw[he,if_neg hn]
 have h2:lgD d u pw xE=⟨[],[]⟩:=by unfold lgD;rw[he,if_neg hn]
 exact⟨_,_,_,_,_,_,_,_,by rw[h1,he];rfl,λh=>absurd (he.symm.trans h) hn,λh=>absurd (he.symm.trans h) hn,by rw[h1];exact uT.zero _ _,by rw[h2];exact⟨⟨none,0,rfl,Nat.le_refl _,λh=>absurd h δ⟩,⟨none,0,rfl,Nat.le_refl _,λh=>absurd h δ⟩,Nat.zero_le _,Nat.zero_le _⟩,hb⟩
theorem LgN.newd {w W:World} {va vb va' vb':Value} {so dd:Obj} {b1 b2:Bool} (h:LgN w va vb so dd b1 b2 W):LgN w va' vb' so dd b1 b2 (xU w.heap.size 0 [va',vb'] W):=
 ⟨yU h.d rfl,xM ω _ 0 W h.o1,xM ω _ 0 W h.o2,xZ ω _ 0 W h.bel⟩
theorem yAc {W:World} {g:Nat} {A1 A2:Option Addr} {n1 c1 n2 c2:Nat} (h:W.heap[g]?=some (xX (.slice A1 n1 c1) (.slice A2 n2 c2))):NoWr W g:=by
 intro i a l h1 h2;rw[xA h] at h1 h2;rcases i with _|_|i<;>simp at h1 h2
theorem yBs {W:World} {g:Nat} {A1 A2:Option Addr} {n1 c1 n2 c2:Nat} (h:W.heap[g]?=some (xX (.slice A1 n1 c1) (.slice A2 n2 c2))) (l:List Value):yFi W (xU g 0 l W) g:=by
 intro b o;rcases wP (g:=g) l 0 W b o with e|⟨rfl,_,_⟩
 ·exact .inl e
 ·refine .inr ⟨rfl,λs hs e=>?_⟩;rw[xA h] at e;rcases o with _|_|o<;>simp[xO] at e
theorem xYf {W:World} {g:Nat} {u p o:ByteArray} {ep gv:Int} {A1 A2:Option Addr} {n1 c1 n2 c2:Nat} (h:W.heap[g]?=some (vO u p o ep (.slice A1 n1 c1) (.slice A2 n2 c2) gv)) (a b c:Value):yFi W (xU g 0 [.string u,.string p,.string o,.int .i64 ep,a,b,c] W) g:=by
 intro b' i;have h2:=yU (b:=g) (l:=[.string u,.string p,.string o,.int .i64 ep,a,b,c]) h rfl;rcases wP (g:=g) [.string u,.string p,.string o,.int .i64 ep,a,b,c] 0 W b' i with e|⟨rfl,_,_⟩
 ·exact .inl e
 ·rw[xA h,xA h2];rcases i with _|_|_|_|_|_|_|i
  ·exact .inl rfl
  ·exact .inl rfl
  ·exact .inl rfl
  ·exact .inl rfl
  all_goals exact .inr ⟨rfl,λs hs e=>by simp[xO] at e⟩
theorem xFi (g i:Nat) (l:List Value) (W:World):W.heap.size<=(xU g i l W).heap.size:=(xZ (b:=g) (B:=0) (Nat.zero_le _) l i W (Below.refl 0 W)).size
theorem xLr (va vb:Value) (d:Dk) (u pw xE:ByteArray) (w:World) (h:RdD w w.heap.size va vb d) (hu:u.size<=1000) (hpw:pw.size<=1000000) (hc:d.cache.length<=10000) (hT:VaT w):
  Calls Tryz.prog 8 #[.agg #[va,vb],.string u,.string pw,.string xE] w (xIk va vb d u pw xE w):=by
 have hps:∀k∈lgK d u pw,k.size<=1000000:=yEf _ _
 by_cases hn:xE.size=12
 case neg=>
  refine(xO4 va vb d u pw xE w h hn).mono ?_;rintro e w' ⟨rfl,hb⟩;exact xIk.bad (by unfold lgE;rw[if_pos hn]) δ hb
 obtain⟨A1,c1,A2,c2,rfl,rfl⟩:=yE h;have H0:=ι (λso dd=>xQ0 w (.slice A1 d.secs.length c1) (.slice A2 d.cache.length c2) so dd);have HAC:=ι (λW (hb:Below w.heap.size w W)=>xOw (.slice A1 d.secs.length c1) (.slice A2 d.cache.length c2) d u W ((h.below hb ν).more hb.size) ω)
 have HUL:=ι (λW (hb:Below w.heap.size w W)=>xRa (wH d u) pw W (xYn hu) hpw (hT.se.sha.below hb ν));have HRD:=ι (And.intro h (And.intro hu (And.intro hc (And.intro hT hn))))
 have HLE:Hid (lgE d u pw xE=if xGy d u≠0 then xGy d u else if xRb (wH d u) pw≠0 then xRb (wH d u) pw else xSd d u (jI d u pw)):=ι (by unfold lgE;rw[if_neg (by simpa using hn)])
 have HBA:=ι (λer (he:lgE d u pw xE=er) hn w' hb=>xIk.bad (va:=.slice A1 d.secs.length c1) (vb:=.slice A2 d.cache.length c2) (w:=w) (w':=w') he hn hb);have HPS:=ι hps;have HKE:Hid (xUv (wH d u) pw=lgK d u pw):=ι rfl;rw[HKE.o] at HUL
 obtain⟨PO,hPO⟩:∃PO,xIk (.slice A1 d.secs.length c1) (.slice A2 d.cache.length c2) d u pw xE w=PO:=⟨_,rfl⟩;rw[hPO];have HPO:=ι hPO;have hn1:((xE.size:Int)==12)=true:=by simp;omega
 have hn2:((xE.size:Int)!=12)=false:=by simp;omega
 have HEP:Hid ((wH d u).xAb=(wH d u).xAb):=ι rfl;clear h hu hpw hps hc hT hPO hn HKE;generalize hae:xGy d u=ae at HAC HLE;have HAE:=ι hae;generalize hue:xRb (wH d u) pw=ue at HUL HLE;have HUE:=ι hue;obtain⟨ar,har⟩:∃ar,wH d u=ar:=⟨_,rfl⟩;have HAR:=ι har;rw[har] at HAC HUL
 clear har hae hue HEP;obtain⟨tu,ts,tr,te,tp,tn,tw,to_⟩:=ar;simp only[xHj] at HAC HUL;go_enter Tryz.func8,Tryz.ntmps8;go_upto_region 3 with fail
 obtain⟨w1,hw1⟩:∃w1,((w.alloc (xX (.slice A1 d.secs.length c1) (.slice A2 d.cache.length c2))).alloc vJ).alloc vB=w1:=⟨_,rfl⟩;rw[hw1] at H0;simp only[vO,vJ,vB] at hw1;rw[hw1];clear hw1;have hb:=(H0.o vJ vB).d;obtain⟨e0,e1⟩:=zQ hb;clear hb;go_wp2_with fail
 refine(HAC.o _ (H0.o vJ vB).bel).mono ?_;rintro e w2 ⟨rfl,hb2⟩;have H2:=ι (λso dd=>(H0.o so dd).below hb2);clear H0 HAC hb2 e0 e1
 have H3:Hid ((∀so dd,LgN w (.slice A1 d.secs.length c1) (.slice A2 d.cache.length c2) so dd false false (w2.alloc (zX ⟨tu,ts,tr,te,tp,tn,tw,to_⟩)))/\(w2.alloc (zX ⟨tu,ts,tr,te,tp,tn,tw,to_⟩)).heap[w2.heap.size]?=some (zX ⟨tu,ts,tr,te,tp,tn,tw,to_⟩)):=ι ⟨λso dd=>(H2.o so dd).below ((Below.refl _ _).alloc ν _),xL _ _⟩
 go_upto_region 4 with fail
 obtain⟨w3,hw3⟩:∃w3,w2.alloc (zX ⟨tu,ts,tr,te,tp,tn,tw,to_⟩)=w3:=⟨_,rfl⟩;rw[hw3] at H3;simp only[zX] at hw3 H3;rw[hw3];clear hw3 H2;generalize w2.heap.size=g2 at H3⊢
 by_cases hae:ae=0
 case neg=>
  have HBAD:=ι (HBA.o ae (by rw[HLE.o,if_pos hae]) hae);have HW:=ι (H3.o.1 vJ vB);clear H3 HLE HUL HBA;go_upto_region 5 with fail
  have h1:=HW.o.o1;have h2:=HW.o.o2;rw[if_neg σ] at h1 h2;have HP:=ι (LgN.xRy (LgN.kE HW.o (l:=[.string ⟨#[]⟩,.string ⟨#[]⟩,.string ⟨#[]⟩,.int .i64 0,.slice none 0 0,.slice none 0 0,.int .i64 0]) rfl rfl) (l:=[.slice none 0 0,.slice none 0 0]) rfl rfl)
  simp only[xU,Nat.reduceAdd] at HP;have H0:=HW;clear HW;have o0:=xA h1 0;have o1:=xA h1 1;have o2:=xA h1 2;have o3:=xA h1 3;have o4:=xA h1 4;have o5:=xA h1 5;have o6:=xA h1 6;have y0:=xC h1 0;have y1:=xC h1 1;have y2:=xC h1 2;have y3:=xC h1 3;have y4:=xC h1 4;have y5:=xC h1 5
  have y6:=xC h1 6;have q0:=xA h2 0;have q1:=xA h2 1;have z0:=xC h2 0;have z1:=xC h2 1;simp only[gA,gB,gC] at o0 o1 o2 o3 o4 o5 o6 q0 q1;clear h1 h2 H0;rw[show w.heap.size+1+1=w.heap.size+2 from rfl];go_wp2;have h1:=HP.o.o1;have h2:=HP.o.o2;rw[if_pos rfl] at h1 h2
  obtain⟨f0,f1,f2,f3,f4,f5,f6⟩:=qO h1;obtain⟨g0,g1⟩:=zQ h2;have HB:=ι HP.o.bel
  refine bodyPost_ret (v:=.tuple #[.agg #[.string ⟨#[]⟩,.string ⟨#[]⟩,.string ⟨#[]⟩,.int .i64 0,.slice none 0 0,.slice none 0 0,.int .i64 0],.agg #[.slice none 0 0,.slice none 0 0],.int .i64 ae]) (by simp[results,Tryz.results8,go_sem,f0,f1,f2,f3,f4,f5,f6,g0,g1]) rfl ?_
  rw[<-HPO.o];exact HBAD.o _ HB.o
 subst hae;rw[if_neg σ] at HLE;have hb:=H3.o.2;obtain⟨a0,a1,a2,a3,a4,a5,a6,a7⟩:=yBn hb;clear hb;go_upto_region 6 with fail
 go_wp2_with fail
 refine(HUL.o _ (H3.o.1 vJ vB).bel).mono ?_;rintro e w4 ⟨v,rfl,hv,hb4⟩;have H4:=ι (And.intro (λso dd=>(H3.o.1 so dd).below hb4) (xB H3.o.2 hb4 (xG H3.o.2)));clear H3 HUL hb4 a0 a1 a2 a3 a4 a5 a6 a7;have HV:=ι hv;obtain⟨A3,k3,rfl,hk3,_⟩:=hv
 by_cases hue:ue=0
 case neg=>
  have HBAD:=ι (HBA.o ue (by rw[HLE.o,if_pos hue]) hue);have HW:=ι (H4.o.1 vJ vB);clear H4 HLE HBA HV;go_upto_region 8 with fail
  have h1:=HW.o.o1;have h2:=HW.o.o2;rw[if_neg σ] at h1 h2;have HP:=ι (LgN.xRy (LgN.kE HW.o (l:=[.string ⟨#[]⟩,.string ⟨#[]⟩,.string ⟨#[]⟩,.int .i64 0,.slice none 0 0,.slice none 0 0,.int .i64 0]) rfl rfl) (l:=[.slice none 0 0,.slice none 0 0]) rfl rfl)
  simp only[xU,Nat.reduceAdd] at HP;have H0:=HW;clear HW;have o0:=xA h1 0;have o1:=xA h1 1;have o2:=xA h1 2;have o3:=xA h1 3;have o4:=xA h1 4;have o5:=xA h1 5;have o6:=xA h1 6;have y0:=xC h1 0;have y1:=xC h1 1;have y2:=xC h1 2;have y3:=xC h1 3;have y4:=xC h1 4;have y5:=xC h1 5
  have y6:=xC h1 6;have q0:=xA h2 0;have q1:=xA h2 1;have z0:=xC h2 0;have z1:=xC h2 1;simp only[gA,gB,gC] at o0 o1 o2 o3 o4 o5 o6 q0 q1;clear h1 h2 H0;rw[show w.heap.size+1+1=w.heap.size+2 from rfl];go_wp2;have h1:=HP.o.o1;have h2:=HP.o.o2;rw[if_pos rfl] at h1 h2
  obtain⟨f0,f1,f2,f3,f4,f5,f6⟩:=qO h1;obtain⟨g0,g1⟩:=zQ h2;have HB:=ι HP.o.bel
  refine bodyPost_ret (v:=.tuple #[.agg #[.string ⟨#[]⟩,.string ⟨#[]⟩,.string ⟨#[]⟩,.int .i64 0,.slice none 0 0,.slice none 0 0,.int .i64 0],.agg #[.slice none 0 0,.slice none 0 0],.int .i64 ue]) (by simp[results,Tryz.results8,go_sem,f0,f1,f2,f3,f4,f5,f6,g0,g1]) rfl ?_
  rw[<-HPO.o];exact HBAD.o _ HB.o
 subst hue;rw[if_neg σ] at HLE
 have HKS:Hid (∃p,lgK d u pw=[p]∨∃o,lgK d u pw=[p,o]):=ι (by
  unfold lgK xUv;rw[HUE.o,if_pos rfl];split
  ·exact⟨_,.inl rfl⟩
  ·exact⟨_,.inr ⟨_,rfl⟩⟩)
 obtain⟨xI,hk⟩:=HKS.o;rcases hk with hk|⟨old,hk⟩
 case' inr=>
  have HPR:Hid (jI d u pw=xI):=ι (by unfold jI;rw[hk];rfl);have HOR:Hid (xEw d u pw=old):=ι (by unfold xEw;rw[hk];rfl);have HPK:Hid (xI∈lgK d u pw):=ι (by rw[hk];simp);rw[hk,show[xI,old].map (λb:ByteArray=>b.data.toList)=[xI.data.toList,old.data.toList] from rfl] at HV
  rw[hk] at hk3;obtain⟨_,_,he,_,hcl⟩:=HV.o;injection he with he1 he2 he3;subst he1 he3;obtain⟨b3,f3,rfl,hb3,hcs⟩:=hcl σ;have HV:=ι (And.intro hb3 (hcs 0 _ rfl));have HV2:=ι (And.intro hb3 (hcs 1 _ rfl));rw[show xO xI.data.toList=.string xI from rfl] at HV
  rw[show xO old.data.toList=.string old from rfl] at HV2;rw[hk];clear hcs hb3 hcl HKS hk;have hk3':2<=k3:=hk3;clear hk3;go_upto_region 9 with fail
  rw[Nat.add_zero] at HV;have H5:Hid (∀w5,Below w4.heap.size w4 w5->(∀so dd,LgN w (.slice A1 d.secs.length c1) (.slice A2 d.cache.length c2) so dd false false w5)):=ι (λw5 hb so dd=>(H4.o.1 so dd).below hb)
  refine RG.kW [8] [7] (λL α W=>Hid (J7 w4 (vO u xI ⟨#[]⟩ te (.slice none 0 0) (.slice none 0 0) 0) L α W)) (λL L' α α' W hl ha h=>ι ⟨h.o.b,λe=>by
   have l7:=hl 7 σ;have l8:=hl 8 σ;rw[<-ha 7 σ (l7.trans e),<-l8];exact h.o.n (l7.trans e)⟩) κ κ κ (ι ⟨(Below.refl _ _).drew,λe=>(by cases e)⟩) ?_
  iterate 3 refine RG.aS ?_
  refine RG.aF (λα L w9 h0 hcl xN hw9=>(hw9.o.b.cell (p:=⟨b3,f3,none⟩) HV.o.1).trans HV.o.2) ?_;refine RG.aS ?_;apply RG.jW
  ·rfl
  ·rfl
  ·intro α L w9 h0 hcl xN hw9;have hb:=xB H4.o.2 hw9.o.b (xG H4.o.2);have a3:=xA hb 3;simp only[gA,gB,gC] at a3;repeat go_step
   with_reducible exact RG.xD hw9
  ·intro α;rfl
  refine RG.aS ?_;apply RG.xN2
  ·rfl
  ·intro α L w9 b hb h0 hcl hw9;have e8:=hcl.not 9 (i:=8) h0 κ;repeat go_step
   rw[<-hb];with_reducible refine RG.xD ?_
   refine ι ⟨hw9.o.b.alloc hw9.o.b.size _,λ_=>?_⟩;rw[RG.rA,if_neg (by simp[e8]),hb];exact⟨hw9.o.b.size,xL _ _⟩
  ·intro b α;rfl
  apply RG.xIp (v:=undef)
  ·rfl
  ·rfl
  ·intro α L w9 h0 hcl xN hw9;have h7:L 7=true:=by simpa using xN.yes 9 (i:=8) (j:=7) σ κ
   obtain⟨hle,hx⟩:=hw9.o.n h7;rw[h0,if_neg σ] at hx;obtain⟨o0,y0,f0,o1,y1,f1,o2,y2,f2,o3,y3,f3,o4,y4,f4,o5,y5,f5,o6,y6,f6,HB⟩:=yF3 hx hw9.o.b ω (.string u) (.string xI) (.string ⟨#[]⟩) (.int .i64 te) (.slice none 0 0) (.slice none 0 0) (.int .i64 0) _ rfl
   have hx2:=yU (b:=α 7) (l:=[.string u,.string xI,.string ⟨#[]⟩,.int .i64 te,.slice none 0 0,.slice none 0 0,.int .i64 0]) hx rfl;simp only[xU,Nat.reduceAdd] at hx2;have HX:=ι hx2;clear hx hx2;repeat go_step
   with_reducible refine RG.xD ?_
   exact ι ⟨HB.o,λ_=>⟨hle,by rw[if_pos σ];exact HX.o⟩⟩
  ·intro α;rfl
  refine RG.wK (λα w5 hw5=>?_);obtain⟨hle,hx⟩:=hw5.o.n rfl;rw[if_pos rfl] at hx;simp only[Nat.zero_add,Nat.reduceAdd];generalize α 7=g at hle hx⊢
  have H6:=ι (And.intro (H5.o w5 hw5.o.b) (And.intro hx (show w.heap.size+3<=g from Nat.le_trans (by have:=xG (H4.o.1 vJ vB).o2;omega) hle)));have HB45:=ι hw5.o.b;clear hw5 hx hle H5 H4 HV;have q:=(HB45.o.cell (p:=⟨b3,f3+1,none⟩) HV2.o.1).trans HV2.o.2;have hs:=H6.o.2.1
  have o2:=xA hs 2;have y2:=xC hs 2;simp only[gA,gB,gC] at o2;have hb2:=xY hs 2 (.string old);simp only[List.setIfInBounds_toArray,List.set_cons_succ,List.set_cons_zero] at hb2;have HN:=ι (And.intro (λso dd=>(H6.o.1 so dd).far H6.o.2.2 [.string old] 2) (And.intro hb2 H6.o.2.2))
  simp only[xU] at HN;clear hs hb2 HV2 HB45;clear H6;go_upto_region 12 with fail
  have H6:=HN;clear HN q o2 y2;obtain⟨w5b,hw5b⟩:∃w5b,w5.setCell ⟨g,2,none⟩ (.string old)=w5b:=⟨_,rfl⟩;rw[hw5b] at H6;rw[hw5b];clear hw5b
 case' inl=>
  have HPR:Hid (jI d u pw=xI):=ι (by unfold jI;rw[hk];rfl);have HOR:Hid (xEw d u pw=⟨#[]⟩):=ι (by unfold xEw;rw[hk];rfl);have HPK:Hid (xI∈lgK d u pw):=ι (by rw[hk];simp);rw[hk,show[xI].map (λb:ByteArray=>b.data.toList)=[xI.data.toList] from rfl] at HV;rw[hk] at hk3
  obtain⟨_,_,he,_,hcl⟩:=HV.o;injection he with he1 he2 he3;subst he1 he3;obtain⟨b3,f3,rfl,hb3,hcs⟩:=hcl σ;have HV:=ι (And.intro hb3 (hcs 0 _ rfl));rw[show xO xI.data.toList=.string xI from rfl] at HV;rw[hk];clear hcs hb3 hcl HKS hk;have hk3':1<=k3:=hk3;clear hk3
  go_upto_region 9 with fail
  rw[Nat.add_zero] at HV;have H5:Hid (∀w5,Below w4.heap.size w4 w5->(∀so dd,LgN w (.slice A1 d.secs.length c1) (.slice A2 d.cache.length c2) so dd false false w5)):=ι (λw5 hb so dd=>(H4.o.1 so dd).below hb)
  refine RG.kW [8] [7] (λL α W=>Hid (J7 w4 (vO u xI ⟨#[]⟩ te (.slice none 0 0) (.slice none 0 0) 0) L α W)) (λL L' α α' W hl ha h=>ι ⟨h.o.b,λe=>by
   have l7:=hl 7 σ;have l8:=hl 8 σ;rw[<-ha 7 σ (l7.trans e),<-l8];exact h.o.n (l7.trans e)⟩) κ κ κ (ι ⟨(Below.refl _ _).drew,λe=>(by cases e)⟩) ?_
  iterate 3 refine RG.aS ?_
  refine RG.aF (λα L w9 h0 hcl xN hw9=>(hw9.o.b.cell (p:=⟨b3,f3,none⟩) HV.o.1).trans HV.o.2) ?_;refine RG.aS ?_;apply RG.jW
  ·rfl
  ·rfl
  ·intro α L w9 h0 hcl xN hw9;have hb:=xB H4.o.2 hw9.o.b (xG H4.o.2);have a3:=xA hb 3;simp only[gA,gB,gC] at a3;repeat go_step
   with_reducible exact RG.xD hw9
  ·intro α;rfl
  refine RG.aS ?_;apply RG.xN2
  ·rfl
  ·intro α L w9 b hb h0 hcl hw9;have e8:=hcl.not 9 (i:=8) h0 κ;repeat go_step
   rw[<-hb];with_reducible refine RG.xD ?_
   refine ι ⟨hw9.o.b.alloc hw9.o.b.size _,λ_=>?_⟩;rw[RG.rA,if_neg (by simp[e8]),hb];exact⟨hw9.o.b.size,xL _ _⟩
  ·intro b α;rfl
  apply RG.xIp (v:=undef)
  ·rfl
  ·rfl
  ·intro α L w9 h0 hcl xN hw9;have h7:L 7=true:=by simpa using xN.yes 9 (i:=8) (j:=7) σ κ
   obtain⟨hle,hx⟩:=hw9.o.n h7;rw[h0,if_neg σ] at hx;obtain⟨o0,y0,f0,o1,y1,f1,o2,y2,f2,o3,y3,f3,o4,y4,f4,o5,y5,f5,o6,y6,f6,HB⟩:=yF3 hx hw9.o.b ω (.string u) (.string xI) (.string ⟨#[]⟩) (.int .i64 te) (.slice none 0 0) (.slice none 0 0) (.int .i64 0) _ rfl
   have hx2:=yU (b:=α 7) (l:=[.string u,.string xI,.string ⟨#[]⟩,.int .i64 te,.slice none 0 0,.slice none 0 0,.int .i64 0]) hx rfl;simp only[xU,Nat.reduceAdd] at hx2;have HX:=ι hx2;clear hx hx2;repeat go_step
   with_reducible refine RG.xD ?_
   exact ι ⟨HB.o,λ_=>⟨hle,by rw[if_pos σ];exact HX.o⟩⟩
  ·intro α;rfl
  refine RG.wK (λα w5 hw5=>?_);obtain⟨hle,hx⟩:=hw5.o.n rfl;rw[if_pos rfl] at hx;simp only[Nat.zero_add,Nat.reduceAdd];generalize α 7=g at hle hx⊢
  have H6:=ι (And.intro (H5.o w5 hw5.o.b) (And.intro hx (show w.heap.size+3<=g from Nat.le_trans (by have:=xG (H4.o.1 vJ vB).o2;omega) hle)));have HB45:=ι hw5.o.b;clear hw5 hx hle H5 H4 HV;go_upto_region 12 with fail
  obtain⟨old,hold⟩:∃old:ByteArray,(⟨#[]⟩:ByteArray)=old:=⟨_,rfl⟩;rw[hold] at H6 HOR;clear hold
 all_goals
  have HOP:=ι (λW (hb:Below w.heap.size w W)=>xS7 (.slice A1 d.secs.length c1) (.slice A2 d.cache.length c2) d u xI W ((HRD.o.1.below hb ν).more hb.size) (by have:=HRD.o.2.1;omega) (HPS.o xI HPK.o) (HRD.o.2.2.2.1.se.sha.below hb ν));have HLO:=ι (yAq d u xI)
  have HOX:Hid (xCw d u (jI d u pw)=xCw d u xI):=ι (by rw[HPR.o]);rw[HPR.o] at HLE;generalize xCw d u xI=oi at HOP HLO HOX;generalize xSd d u xI=oe at HOP HLE;have hb:=(H6.o.1 vJ vB).d;have hs:=H6.o.2.1;obtain⟨e0,e1⟩:=zQ hb;obtain⟨s0,s1,s2,s3,s4,s5,s6⟩:=qO hs;clear hb hs
  go_wp2_with fail
  refine(HOP.o _ (H6.o.1 vJ vB).bel).mono ?_;rintro e w6 ⟨bv,sv,rfl,ho,hb6⟩;obtain⟨A7,n7,k7,A8,n8,k8,rfl,rfl⟩:=ho.form;have H7:=ι (And.intro (λso dd=>(H6.o.1 so dd).below hb6) (And.intro (xB H6.o.2.1 hb6 (xG H6.o.2.1)) H6.o.2.2));have HO:=ι (ho.less (Nat.zero_le _))
  clear hb6 ho HOP H6 e0 e1 s0 s1 s2 s3 s4 s5 s6
  have H8:Hid ((∀so dd,LgN w (.slice A1 d.secs.length c1) (.slice A2 d.cache.length c2) so dd false false (xU g 4 [.slice A7 n7 k7,.slice A8 n8 k8,.int .i64 oi.given] w6))/\(xU g 4 [.slice A7 n7 k7,.slice A8 n8 k8,.int .i64 oi.given] w6).heap[g]?=some (vO u xI old te (.slice A7 n7 k7) (.slice A8 n8 k8) oi.given)/\w.heap.size+3<=g/\uT 0 (xU g 4 [.slice A7 n7 k7,.slice A8 n8 k8,.int .i64 oi.given] w6) (.slice A7 n7 k7) (.slice A8 n8 k8) oi):=ι ⟨λso dd=>(H7.o.1 so dd).far H7.o.2.2 _ _,by
   have e:=xY (xY (xY H7.o.2.1 4 (.slice A7 n7 k7)) 5 (.slice A8 n8 k8)) 6 (.int .i64 oi.given);simpa[xU] using e,H7.o.2.2,HO.o.set H7.o.2.1 δ δ δ _ 4⟩
  have hs:=H7.o.2.1;have o4:=xA hs 4;have o5:=xA hs 5;have o6:=xA hs 6;have y4:=xC hs 4;have y5:=xC hs 5;have y6:=xC hs 6;simp only[gA,gB,gC] at o4 o5 o6;clear hs H7 HO;go_upto_region 13 with fail
  obtain⟨w7,hw7⟩:∃w7,xU g 4 [.slice A7 n7 k7,.slice A8 n8 k8,.int .i64 oi.given] w6=w7:=⟨_,rfl⟩;rw[hw7] at H8;simp only[xU,Nat.reduceAdd] at hw7;rw[hw7];clear hw7 o4 o5 o6 y4 y5 y6
  by_cases hoe:oe=0
  case neg=>
   have HBAD:=ι (HBA.o oe HLE.o hoe);have HW:=ι (H8.o.1 vJ vB);clear H8 HLE HBA HLO HOX;go_upto_region 14 with fail
   have h1:=HW.o.o1;have h2:=HW.o.o2;rw[if_neg σ] at h1 h2;have HP:=ι (LgN.xRy (LgN.kE HW.o (l:=[.string ⟨#[]⟩,.string ⟨#[]⟩,.string ⟨#[]⟩,.int .i64 0,.slice none 0 0,.slice none 0 0,.int .i64 0]) rfl rfl) (l:=[.slice none 0 0,.slice none 0 0]) rfl rfl)
   simp only[xU,Nat.reduceAdd] at HP;have H0:=HW;clear HW;have o0:=xA h1 0;have o1:=xA h1 1;have o2:=xA h1 2;have o3:=xA h1 3;have o4:=xA h1 4;have o5:=xA h1 5;have o6:=xA h1 6;have y0:=xC h1 0;have y1:=xC h1 1;have y2:=xC h1 2;have y3:=xC h1 3;have y4:=xC h1 4;have y5:=xC h1 5
   have y6:=xC h1 6;have q0:=xA h2 0;have q1:=xA h2 1;have z0:=xC h2 0;have z1:=xC h2 1;simp only[gA,gB,gC] at o0 o1 o2 o3 o4 o5 o6 q0 q1;clear h1 h2 H0;rw[show w.heap.size+1+1=w.heap.size+2 from rfl];go_wp2;have h1:=HP.o.o1;have h2:=HP.o.o2;rw[if_pos rfl] at h1 h2
   obtain⟨f0,f1,f2,f3,f4,f5,f6⟩:=qO h1;obtain⟨g0,g1⟩:=zQ h2;have HB:=ι HP.o.bel
   refine bodyPost_ret (v:=.tuple #[.agg #[.string ⟨#[]⟩,.string ⟨#[]⟩,.string ⟨#[]⟩,.int .i64 0,.slice none 0 0,.slice none 0 0,.int .i64 0],.agg #[.slice none 0 0,.slice none 0 0],.int .i64 oe]) (by simp[results,Tryz.results8,go_sem,f0,f1,f2,f3,f4,f5,f6,g0,g1]) rfl ?_
   rw[<-HPO.o];exact HBAD.o _ HB.o
  subst hoe;clear HBA;have HGX:Hid (lgX d u pw xE=xYz d u xI old te oi xE):=ι (by unfold lgX;rw[if_pos HLE.o,HOX.o,HPR.o,HOR.o,HAR.o]);have HGD:Hid (lgD d u pw xE=xO0 d u xI old te oi xE):=ι (by unfold lgD;rw[if_pos HLE.o,HOX.o,HPR.o,HOR.o,HAR.o])
  have HMG:=ι (xWb (.slice A1 d.secs.length c1) (.slice A2 d.cache.length c2) d u xI old xE te (.slice A7 n7 k7) (.slice A8 n8 k8) oi w7 ((HRD.o.1.below (H8.o.1 vJ vB).bel ν).more (H8.o.1 vJ vB).bel.size) H8.o.2.2.2 HLO.o HRD.o.2.1 (HPS.o xI HPK.o) HRD.o.2.2.2.2 HRD.o.2.2.1 (HRD.o.2.2.2.1.below (H8.o.1 vJ vB).bel))
  unfold xYq at HMG;have HSEC:=ι (λh=>yE0 (d:=d) (u:=u) (xI:=xI) (old:=old) (xE:=xE) (ep:=te) (x:=oi) h);have HND:Hid (xO1 d u xI old te oi xE=false->xO0 d u xI old te oi xE=d):=ι (λh=>by unfold xO0;rw[h];rfl)
  have HLM:Hid (lgM d u pw xE=xO1 d u xI old te oi xE):=ι (by unfold lgM;rw[HOX.o,HPR.o,HOR.o,HAR.o]);have HAE2:Hid ((wH d u).xAb=te):=ι (by rw[HAR.o]);generalize xYz d u xI old te oi xE=rx at HMG HGX;generalize xO0 d u xI old te oi xE=rd at HMG HGD HSEC HND
  generalize xO1 d u xI old te oi xE=ok at HMG HSEC HND HLM;have hb:=(H8.o.1 vJ vB).d;have hs:=H8.o.2.1;obtain⟨e0,e1⟩:=zQ hb;obtain⟨s0,s1,s2,s3,s4,s5,s6⟩:=qO hs;clear hb hs;go_upto_region 15 with fail
  go_wp2_with fail
  refine HMG.o.mono ?_;rintro e w8 ⟨bv',sv',va',vb',hok,rfl,hox,hrd,hb8⟩;obtain⟨A9,n9,k9,A10,n10,k10,rfl,rfl⟩:=hox.form;obtain⟨A11,k11,A12,k12,rfl,rfl⟩:=yE hrd;have HOK:=ι hok
  have H9:=ι (And.intro (λso dd=>(H8.o.1 so dd).below hb8) (And.intro (xB H8.o.2.1 hb8 (xG H8.o.2.1)) (And.intro H8.o.2.2.1 (And.intro hox hrd))));clear hb8 hok hox hrd HMG H8 e0 e1 s0 s1 s2 s3 s4 s5 s6
  have HD9:Hid ((xU g 0 [.string u,.string xI,.string old,.int .i64 te,.slice A9 n9 k9,.slice A10 n10 k10,.int .i64 rx.given] w8).heap[w.heap.size]?=some (xX (.slice A1 d.secs.length c1) (.slice A2 d.cache.length c2))):=ι (xM (by have:=H9.o.2.2.1;omega) _ 0 _ (H9.o.1 vJ vB).d)
  have H10:Hid ((∀so dd,LgN w (.slice A11 rd.secs.length k11) (.slice A12 rd.cache.length k12) so dd false false (xU w.heap.size 0 [.slice A11 rd.secs.length k11,.slice A12 rd.cache.length k12] (xU g 0 [.string u,.string xI,.string old,.int .i64 te,.slice A9 n9 k9,.slice A10 n10 k10,.int .i64 rx.given] w8)))/\((xU w.heap.size 0 [.slice A11 rd.secs.length k11,.slice A12 rd.cache.length k12] (xU g 0 [.string u,.string xI,.string old,.int .i64 te,.slice A9 n9 k9,.slice A10 n10 k10,.int .i64 rx.given] w8))).heap[g]?=some (vO u xI old te (.slice A9 n9 k9) (.slice A10 n10 k10) rx.given)/\w.heap.size+3<=g/\uT 0 (xU w.heap.size 0 [.slice A11 rd.secs.length k11,.slice A12 rd.cache.length k12] (xU g 0 [.string u,.string xI,.string old,.int .i64 te,.slice A9 n9 k9,.slice A10 n10 k10,.int .i64 rx.given] w8)) (.slice A9 n9 k9) (.slice A10 n10 k10) rx/\((∀s∈rd.secs,s≠[])->RdD (xU w.heap.size 0 [.slice A11 rd.secs.length k11,.slice A12 rd.cache.length k12] (xU g 0 [.string u,.string xI,.string old,.int .i64 te,.slice A9 n9 k9,.slice A10 n10 k10,.int .i64 rx.given] w8)) ((xU w.heap.size 0 [.slice A11 rd.secs.length k11,.slice A12 rd.cache.length k12] (xU g 0 [.string u,.string xI,.string old,.int .i64 te,.slice A9 n9 k9,.slice A10 n10 k10,.int .i64 rx.given] w8))).heap.size (.slice A11 rd.secs.length k11) (.slice A12 rd.cache.length k12) rd)):=ι ⟨λso dd=>((H9.o.1 so dd).far H9.o.2.2.1 _ _).newd,by
   refine xM (by have:=H9.o.2.2.1;omega) _ 0 _ ?_;exact yU H9.o.2.1 rfl,H9.o.2.2.1,(H9.o.2.2.2.1.set H9.o.2.1 δ δ δ _ 0).set HD9.o δ δ δ _ 0,λhs=>by
   have r1:=(xA2 H9.o.2.2.2.2 hs (xYf H9.o.2.1 (.slice A9 n9 k9) (.slice A10 n10 k10) (.int .i64 rx.given)) (xF7 H9.o.2.1)).more (xFi g 0 [.string u,.string xI,.string old,.int .i64 te,.slice A9 n9 k9,.slice A10 n10 k10,.int .i64 rx.given] w8)
   exact(xA2 r1 hs (yBs HD9.o [.slice A11 rd.secs.length k11,.slice A12 rd.cache.length k12]) (yAc HD9.o)).more (xFi _ _ _ _)⟩
  have hs:=H9.o.2.1;have hd:=(H9.o.1 vJ vB).d;have o0:=xA hs 0;have o1:=xA hs 1;have o2:=xA hs 2;have o3:=xA hs 3;have o4:=xA hs 4;have o5:=xA hs 5;have o6:=xA hs 6;have q0:=xA hd 0;have q1:=xA hd 1;have y0:=xC hs 0;have y1:=xC hs 1;have y2:=xC hs 2;have y3:=xC hs 3
  have y4:=xC hs 4;have y5:=xC hs 5;have y6:=xC hs 6;have z0:=xC hd 0;have z1:=xC hd 1;simp only[gA,gB,gC] at o0 o1 o2 o3 o4 o5 o6 q0 q1;have hne:¬(w.heap.size=g):=by have:=H9.o.2.2.1;omega
  have hne2:¬(g=w.heap.size):=by omega
  clear hs hd H9 HD9;go_upto_region 16 with fail
  obtain⟨w9,hw9⟩:∃w9,(xU w.heap.size 0 [.slice A11 rd.secs.length k11,.slice A12 rd.cache.length k12] (xU g 0 [.string u,.string xI,.string old,.int .i64 te,.slice A9 n9 k9,.slice A10 n10 k10,.int .i64 rx.given] w8))=w9:=⟨_,rfl⟩;rw[hw9] at H10;simp only[xU,Nat.reduceAdd] at hw9
  rw[hw9];clear hw9 o0 o1 o2 o3 o4 o5 o6 y0 y1 y2 y3 y4 y5 y6 q0 q1 z0 z1 hne hne2
  refine RG.zJ [2,3] (λL W=>Hid (LgN w (.slice A11 rd.secs.length k11) (.slice A12 rd.cache.length k12) (vO u xI old te (.slice A9 n9 k9) (.slice A10 n10 k10) rx.given) (xX (.slice A11 rd.secs.length k11) (.slice A12 rd.cache.length k12)) (L 2) (L 3) W/\W.heap[g]?=some (vO u xI old te (.slice A9 n9 k9) (.slice A10 n10 k10) rx.given)/\uT 0 W (.slice A9 n9 k9) (.slice A10 n10 k10) rx/\((∀s∈rd.secs,s≠[])->RdD W W.heap.size (.slice A11 rd.secs.length k11) (.slice A12 rd.cache.length k12) rd))) (λL L' W hl h=>by rw[<-hl 2 σ,<-hl 3 σ];exact h) κ κ κ (ι ⟨(H10.o.1 _ _).drew,H10.o.2.1,H10.o.2.2.2.1.below (Below.refl _ _).drew,λhs=>(H10.o.2.2.2.2 hs).below (Below.refl _ _).drew ν⟩) ?_
  refine RG.lF (λL w9 hw9=>qO hw9.o.2.1) ?_;refine RG.lF (λL w9 hw9=>zQ hw9.o.1.d) ?_;apply RG.yL
  ·rfl
  ·intro L w9 h0 _ hw9;obtain⟨h9,h10,h11,h12⟩:=hw9.o;rw[h0] at h9;have hx:=h9.o1;rw[if_neg σ] at hx;have hgg:=H10.o.2.2.1
   have HP:=ι (And.intro (LgN.kE h9 (l:=[.string u,.string xI,.string old,.int .i64 te,.slice A9 n9 k9,.slice A10 n10 k10,.int .i64 rx.given]) rfl rfl) (And.intro (xM (b:=w.heap.size+1) (g:=g) ω [.string u,.string xI,.string old,.int .i64 te,.slice A9 n9 k9,.slice A10 n10 k10,.int .i64 rx.given] 0 w9 h10) (And.intro (h11.set hx δ δ δ [.string u,.string xI,.string old,.int .i64 te,.slice A9 n9 k9,.slice A10 n10 k10,.int .i64 rx.given] 0) (λhs=>(xA2 (h12 hs) hs (xMi hx [.string u,.string xI,.string old,.int .i64 te,.slice A9 n9 k9,.slice A10 n10 k10,.int .i64 rx.given]) (xF7 hx)).more (xFi (w.heap.size+1) 0 [.string u,.string xI,.string old,.int .i64 te,.slice A9 n9 k9,.slice A10 n10 k10,.int .i64 rx.given] w9)))))
   simp only[xU,Nat.reduceAdd] at HP;obtain⟨o0,y0,f0,o1,y1,f1,o2,y2,f2,o3,y3,f3,o4,y4,f4,o5,y5,f5,o6,y6,f6,HB⟩:=yF3 hx h9.bel ω (.string u) (.string xI) (.string old) (.int .i64 te) (.slice A9 n9 k9) (.slice A10 n10 k10) (.int .i64 rx.given) _ rfl;clear hx h9 hw9 h10 h11 h12
   repeat go_step
   with_reducible refine RG.xD ?_
   exact HP
  ·rfl
  apply RG.yL
  ·rfl
  ·intro L w9 h0 _ hw9;obtain⟨h9,h10,h11,h12⟩:=hw9.o;rw[h0] at h9;have hx:=h9.o2;rw[if_neg σ] at hx;have hgg:=H10.o.2.2.1
   have HP:=ι (And.intro (LgN.xRy h9 (l:=[.slice A11 rd.secs.length k11,.slice A12 rd.cache.length k12]) rfl rfl) (And.intro (xM (b:=w.heap.size+2) (g:=g) ω [.slice A11 rd.secs.length k11,.slice A12 rd.cache.length k12] 0 w9 h10) (And.intro (h11.set hx δ δ δ [.slice A11 rd.secs.length k11,.slice A12 rd.cache.length k12] 0) (λhs=>(xA2 (h12 hs) hs (xMj hx [.slice A11 rd.secs.length k11,.slice A12 rd.cache.length k12]) (xLh hx)).more (xFi (w.heap.size+2) 0 [.slice A11 rd.secs.length k11,.slice A12 rd.cache.length k12] w9)))))
   simp only[xU,Nat.reduceAdd] at HP;obtain⟨o0,y0,f0,o1,y1,f1,HB⟩:=xMe hx h9.bel ω (.slice A11 rd.secs.length k11) (.slice A12 rd.cache.length k12) _ rfl;clear hx h9 hw9 h10 h11 h12;repeat go_step
   with_reducible refine RG.xD ?_
   exact HP
  ·rfl
  refine RG.lS ?_;refine RG.yI (λw10 hw10=>?_);have HP:=ι hw10.o.1;have HO:=ι hw10.o.2.2;clear hw10 H10;have h1:=HP.o.o1;have h2:=HP.o.o2;rw[if_pos rfl] at h1 h2;obtain⟨f0,f1,f2,f3,f4,f5,f6⟩:=qO h1;obtain⟨g0,g1⟩:=zQ h2;have HB:=ι HP.o.bel;clear h1 h2 HP;go_wp2
  refine bodyPost_ret (v:=.tuple #[xTv u xI old te (.slice A9 n9 k9) (.slice A10 n10 k10) rx.given,.agg #[.slice A11 rd.secs.length k11,.slice A12 rd.cache.length k12],.int .i64 0]) (by simp[results,Tryz.results8,go_sem,f0,f1,f2,f3,f4,f5,f6,g0,g1]) rfl ?_;rw[<-HPO.o]
  refine⟨_,_,_,_,_,_,_,_,by rw[HGX.o,HLE.o],λ_=>⟨rfl,HPR.o.symm,HOR.o.symm,HAE2.o.symm⟩,λ_ hm=>HOK.o (HLM.o.symm.trans hm),by rw[HGX.o];exact HO.o.1,?_,HB.o⟩;rw[HGD.o];cases hk:ok with
  |true=>exact HO.o.2 (HSEC.o hk)
  |false=>
   obtain⟨e1,e2⟩:=HOK.o hk;rw[HND.o hk] at e1 e2⊢;rw[e1,e2];exact(HRD.o.1.below HB.o ν).more HB.o.size
end Go.Proofs.VA
namespace Go.Proofs.IM
open Go.RowKit MM BU Mailsack SV RK DS IX Go.Proofs.VA
theorem xV1 (T:List Tok) (v:Value) (w:World) (h:RdR 2 tkF w w.heap.size v T) (h0:∀t∈T,t.1=0) (hn:T.length<=100) (hp:0<T.length):
  Calls Tryz.prog 122 #[v,.int .i64 (T.length:Nat)] w λe w'=>∃A9 c9 A c,e=.returned (.tuple #[.slice A9 T.length c9,.slice A 0 c,.bool true])/\xV 9 1 txF w' w.heap.size (.slice A9 T.length c9) (T.map (·.2))/\Below w.heap.size w w':=by
 have H0:=ι h0;obtain⟨A,c,rfl,hc,h3⟩:=h;obtain⟨g,off,rfl,hg,hcs⟩:=h3 hp;have HC:=ι (And.intro hg hcs);obtain⟨n,hn9⟩:∃n,T.length=n:=⟨_,rfl⟩;have HN:=ι hn9;rw[hn9] at hc hn hp⊢
 have HX:Hid (xV 9 1 txF w w.heap.size (.slice none 0 0) ((T.map (·.2)).take 0)/\Below w.heap.size w w):=ι ⟨xV.nil _ _,Below.refl _ _⟩;clear h3 hg h0 hn9 hcs;go_enter Tryz.func122,Tryz.ntmps122;go_wp2_with fail
 go_loopw [7,18] (λtv iv wr=>∃k:Nat,k<=n/\iv=.int .i64 k/\Hid (xV 9 1 txF wr w.heap.size tv ((T.map (·.2)).take k)/\Below w.heap.size w wr)) (λ_ iv _=>n- (intOf iv).toNat)
 case atStart=>exact⟨0,Nat.zero_le _,rfl,HX⟩
 case round=>
  obtain⟨k,hk,rfl,HI⟩:=hrel;clear HX
  by_cases hlt:k<n
  ·obtain⟨x,hx⟩:∃x,T[k]?=some x:=⟨_,List.getElem?_eq_getElem (by rw[HN.o];exact hlt)⟩;have hx0:=H0.o x (List.mem_of_getElem? hx);obtain⟨x1,xs⟩:=x;simp only at hx0;subst hx0;have q0:=(HI.o.2.cell (p:=⟨g,off+k*2+0,none⟩) HC.o.1).trans (HC.o.2 k _ hx 0 _ rfl)
   have q1:=(HI.o.2.cell (p:=⟨g,off+k*2+1,none⟩) HC.o.1).trans (HC.o.2 k _ hx 1 _ rfl);rw[Nat.add_zero] at q0;have HS:Hid ((T.map (·.2)).take (k+1)=(T.map (·.2)).take k++[xs]):=ι (by rw[List.take_add_one,List.getElem?_map,hx];rfl)
   have HTL:Hid (((T.map (·.2)).take k).length=k):=ι (by rw[List.length_take,List.length_map,HN.o];omega);have HA:=ι (And.intro (HI.o.1.alloc (.cells #[.int .i64 0,xO xs] 75)) (HI.o.2.alloc HI.o.2.size (.cells #[.int .i64 0,xO xs] 75)))
   have hbx:=xL wr (.cells #[.int .i64 0,xO xs] 75);obtain⟨x0,x1⟩:=zQ hbx;generalize (T.map (·.2)).take k=L at HI HS HTL HA;clear hx hbx HI;go_upto_region 7 with fail
   clear q0 q1;generalize wr.alloc (.cells #[.int .i64 0,xO xs] 75)=w3 at HA x0 x1⊢
   have HAD:Hid (∀v8 w8,qP 9 1 txF (w3.alloc (.cells #[xO xs] 9)) w8 w.heap.size u7 v8 (L++[xs])->Hid (xV 9 1 txF w8 w.heap.size v8 ((T.map (·.2)).take (k+1))/\Below w.heap.size w w8)):=ι λv8 w8 h8=>ι ⟨by rw[HS.o];exact h8.own,h8.bel (HA.o.1.alloc _) ν (HA.o.2.alloc HA.o.2.size _) (by have:=HA.o.2.size;simp;omega)⟩
   have hsz:=HA.o.2.size;go_wp2_with (at_builtin;refine zY tyTx rfl _ _ rfl rfl rfl (HA.o.1.alloc _) (RdR.lit (m:=[xs]) xC3 _ _ rfl) (by have:=HTL.o;simp;omega) (by simp;omega) ?_;intro v8 w8 h8;have HA8:=HAD.o _ _ h8;clear h8)
   exact⟨⟨k+1,ω,by go_num,HA8⟩,by simp[intOf];omega⟩
  ·obtain rfl:k=n:=by omega
   have HO:Hid (xV 9 1 txF wr w.heap.size u7 (T.map (·.2))/\Below w.heap.size w wr):=ι ⟨by have:=HI.o.1;rwa [List.take_of_length_le (by rw[List.length_map,HN.o];exact Nat.le_refl _)] at this,HI.o.2⟩;obtain⟨A9,c9,hu7,_⟩:=HO.o.1.form;rw[List.length_map,HN.o] at hu7;subst hu7
   clear HI hlt hk
   by_cases hcn:c=k
   ·subst hcn;go_upto_region 11 with fail
    refine RG.xP (λW=>Hid (Below wr.heap.size wr W)) κ κ (ι (Below.refl _ _).drew) ?_;iterate 7 refine RG.dS ?_
    refine RG.xS (λw9 hw9=>?_);go_wp2;go_ret3;exact⟨_,_,_,_,rfl,HO.o.1.below hw9.o,HO.o.2.trans (hw9.o.mono HO.o.2.size)⟩
   ·have hlt:k<c:=by omega
    go_upto_region 11 with fail
    refine RG.xP (λW=>Hid (Below wr.heap.size wr W)) κ κ (ι (Below.refl _ _).drew) ?_;iterate 7 refine RG.dS ?_
    refine RG.xS (λw9 hw9=>?_);go_wp2;go_ret3;exact⟨_,_,_,_,rfl,HO.o.1.below hw9.o,HO.o.2.trans (hw9.o.mono HO.o.2.size)⟩
theorem xYk (T:List Tok) (v:Value) (w:World) (h:RdR 2 tkF w w.heap.size v T) (h0:∀t∈T,t.1=0) (hn:T.length<=100) (hp:0<T.length):
  Calls Tryz.prog 109 #[v,.int .i64 (T.length:Nat)] w λe w'=>∃A9 c9,e=.returned (.tuple #[.slice A9 T.length c9,.bool true])/\xV 9 1 txF w' w.heap.size (.slice A9 T.length c9) (T.map (·.2))/\Below w.heap.size w w':=by
 have HT:=ι (xV1 T v w h h0 hn hp);clear h h0 hn hp;go_enter Tryz.func109,Tryz.ntmps109;go_wp2_with fail
 refine HT.o.mono ?_;rintro e w1 ⟨A9,c9,A,c,rfl,ho,hb⟩;have HO:=ι (And.intro ho hb);clear ho hb;go_wp2;go_ret2;exact⟨_,_,rfl,HO.o⟩
end Go.Proofs.IM
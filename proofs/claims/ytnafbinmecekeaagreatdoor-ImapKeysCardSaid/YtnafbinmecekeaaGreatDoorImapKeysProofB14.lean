/- Contracts of functions. Conditions: as stated. -/
import Derived.Test.YtnafbinmecekeaaGreatDoorImapKeysProofB13
open Go.Proofs.Tryz
set_option maxHeartbeats 8000000
set_option maxRecDepth 100000
namespace Mailsack
open Go.Proofs.SH
theorem xEb {d:Dk} {u:ByteArray} (h:vI d u=0):zR (zQ d u)=true/\(zQ d u).user=u:=by
 unfold zQ;rw[if_pos h];unfold vI at h;split at h
 ·split at h
  ·rename_i hf
   unfold xGv at hf;simp only[Bool.and_eq_true,decide_eq_true_eq] at hf;have:=hf.1;unfold xAj at this;simp only[Bool.and_eq_true] at this;exact⟨this.2,hf.2⟩
  ·cases h
 ·cases h
theorem xVp {k0 xE pb:ByteArray} {k1:Option ByteArray} (h:∀k,k1=some k->k.size=32):(oldW k0 xE pb k1).size=0∨(oldW k0 xE pb k1).size=48:=by
 cases k1 with
 |none=>exact .inl rfl
 |some k=>exact .inr (by show(rD _ _ _ k).size=48;rw[rC,h k rfl])
theorem xFd {u pb:ByteArray} {ep r:Int} {pw xI xE k0:ByteArray} {k1:Option ByteArray} (hu:vO u=true) (hw:uE xI xE r=true) (hep:ep=0∨ep=1) (hpb:pb.size=32) (h0:k0.size=32) (h1:∀k,k1=some k->k.size=32):zR (xR1 u pb ep pw xI xE r.toNat k0 k1)=true:=by
 have hr:((r.toNat:Nat):Int)=r:=by
  unfold uE at hw;simp only[Bool.and_eq_true,decide_eq_true_eq] at hw;omega
 have hz:(rD (xCq pw xI r.toNat) xE (u++pb) k0).size=48:=by rw[rC,h0]
 have hq:=xVp (xE:=xE) (pb:=pb) (k0:=k0) h1;unfold zR;simp only[xR1,hr,hu,hw,hpb,hz,Bool.true_and,Bool.and_true,decide_true,Bool.and_eq_true,Bool.or_eq_true,decide_eq_true_eq];exact⟨hep,hq⟩
theorem tV {a:zU} (h:zR a=true):vO a.user=true/\(a.vQ=0∨a.vQ=1):=by
 unfold zR at h;simp only[Bool.and_eq_true,Bool.or_eq_true,decide_eq_true_eq] at h;exact⟨h.1.1.1.1.1,h.1.1.1.2⟩
theorem xRv {a:zU} {old pw xI xE:ByteArray} {r:Int} (h:xLn a old xI xE r=0):zR (xMs a old pw xI xE r)=true:=by
 rw[xMs,if_pos h];unfold xLn at h;split at h
 ·rename_i h0
  exact absurd h h0
 ·rename_i h0
  have h0:qA a old=0:=by simpa using h0
  split at h
  ·cases h
  ·rename_i hw
   have hra:=qU h0;have hl:=wL hra;exact xFd (tV hra).1 (by simpa using hw) (tV hra).2 hl.2.2.2.2.2.2.2.1 (kZ hl.2.2.2.2.2.2.2.2.2.1) (xLm hra)
theorem xRu {a:zU} (h:zR a=true):zR (xTf a)=true:=by
 unfold zR at*;simp only[Bool.and_eq_true] at h;simp only[xTf,Bool.and_eq_true];exact⟨h.1,rfl⟩
def xN3 (d:Dk) (u old pw xI xE:ByteArray) (r:Int):Int:=if vI d u≠0 then vI d u else if xLn (zQ d u) old xI xE r≠0 then xLn (zQ d u) old xI xE r else kH d [tN (xMs (zQ d u) old pw xI xE r)]
def xUb (d:Dk) (u old pw xI xE:ByteArray) (r:Int):Dk:=if vI d u≠0 then⟨[],[]⟩ else if xLn (zQ d u) old xI xE r≠0 then⟨[],[]⟩ else uY d [tN (xMs (zQ d u) old pw xI xE r)]
def yB3 (d:Dk) (u:ByteArray):Int:=if vI d u≠0 then vI d u else kH d [tN (xTf (zQ d u))]
def xYk (d:Dk) (u:ByteArray):Dk:=if vI d u≠0 then⟨[],[]⟩ else uY d [tN (xTf (zQ d u))]
end Mailsack
namespace Go.Proofs.VA
open Go.RowKit Mailsack MM BB SH SV RK DS BK Go.Proofs.ST
theorem xEz (W:World) (B:Nat):RdD W B (.slice none 0 0) (.slice none 0 0) ⟨[],[]⟩:=⟨⟨none,0,rfl,Nat.le_refl _,λh=>absurd h δ⟩,⟨none,0,rfl,Nat.le_refl _,λh=>absurd h δ⟩,Nat.zero_le _,Nat.zero_le _⟩
def xDc (D:Dk) (er:Int) (w:World) (e:Ending) (w':World):Prop:=∃va vb,e=.returned (.tuple #[.agg #[va,vb],.int .i64 er])/\RdD w' w'.heap.size va vb D/\ψ w w'
theorem xFh (va vb:Value) (d:Dk) (u old pw xI xE xL:ByteArray) (r:Int) (w:World) (h:RdD w w.heap.size va vb d) (hu:u.size<=1000) (ho:old.size<=1000) (hpw:pw.size<=1000) (hcc:d.cache.length<=10000) (hT:vT w):
  Calls prog 19 #[.agg #[va,vb],.string u,.string old,.string pw,xAb xI xE xL r] w (xDc (xUb d u old pw xI xE r) (xN3 d u old pw xI xE r) w):=by
 obtain⟨A1,c1,A2,c2,rfl,rfl⟩:=xX h;have H0:=ι (bk3 w (xW (.slice A1 d.secs.length c1) (.slice A2 d.cache.length c2)) (uU xI xE xL r) (xW (.slice none 0 0) (.slice none 0 0)))
 have HAC:=ι (λW (hb:ψ w W)=>xC5 (.slice A1 d.secs.length c1) (.slice A2 d.cache.length c2) d u W ((h.below hb ν).more hb.size) ω);have HCH:=ι (λW (hb:ψ w W) (hx:(zQ d u).user.size<=1000)=>xNj (zQ d u) old pw xI xE xL r W hx ho hpw (hT.below hb ν))
 have HVA:=ι (λW (hx:xLn (zQ d u) old xI xE r=0)=>xAi (xMs (zQ d u) old pw xI xE r) W (xRv hx))
 have HAP:=ι (λW lv (hb:ψ w W) (hl:RdR 3 chF W W.heap.size lv [tN (xMs (zQ d u) old pw xI xE r)])=>xD8 (.slice A1 d.secs.length c1) (.slice A2 d.cache.length c2) lv d [tN (xMs (zQ d u) old pw xI xE r)] W ((h.below hb ν).more hb.size) hl (show 1<=500 by decide) hcc (hT.below hb ν))
 have HUZ:Hid (vI d u=0->(zQ d u).user.size<=1000):=ι (λh0=>by rw[(xEb h0).2];exact hu);have HE:Hid (xN3 d u old pw xI xE r=if vI d u≠0 then vI d u else if xLn (zQ d u) old xI xE r≠0 then xLn (zQ d u) old xI xE r else kH d [tN (xMs (zQ d u) old pw xI xE r)]):=ι rfl
 have HD:Hid (xUb d u old pw xI xE r=if vI d u≠0 then⟨[],[]⟩ else if xLn (zQ d u) old xI xE r≠0 then⟨[],[]⟩ else uY d [tN (xMs (zQ d u) old pw xI xE r)]):=ι rfl;generalize xN3 d u old pw xI xE r=ve at HE⊢;generalize xUb d u old pw xI xE r=vd at HD⊢
 generalize vI d u=ac at HAC HE HD HUZ;generalize zQ d u=ar at HAC HCH HVA HAP HE HD HUZ;generalize xLn ar old xI xE r=ce at HCH HVA HE HD;generalize xMs ar old pw xI xE r=ca at HCH HVA HAP HE HD;generalize hla:[tN ca]=la at HAP HE HD;have HAL:=ι hla;clear hla
 generalize kH d la=ae at HAP HE;generalize uY d la=pd at HAP HD;generalize tN ca=cc at HVA HAL;obtain⟨cn,cd,cg⟩:=cc;simp only[chV] at HVA;obtain⟨ru,rs,rr,re,rp,rn,rw',ro⟩:=ar;obtain⟨tu,ts,tr,te,tp,tn,tw,to_⟩:=ca;simp only[vH] at HAC HCH HVA HUZ
 obtain⟨PO,hPO⟩:∃PO,xDc vd ve w=PO:=⟨_,rfl⟩;rw[hPO];have HPO:Hid (∀e w',xDc vd ve w e w'=PO e w'):=ι (λe w'=>by rw[hPO]);clear h hu ho hpw hcc hT hPO;go_enter func19,ntmps19;go_upto_region 1 with fail
 obtain⟨w1,hw1⟩:∃w1,((w.alloc (xW (.slice A1 d.secs.length c1) (.slice A2 d.cache.length c2))).alloc (uU xI xE xL r)).alloc (xW (.slice none 0 0) (.slice none 0 0))=w1:=⟨_,rfl⟩;rw[hw1] at H0;rw[hw1];clear hw1;obtain⟨e0,e1⟩:=zG (H0.o.k 0 _ rfl);go_wp2_with fail
 refine(HAC.o _ H0.o.bel).mono ?_;rintro e w2 ⟨rfl,hb2⟩;have H3:=ι ((H0.o.below hb2).alloc (yI ⟨ru,rs,rr,re,rp,rn,rw',ro⟩));clear H0 HAC hb2 e0 e1;go_upto_region 2 with fail
 obtain⟨w3,hw3⟩:∃w3,w2.alloc (yI ⟨ru,rs,rr,re,rp,rn,rw',ro⟩)=w3:=⟨_,rfl⟩;simp only[List.cons_append,List.nil_append] at H3;rw[hw3] at H3;simp only[yI] at hw3 H3;rw[hw3];clear hw3;generalize w2.heap.size=g2 at H3⊢
 by_cases hac:ac=0
 case neg=>
  have h1:ve=ac:=by rw[HE.o,if_pos hac]
  have h2:vd=⟨[],[]⟩:=by rw[HD.o,if_pos hac]
  obtain⟨er,her⟩:∃er,er=ac:=⟨_,rfl⟩;rw[<-her] at h1 hac⊢;have HRR:=ι (And.intro h2 h1);have i1:(er==0)=false:=by simpa using hac
  have hz:=H3.o.k 2 _ rfl;have hb:=H3.o.bel;clear her h1 h2 HE HD HCH HVA HAP HAL HUZ H3;obtain⟨o0,y0,f0,o1,y1,f1,HB⟩:=xIm hz hb ω (.slice none 0 0) (.slice none 0 0) _ rfl;clear hz hb;go_wp2
  refine bodyPost_ret (v:=.tuple #[.agg #[.slice none 0 0,.slice none 0 0],.int .i64 er]) (by simp[results,results19,go_sem,f0,f1]) rfl ?_;rw[<-HPO.o];exact⟨_,_,by rw[HRR.o.2],by rw[HRR.o.1];exact xEz _ _,HB.o⟩
 subst hac;rw[if_neg σ] at HE HD;go_upto_region 4 with fail
 obtain⟨a0,a1,a2,a3,a4,a5,a6,a7⟩:=xH1 (H3.o.k 3 _ rfl);obtain⟨b0,b1,b2,b3⟩:=yEd (H3.o.k 1 _ rfl);go_wp2_with fail
 refine(HCH.o _ H3.o.bel (HUZ.o (by first|rfl|trivial))).mono ?_;rintro e w4 ⟨rfl,hb4⟩;have H4:=ι (H3.o.below hb4);clear H3 HCH HUZ hb4 a0 a1 a2 a3 a4 a5 a6 a7 b0 b1 b2 b3;have hz:=H4.o.k 3 _ rfl;have o0:=xA hz 0;have y0:=xB hz 0;have o1:=xA hz 1;have y1:=xB hz 1;have o2:=xA hz 2
 have y2:=xB hz 2;have o3:=xA hz 3;have y3:=xB hz 3;have o4:=xA hz 4;have y4:=xB hz 4;have o5:=xA hz 5;have y5:=xB hz 5;have o6:=xA hz 6;have y6:=xB hz 6;have o7:=xA hz 7;have y7:=xB hz 7;simp only[gA,gB,gC] at o0 o1 o2 o3 o4 o5 o6 o7
 have hs:=H4.o.set (i:=3) rfl [.string tu,.string ts,.int .i64 tr,.int .i64 te,.string tp,.string tn,.string tw,.string to_] rfl;simp only[xU,Nat.reduceAdd,List.set_cons_zero,List.set_cons_succ] at hs;have HS:=ι hs;clear hz hs;go_upto_region 5 with fail
 clear o0 o1 o2 o3 o4 o5 o6 o7 y0 y1 y2 y3 y4 y5 y6 y7 H4
 obtain⟨w5,hw5⟩:∃w5,(((((((w4.setCell ⟨g2,0,none⟩ (.string tu)).setCell ⟨g2,1,none⟩ (.string ts)).setCell ⟨g2,2,none⟩ (.int .i64 tr)).setCell ⟨g2,3,none⟩ (.int .i64 te)).setCell ⟨g2,4,none⟩ (.string tp)).setCell ⟨g2,5,none⟩ (.string tn)).setCell ⟨g2,6,none⟩ (.string tw)).setCell ⟨g2,7,none⟩ (.string to_)=w5:=⟨_,rfl⟩
 rw[hw5] at HS⊢;clear hw5
 by_cases hce:ce=0
 case neg=>
  have h1:ve=ce:=by rw[HE.o,if_pos hce]
  have h2:vd=⟨[],[]⟩:=by rw[HD.o,if_pos hce]
  obtain⟨er,her⟩:∃er,er=ce:=⟨_,rfl⟩;rw[<-her] at h1 hce⊢;have HRR:=ι (And.intro h2 h1);have i1:(er==0)=false:=by simpa using hce
  have hz:=HS.o.k 2 _ rfl;have hb:=HS.o.bel;clear her h1 h2 HE HD HVA HAP HAL HS;obtain⟨o0,y0,f0,o1,y1,f1,HB⟩:=xIm hz hb ω (.slice none 0 0) (.slice none 0 0) _ rfl;clear hz hb;go_wp2
  refine bodyPost_ret (v:=.tuple #[.agg #[.slice none 0 0,.slice none 0 0],.int .i64 er]) (by simp[results,results19,go_sem,f0,f1]) rfl ?_;rw[<-HPO.o];exact⟨_,_,by rw[HRR.o.2],by rw[HRR.o.1];exact xEz _ _,HB.o⟩
 subst hce;rw[if_neg σ] at HE HD;have H5:=HS;clear HS;go_upto_region 7 with fail
 obtain⟨a0,a1,a2,a3,a4,a5,a6,a7⟩:=xH1 (H5.o.k 3 _ rfl);go_wp2_with fail
 refine(HVA.o _ (by first|rfl|trivial)).mono ?_;rintro e w6 ⟨rfl,hb6⟩;have H6:=ι ((H5.o.below hb6).alloc (chO ⟨cn,cd,cg⟩));clear H5 HVA hb6 a0 a1 a2 a3 a4 a5 a6 a7;go_upto_region 10 with fail
 obtain⟨w7,hw7⟩:∃w7,w6.alloc (chO ⟨cn,cd,cg⟩)=w7:=⟨_,rfl⟩;simp only[List.cons_append,List.nil_append] at H6;rw[hw7] at H6;simp only[chO,xR] at hw7 H6;rw[hw7];clear hw7;generalize w6.heap.size=g6 at H6⊢;obtain⟨e0,e1⟩:=zG (H6.o.k 0 _ rfl);obtain⟨z0,z1,z2⟩:=xOn (H6.o.k 4 _ rfl)
 go_wp2_with fail
 have HL:Hid (Bk w _ (w7.alloc (.cells #[xR cn,xR cd,.bool cg] 102))/\RdR 3 chF (w7.alloc (.cells #[xR cn,xR cd,.bool cg] 102)) (w7.alloc (.cells #[xR cn,xR cd,.bool cg] 102)).heap.size (.slice (some ⟨w7.heap.size,0,none⟩) 1 1) la):=ι ⟨H6.o.below ((Below.refl _ _).alloc ν _),by
  rw[<-HAL.o,World.size_alloc];exact RdR.lit (m:=[⟨cn,cd,cg⟩]) (f:=chF) (λ_=>rfl) w7 #[xR cn,xR cd,.bool cg] rfl⟩
 have HRR:=ι (And.intro HD.o HE.o);clear e0 e1 z0 z1 z2 H6 HE HD;refine(HAP.o _ _ HL.o.1.bel HL.o.2).mono ?_;rintro e w9 ⟨va',vb',rfl,hrd,hb9⟩;have H9:=ι (HL.o.1.below hb9);obtain⟨A5,k5,A6,k6,rfl,rfl⟩:=xX hrd;have HS:=ι (xGc (H9.o.k 2 _ rfl) hrd);clear hb9 HL HAP HAL hrd
 have hz:=H9.o.k 2 _ rfl;have hb:=H9.o.bel;obtain⟨o0,y0,f0,o1,y1,f1,HB⟩:=xIm hz hb ω (.slice A5 pd.secs.length k5) (.slice A6 pd.cache.length k6) _ rfl;clear hz hb H9;go_wp2
 refine bodyPost_ret (v:=.tuple #[.agg #[.slice A5 pd.secs.length k5,.slice A6 pd.cache.length k6],.int .i64 ae]) (by simp[results,results19,go_sem,f0,f1]) rfl ?_;rw[<-HPO.o];exact⟨_,_,by rw[HRR.o.2],by rw[HRR.o.1];exact HS.o,HB.o⟩
theorem xN2 (va vb:Value) (d:Dk) (u:ByteArray) (w:World) (h:RdD w w.heap.size va vb d) (hu:u.size<=1000) (hcc:d.cache.length<=10000) (hT:vT w):
  Calls prog 43 #[.agg #[va,vb],.string u] w (xDc (xYk d u) (yB3 d u) w):=by
 obtain⟨A1,c1,A2,c2,rfl,rfl⟩:=xX h;have H0:=ι (bk2 w (xW (.slice A1 d.secs.length c1) (.slice A2 d.cache.length c2)) (xW (.slice none 0 0) (.slice none 0 0)))
 have HAC:=ι (λW (hb:ψ w W)=>xC5 (.slice A1 d.secs.length c1) (.slice A2 d.cache.length c2) d u W ((h.below hb ν).more hb.size) ω);have HFI:=ι (λW=>xNi (zQ d u) W);have HVA:=ι (λW (hx:vI d u=0)=>xAi (xTf (zQ d u)) W (xRu (xEb hx).1))
 have HAP:=ι (λW lv (hb:ψ w W) (hl:RdR 3 chF W W.heap.size lv [tN (xTf (zQ d u))])=>xD8 (.slice A1 d.secs.length c1) (.slice A2 d.cache.length c2) lv d [tN (xTf (zQ d u))] W ((h.below hb ν).more hb.size) hl (show 1<=500 by decide) hcc (hT.below hb ν))
 have HE:Hid (yB3 d u=if vI d u≠0 then vI d u else kH d [tN (xTf (zQ d u))]):=ι rfl;have HD:Hid (xYk d u=if vI d u≠0 then⟨[],[]⟩ else uY d [tN (xTf (zQ d u))]):=ι rfl;generalize yB3 d u=ve at HE⊢;generalize xYk d u=vd at HD⊢;generalize vI d u=ac at HAC HE HD HVA
 generalize zQ d u=ar at HAC HFI HVA HAP HE HD;generalize xTf ar=ca at HFI HVA HAP HE HD;generalize hla:[tN ca]=la at HAP HE HD;have HAL:=ι hla;clear hla;generalize kH d la=ae at HAP HE;generalize uY d la=pd at HAP HD;generalize tN ca=cc at HVA HAL;obtain⟨cn,cd,cg⟩:=cc
 simp only[chV] at HVA;obtain⟨ru,rs,rr,re,rp,rn,rw',ro⟩:=ar;obtain⟨tu,ts,tr,te,tp,tn,tw,to_⟩:=ca;simp only[vH] at HAC HFI HVA;obtain⟨PO,hPO⟩:∃PO,xDc vd ve w=PO:=⟨_,rfl⟩;rw[hPO];have HPO:Hid (∀e w',xDc vd ve w e w'=PO e w'):=ι (λe w'=>by rw[hPO]);clear h hu hcc hT hPO
 go_enter func43,ntmps43;go_upto_region 1 with fail
 obtain⟨w1,hw1⟩:∃w1,(w.alloc (xW (.slice A1 d.secs.length c1) (.slice A2 d.cache.length c2))).alloc (xW (.slice none 0 0) (.slice none 0 0))=w1:=⟨_,rfl⟩;rw[hw1] at H0;rw[hw1];clear hw1;obtain⟨e0,e1⟩:=zG (H0.o.k 0 _ rfl);go_wp2_with fail
 refine(HAC.o _ H0.o.bel).mono ?_;rintro e w2 ⟨rfl,hb2⟩;have H3:=ι ((H0.o.below hb2).alloc (yI ⟨ru,rs,rr,re,rp,rn,rw',ro⟩));clear H0 HAC hb2 e0 e1;go_upto_region 2 with fail
 obtain⟨w3,hw3⟩:∃w3,w2.alloc (yI ⟨ru,rs,rr,re,rp,rn,rw',ro⟩)=w3:=⟨_,rfl⟩;simp only[List.cons_append,List.nil_append] at H3;rw[hw3] at H3;simp only[yI] at hw3 H3;rw[hw3];clear hw3;generalize w2.heap.size=g2 at H3⊢
 by_cases hac:ac=0
 case neg=>
  have h1:ve=ac:=by rw[HE.o,if_pos hac]
  have h2:vd=⟨[],[]⟩:=by rw[HD.o,if_pos hac]
  obtain⟨er,her⟩:∃er,er=ac:=⟨_,rfl⟩;rw[<-her] at h1 hac⊢;have HRR:=ι (And.intro h2 h1);have i1:(er==0)=false:=by simpa using hac
  have hz:=H3.o.k 1 _ rfl;have hb:=H3.o.bel;clear her h1 h2 HE HD HFI HVA HAP HAL H3;obtain⟨o0,y0,f0,o1,y1,f1,HB⟩:=xIm hz hb ω (.slice none 0 0) (.slice none 0 0) _ rfl;clear hz hb;go_wp2
  refine bodyPost_ret (v:=.tuple #[.agg #[.slice none 0 0,.slice none 0 0],.int .i64 er]) (by simp[results,results43,go_sem,f0,f1]) rfl ?_;rw[<-HPO.o];exact⟨_,_,by rw[HRR.o.2],by rw[HRR.o.1];exact xEz _ _,HB.o⟩
 subst hac;rw[if_neg σ] at HE HD;go_upto_region 4 with fail
 obtain⟨a0,a1,a2,a3,a4,a5,a6,a7⟩:=xH1 (H3.o.k 2 _ rfl);go_wp2_with fail
 refine(HFI.o _).mono ?_;rintro e w4 ⟨rfl,hb4⟩;have H4:=ι (H3.o.below hb4);clear H3 HFI hb4 a0 a1 a2 a3 a4 a5 a6 a7;go_wp2_with fail
 refine(HVA.o _ (by first|rfl|trivial)).mono ?_;rintro e w6 ⟨rfl,hb6⟩;have H6:=ι ((H4.o.below hb6).alloc (chO ⟨cn,cd,cg⟩));clear H4 HVA hb6;go_upto_region 7 with fail
 obtain⟨w7,hw7⟩:∃w7,w6.alloc (chO ⟨cn,cd,cg⟩)=w7:=⟨_,rfl⟩;simp only[List.cons_append,List.nil_append] at H6;rw[hw7] at H6;simp only[chO,xR] at hw7 H6;rw[hw7];clear hw7;generalize w6.heap.size=g6 at H6⊢;obtain⟨e0,e1⟩:=zG (H6.o.k 0 _ rfl);obtain⟨z0,z1,z2⟩:=xOn (H6.o.k 3 _ rfl)
 go_wp2_with fail
 have HL:Hid (Bk w _ (w7.alloc (.cells #[xR cn,xR cd,.bool cg] 102))/\RdR 3 chF (w7.alloc (.cells #[xR cn,xR cd,.bool cg] 102)) (w7.alloc (.cells #[xR cn,xR cd,.bool cg] 102)).heap.size (.slice (some ⟨w7.heap.size,0,none⟩) 1 1) la):=ι ⟨H6.o.below ((Below.refl _ _).alloc ν _),by
  rw[<-HAL.o,World.size_alloc];exact RdR.lit (m:=[⟨cn,cd,cg⟩]) (f:=chF) (λ_=>rfl) w7 #[xR cn,xR cd,.bool cg] rfl⟩
 have HRR:=ι (And.intro HD.o HE.o);clear e0 e1 z0 z1 z2 H6 HE HD;refine(HAP.o _ _ HL.o.1.bel HL.o.2).mono ?_;rintro e w9 ⟨va',vb',rfl,hrd,hb9⟩;have H9:=ι (HL.o.1.below hb9);obtain⟨A5,k5,A6,k6,rfl,rfl⟩:=xX hrd;have HS:=ι (xGc (H9.o.k 1 _ rfl) hrd);clear hb9 HL HAP HAL hrd
 have hz:=H9.o.k 1 _ rfl;have hb:=H9.o.bel;obtain⟨o0,y0,f0,o1,y1,f1,HB⟩:=xIm hz hb ω (.slice A5 pd.secs.length k5) (.slice A6 pd.cache.length k6) _ rfl;clear hz hb H9;go_wp2
 refine bodyPost_ret (v:=.tuple #[.agg #[.slice A5 pd.secs.length k5,.slice A6 pd.cache.length k6],.int .i64 ae]) (by simp[results,results43,go_sem,f0,f1]) rfl ?_;rw[<-HPO.o];exact⟨_,_,by rw[HRR.o.2],by rw[HRR.o.1];exact HS.o,HB.o⟩
end Go.Proofs.VA
namespace Mailsack
theorem xIf (d:Dk):(yH d).secs.length=d.secs.length:=by
 unfold yH;split
 ·exact qZ _ _ _ _
 ·rfl
theorem xPe:∀(l:List Op) (d:Dk),(vU d l).secs.length=d.secs.length
 |[],_=>rfl
 |o::l,d=>by
  show(vU (jY d o) l).secs.length=_;rw[xPe l];unfold jY;split
  ·exact xIf d
  ·split<;>rfl
theorem xV7 (l:List Op) (d:Dk) (h:zD d=true):(vU d (l++[fOp])).cache=[]:=by
 have:vU d (l++[fOp])=jY (vU d l) fOp:=by simp[vU]
 rw[this];show(yH (vU d l)).cache=[];unfold yH;rw[if_pos (xLf l h)]
theorem xB0 {d:Dk} {l:List Ch} (he:kH d l=0):(uY d l).cache=[]/\30<(uY d l).secs.length:=by
 have hw:jP d l=0:=by
  unfold kH at he;split at he
  ·assumption
  ·exact absurd he (by assumption)
 have hc:wS d=true:=by
  cases hc:wS d with
  |true=>rfl
  |false=>unfold jP at hw;rw[hc] at hw;simp at hw
 unfold wS at hc;simp only[Bool.and_eq_true,decide_eq_true_eq] at hc;unfold uY;unfold kH at he;rw[if_pos hw] at he⊢;split
 ·refine⟨?_,by rw[xIf,hc.1];decide⟩;unfold yH;rw[if_pos hc.2]
 ·rename_i h0
  rw[if_neg h0] at he;unfold xC3;rw[if_pos he];refine⟨?_,by rw[xPe,hc.1];decide⟩;have:jR (wC d l)=(qL 0 (wC d l)++[fOp,wOp 0 (xSq (wC d l).length (xIu (wC d l))),fOp]++(wC d l).map (λx=>⟨false,x⟩)++[fOp,wOp 0 (xP 64)])++[fOp]:=by simp[jR]
  rw[this];exact xV7 _ _ hc.2
end Mailsack
namespace Go.Proofs.VA
open Go.RowKit MM Mailsack SV RK DS
theorem xLk {W W':World} {B g:Nat} {va vb:Value} {D:Dk} (h:RdD W B va vb D) (hc:D.cache=[]) (hn:30<D.secs.length) (hg:∀o,30<=o->W.cell? ⟨g,o,none⟩=none) (hk:∀b o,b<B->b≠g->W'.cell? ⟨b,o,none⟩=W.cell? ⟨b,o,none⟩):RdD W' B va vb D:=by
 refine⟨?_,?_,h.ls,h.lc⟩
 ·obtain⟨A,c,h1,h2,h3⟩:=h.s;refine⟨A,c,h1,h2,λhp=>?_⟩;obtain⟨b,off,h4,h5,h6⟩:=h3 hp;refine⟨b,off,h4,h5,λj x hx=>?_⟩;rw[hk b _ h5 ?_]
  ·exact h6 j x hx
  ·rintro rfl;have:=h6 30 _ (List.getElem?_eq_getElem hn);rw[hg _ ω] at this;cases this
 ·obtain⟨A,c,h1,h2,h3⟩:=h.c;exact⟨A,c,h1,h2,λhp=>absurd hp (by rw[hc];simp)⟩
theorem RdD.over {W:World} {g:Nat} {va vb:Value} {D:Dk} {cs:Array Value} {t:TypeId} (h:RdD W W.heap.size va vb D) (he:D.cache=[]/\30<D.secs.length) (hg:W.heap[g]?=some (.cells cs t (0,0))) (hs:cs.size<=30) (xs:List Value) (i:Nat):RdD (xU g i xs W) (xU g i xs W).heap.size va vb D:=by
 have hsz:=(yZ (b:=g) (B:=0) (Nat.zero_le _) xs i W (Below.refl 0 W)).size;refine(xLk h he.1 he.2 (g:=g) (λo ho=>?_) (λb o _ hne=>?_)).more hsz
 ·rw[xA hg,Array.getElem?_eq_none ω]
 ·rcases xFu (g:=g) xs i W b o with e|⟨e,_,_⟩
  ·exact e
  ·exact absurd e hne
end Go.Proofs.VA
namespace Mailsack
open Go.Proofs.SH
theorem xNh {a:zU} {pw xI xE xL:ByteArray} {r:Int} (h:xLe a pw xI xE xL r=0):qA a pw=0/\uZ xI xE xL r=true:=by
 unfold xLe at h;split at h
 ·rename_i h0
  exact absurd h h0
 ·rename_i h0
  split at h
  ·cases h
  ·split at h
   ·cases h
   ·rename_i h2
    exact⟨by simpa using h0,by simpa using h2⟩
theorem xRr {a:zU} {pw xI xE xL:ByteArray} {r:Int} (h:xLe a pw xI xE xL r=0):zR (xKj a pw xI xE xL r)=true:=by
 obtain⟨h0,h2⟩:=xNh h;rw[xKj,if_pos h];unfold uZ at h2;simp only[Bool.and_eq_true,decide_eq_true_eq] at h2;have hra:=qU h0;have hl:=wL hra;refine xFd (tV hra).1 h2.1 ?_ (wE _ _) h2.2 (λk e=>?_)
 ·rcases(tV hra).2 with e|e
  ·exact .inr (by rw[e];rfl)
  ·exact .inl (by rw[e];rfl)
 ·injection e with e;rw[<-e];exact kZ hl.2.2.2.2.2.2.2.2.2.1
def xR7 (d:Dk) (u:ByteArray) (x:uQ) (pw xI xE xL:ByteArray) (r:Int):List Ch:=[tN (xKj (zQ d u) pw xI xE xL r),xRm u xL xE (bsA (xJd x))]
def xP0 (d:Dk) (u:ByteArray) (x:uQ) (pw xI xE xL:ByteArray) (r:Int):Int:=if vI d u≠0 then vI d u else if xLe (zQ d u) pw xI xE xL r≠0 then xLe (zQ d u) pw xI xE xL r else kH d (xR7 d u x pw xI xE xL r)
end Mailsack
namespace Go.Proofs.VA
open Go.RowKit Mailsack MM BB SH SV RK DS IX BK Go.Proofs.ST
def xGx (S:Value) (D:Dk) (er:Int) (w:World) (e:Ending) (w':World):Prop:=
 ψ w w'/\((er≠0/\e=.returned (.tuple #[jZ ⟨#[]⟩ ⟨#[]⟩ ⟨#[]⟩ 0 (.slice none 0 0) (.slice none 0 0) 0,.agg #[.slice none 0 0,.slice none 0 0],.int .i64 er]))∨
  (er=0/\∃va vb,e=.returned (.tuple #[S,.agg #[va,vb],.int .i64 0])/\RdD w' w'.heap.size va vb D))
abbrev RoL (g g2 g6 g9 g12:Nat) (od of oa oc oe ok os o3 o4:Obj):List (Nat×Obj):=[(g,od),(g+1,os),(g+1+1,of),(g+1+1+1,o3),(g+1+1+1+1,o4),(g2,oa),(g6,oc),(g9,oe),(g12,ok)]
theorem xFg (va vb:Value) (d:Dk) (u xL old pw xI xE fp:ByteArray) (ep r:Int) (bv sv:Value) (x:uQ) (w:World) (h:RdD w w.heap.size va vb d) (hx:xKp w w.heap.size bv sv x)
  (hxl:x.boxes.length<=9223372036854775807) (hxm:∀b∈x.boxes,b.zA.length<=9223372036854775807) (hxs:x.subs.length<=9223372036854775807) (hu:u.size<=1000) (hpw:pw.size<=1000) (hcc:d.cache.length<=10000) (hT:vT w):
  Calls prog 20 #[.agg #[va,vb],jZ u xL old ep bv sv x.given,.string pw,xAb xI xE fp r] w (xGx (jZ u fp xL (xKj (zQ d u) pw xI xE fp r).vQ bv sv x.given) (uY d (xR7 d u x pw xI xE fp r)) (xP0 d u x pw xI xE fp r) w):=by
 obtain⟨A1,c1,A2,c2,rfl,rfl⟩:=xX h;obtain⟨Ab,cb,rfl,hcb,_⟩:=hx.boxes;obtain⟨As,cs,rfl,hcs,_⟩:=hx.subs;have HPU:=ι (λW (hb:ψ w W)=>xFz _ _ x W ((hx.below hb ν).more hb.size) hxm hxl hxs);obtain⟨nb,hnb⟩:∃n,x.boxes.length=n:=⟨_,rfl⟩;obtain⟨ns,hns⟩:∃n,x.subs.length=n:=⟨_,rfl⟩
 rw[show xR (xJd x)=.string (bsA (xJd x)) from rfl,hnb,hns] at HPU;rw[hnb,hns];clear hnb hns;have H0:=ι (bk5 w (xW (.slice A1 d.secs.length c1) (.slice A2 d.cache.length c2)) (wD u xL old ep (.slice Ab nb cb) (.slice As ns cs) x.given) (uU xI xE fp r) kR kG)
 have HAC:=ι (λW (hb:ψ w W)=>xC5 (.slice A1 d.secs.length c1) (.slice A2 d.cache.length c2) d u W ((h.below hb ν).more hb.size) ω);have HCH:=ι (λW (hb:ψ w W) (hx:(zQ d u).user.size<=1000)=>xNg (zQ d u) pw xI xE fp r W hx hpw (hT.below hb ν))
 have HVA:=ι (λW (hx:xLe (zQ d u) pw xI xE fp r=0)=>xAi (xKj (zQ d u) pw xI xE fp r) W (xRr hx));have hbz:(bsA (xJd x)).size<=1000000:=by rw[yN];have:=yD0 x;omega
 have HSE:=ι (λW (hb:ψ w W) (hx:xLe (zQ d u) pw xI xE fp r=0)=>xRk u fp xE (bsA (xJd x)) W hu (by
  have h2:=(xNh hx).2;unfold uZ at h2;simp only[Bool.and_eq_true,decide_eq_true_eq] at h2;omega) (by
  have h2:=(xNh hx).2;unfold uZ uE at h2;simp only[Bool.and_eq_true,decide_eq_true_eq] at h2;exact h2.1.1.1.2) hbz (hT.below hb ν))
 have HAP:=ι (λW lv (hb:ψ w W) (hl:RdR 3 chF W W.heap.size lv (xR7 d u x pw xI xE fp r))=>xD8 (.slice A1 d.secs.length c1) (.slice A2 d.cache.length c2) lv d (xR7 d u x pw xI xE fp r) W ((h.below hb ν).more hb.size) hl (show 2<=500 by decide) hcc (hT.below hb ν))
 have HUZ:Hid (vI d u=0->(zQ d u).user.size<=1000):=ι (λh0=>by rw[(xEb h0).2];exact hu);have HE:Hid (xP0 d u x pw xI xE fp r=if vI d u≠0 then vI d u else if xLe (zQ d u) pw xI xE fp r≠0 then xLe (zQ d u) pw xI xE fp r else kH d (xR7 d u x pw xI xE fp r)):=ι rfl
 have HAL:Hid (xR7 d u x pw xI xE fp r=[tN (xKj (zQ d u) pw xI xE fp r),xRm u fp xE (bsA (xJd x))]):=ι rfl;have HPE:Hid (yBf x=if wP x=true then 0 else 1):=ι rfl;have HPT:Hid (wP x=false->bsA (xJd x)=⟨#[]⟩):=ι (λhr=>by unfold xJd;rw[hr,if_neg σ];rfl)
 generalize xP0 d u x pw xI xE fp r=ve at HE⊢;generalize vI d u=ac at HAC HE HUZ;generalize zQ d u=ar at HAC HCH HVA HSE HE HUZ HAL⊢;generalize xLe ar pw xI xE fp r=ce at HCH HVA HSE HE;generalize xKj ar pw xI xE fp r=ca at HCH HVA HAL⊢
 generalize hla:xR7 d u x pw xI xE fp r=la at HAP HE HAL⊢;clear hla;have HOV:=ι (λW va vb g cs (t:TypeId) (h:RdD W W.heap.size va vb (uY d la)) (he:kH d la=0) hg hs xs i=>RdD.over (g:=g) (cs:=cs) (t:=t) h (xB0 (l:=la) he) hg hs xs i);generalize kH d la=ae at HAP HE HOV
 generalize uY d la=pd at HAP HOV⊢;generalize tN ca=cc at HVA HAL;generalize xRm u fp xE (bsA (xJd x))=sc at HSE HAL;generalize bsA (xJd x)=pt at HPU HSE HPT hbz;generalize yBf x=pe at HPU HPE;obtain⟨cn,cd,cg⟩:=cc;obtain⟨sn,sd,sg⟩:=sc;simp only[chV] at HVA HSE
 obtain⟨ru,rs,rr,re,rp,rn,rw',ro⟩:=ar;obtain⟨tu,ts,tr,te,tp,tn,tw,to_⟩:=ca;simp only[vH] at HAC HCH HVA HUZ⊢;generalize x.given=gv at HPU H0⊢;obtain⟨PO,hPO⟩:∃PO,xGx (jZ u fp xL te (.slice Ab nb cb) (.slice As ns cs) gv) pd ve w=PO:=⟨_,rfl⟩;rw[hPO]
 have HPO:Hid (∀e w',xGx (jZ u fp xL te (.slice Ab nb cb) (.slice As ns cs) gv) pd ve w e w'=PO e w'):=ι (λe w'=>by rw[hPO]);clear h hx hu hpw hcc hT hPO hxl hxm hxs hbz hcb hcs;go_enter func20,ntmps20;go_upto_region 1 with fail
 obtain⟨w1,hw1⟩:∃w1,((((w.alloc (xW (.slice A1 d.secs.length c1) (.slice A2 d.cache.length c2))).alloc (wD u xL old ep (.slice Ab nb cb) (.slice As ns cs) gv)).alloc (uU xI xE fp r)).alloc kR).alloc kG=w1:=⟨_,rfl⟩;rw[hw1] at H0;simp only[wD,xW,uU,kR,kG] at hw1;rw[hw1];clear hw1
 obtain⟨e0,e1⟩:=zG (H0.o.k 0 _ rfl);have s0:=xKb (H0.o.k 1 _ rfl);go_wp2_with fail
 refine(HAC.o _ H0.o.bel).mono ?_;rintro e w2 ⟨rfl,hb2⟩;have H3:=ι ((H0.o.below hb2).alloc (yI ⟨ru,rs,rr,re,rp,rn,rw',ro⟩));clear H0 HAC hb2 e0 e1 s0;go_upto_region 2 with fail
 obtain⟨w3,hw3⟩:∃w3,w2.alloc (yI ⟨ru,rs,rr,re,rp,rn,rw',ro⟩)=w3:=⟨_,rfl⟩;simp only[List.cons_append,List.nil_append] at H3;rw[hw3] at H3;simp only[yI] at hw3 H3;rw[hw3];clear hw3;generalize w2.heap.size=g2 at H3⊢
 by_cases hac:ac=0
 case neg=>
  have h1:ve=ac:=by rw[HE.o,if_pos hac]
  obtain⟨er,her⟩:∃er,er=ac:=⟨_,rfl⟩;rw[<-her] at h1 hac⊢;have HRR:=ι h1;have hne:=hac;have HZ:=H3;clear her h1 HE HCH HVA HAP HAL HUZ HSE HPU HPE HPT HOV H3 hac;have i1:(er==0)=false:=by simpa using hne
  have hz:=HZ.o.k 3 _ rfl;have hy:=HZ.o.k 4 _ rfl;obtain⟨o0,o1,o2,o3,o4,o5,o6⟩:=jV hz;have y0:=xB hz 0;have y1:=xB hz 1;have y2:=xB hz 2;have y3:=xB hz 3;have y4:=xB hz 4;have y5:=xB hz 5;have y6:=xB hz 6;obtain⟨p0,p1⟩:=zG hy;have q0:=xB hy 0;have q1:=xB hy 1
  have hs:=(HZ.o.set (i:=3) rfl [.string ⟨#[]⟩,.string ⟨#[]⟩,.string ⟨#[]⟩,.int .i64 0,.slice none 0 0,.slice none 0 0,.int .i64 0] rfl).set (i:=4) rfl [.slice none 0 0,.slice none 0 0] rfl;simp only[xU,Nat.reduceAdd,List.set_cons_zero,List.set_cons_succ] at hs;have H4z:=ι hs
  clear hz hy hs HZ;go_wp2;obtain⟨f0,f1,f2,f3,f4,f5,f6⟩:=jV (H4z.o.k 3 _ rfl);obtain⟨g0,g1⟩:=zG (H4z.o.k 4 _ rfl);have HB:=ι H4z.o.bel;clear H4z
  refine bodyPost_ret (v:=.tuple #[jZ ⟨#[]⟩ ⟨#[]⟩ ⟨#[]⟩ 0 (.slice none 0 0) (.slice none 0 0) 0,.agg #[.slice none 0 0,.slice none 0 0],.int .i64 er]) (by simp[results,results20,go_sem,f0,f1,f2,f3,f4,f5,f6,g0,g1]) rfl ?_;rw[<-HPO.o]
  exact⟨HB.o,.inl ⟨by rw[HRR.o];exact hne,by rw[HRR.o]⟩⟩
 subst hac;rw[if_neg σ] at HE;go_upto_region 4 with fail
 obtain⟨a0,a1,a2,a3,a4,a5,a6,a7⟩:=xH1 (H3.o.k 5 _ rfl);obtain⟨b0,b1,b2,b3⟩:=yEd (H3.o.k 2 _ rfl);go_wp2_with fail
 refine(HCH.o _ H3.o.bel (HUZ.o (by first|rfl|trivial))).mono ?_;rintro e w4 ⟨rfl,hb4⟩;have H4:=ι (H3.o.below hb4);clear H3 HCH HUZ hb4 a0 a1 a2 a3 a4 a5 a6 a7 b0 b1 b2 b3;have hz:=H4.o.k 5 _ rfl;have o0:=xA hz 0;have y0:=xB hz 0;have o1:=xA hz 1;have y1:=xB hz 1;have o2:=xA hz 2
 have y2:=xB hz 2;have o3:=xA hz 3;have y3:=xB hz 3;have o4:=xA hz 4;have y4:=xB hz 4;have o5:=xA hz 5;have y5:=xB hz 5;have o6:=xA hz 6;have y6:=xB hz 6;have o7:=xA hz 7;have y7:=xB hz 7;simp only[gA,gB,gC] at o0 o1 o2 o3 o4 o5 o6 o7
 have hs:=H4.o.set (i:=5) rfl [.string tu,.string ts,.int .i64 tr,.int .i64 te,.string tp,.string tn,.string tw,.string to_] rfl;simp only[xU,Nat.reduceAdd,List.set_cons_zero,List.set_cons_succ] at hs;have HS:=ι hs;clear hz hs;go_upto_region 5 with fail
 clear o0 o1 o2 o3 o4 o5 o6 o7 y0 y1 y2 y3 y4 y5 y6 y7 H4
 obtain⟨w5,hw5⟩:∃w5,(((((((w4.setCell ⟨g2,0,none⟩ (.string tu)).setCell ⟨g2,1,none⟩ (.string ts)).setCell ⟨g2,2,none⟩ (.int .i64 tr)).setCell ⟨g2,3,none⟩ (.int .i64 te)).setCell ⟨g2,4,none⟩ (.string tp)).setCell ⟨g2,5,none⟩ (.string tn)).setCell ⟨g2,6,none⟩ (.string tw)).setCell ⟨g2,7,none⟩ (.string to_)=w5:=⟨_,rfl⟩
 rw[hw5] at HS⊢;clear hw5
 by_cases hce:ce=0
 case neg=>
  have h1:ve=ce:=by rw[HE.o,if_pos hce]
  obtain⟨er,her⟩:∃er,er=ce:=⟨_,rfl⟩;rw[<-her] at h1 hce⊢;have HRR:=ι h1;have hne:=hce;have HZ:=HS;clear her h1 HE HVA HAP HAL HSE HPU HPE HPT HOV HS hce;have i1:(er==0)=false:=by simpa using hne
  have hz:=HZ.o.k 3 _ rfl;have hy:=HZ.o.k 4 _ rfl;obtain⟨o0,o1,o2,o3,o4,o5,o6⟩:=jV hz;have y0:=xB hz 0;have y1:=xB hz 1;have y2:=xB hz 2;have y3:=xB hz 3;have y4:=xB hz 4;have y5:=xB hz 5;have y6:=xB hz 6;obtain⟨p0,p1⟩:=zG hy;have q0:=xB hy 0;have q1:=xB hy 1
  have hs:=(HZ.o.set (i:=3) rfl [.string ⟨#[]⟩,.string ⟨#[]⟩,.string ⟨#[]⟩,.int .i64 0,.slice none 0 0,.slice none 0 0,.int .i64 0] rfl).set (i:=4) rfl [.slice none 0 0,.slice none 0 0] rfl;simp only[xU,Nat.reduceAdd,List.set_cons_zero,List.set_cons_succ] at hs;have H4z:=ι hs
  clear hz hy hs HZ;go_wp2;obtain⟨f0,f1,f2,f3,f4,f5,f6⟩:=jV (H4z.o.k 3 _ rfl);obtain⟨g0,g1⟩:=zG (H4z.o.k 4 _ rfl);have HB:=ι H4z.o.bel;clear H4z
  refine bodyPost_ret (v:=.tuple #[jZ ⟨#[]⟩ ⟨#[]⟩ ⟨#[]⟩ 0 (.slice none 0 0) (.slice none 0 0) 0,.agg #[.slice none 0 0,.slice none 0 0],.int .i64 er]) (by simp[results,results20,go_sem,f0,f1,f2,f3,f4,f5,f6,g0,g1]) rfl ?_;rw[<-HPO.o]
  exact⟨HB.o,.inl ⟨by rw[HRR.o];exact hne,by rw[HRR.o]⟩⟩
 subst hce;rw[if_neg σ] at HE;have H5:=HS;clear HS;go_upto_region 7 with fail
 obtain⟨a0,a1,a2,a3,a4,a5,a6,a7⟩:=xH1 (H5.o.k 5 _ rfl);go_wp2_with fail
 refine(HVA.o _ (by first|rfl|trivial)).mono ?_;rintro e w6 ⟨rfl,hb6⟩;have H6:=ι ((H5.o.below hb6).alloc (chO ⟨cn,cd,cg⟩));clear H5 HVA hb6 a0 a1 a2 a3 a4 a5 a6 a7;go_upto_region 10 with fail
 obtain⟨w7,hw7⟩:∃w7,w6.alloc (chO ⟨cn,cd,cg⟩)=w7:=⟨_,rfl⟩;simp only[List.cons_append,List.nil_append] at H6;rw[hw7] at H6;simp only[chO,xR] at hw7 H6;rw[hw7];clear hw7;generalize w6.heap.size=g6 at H6⊢;obtain⟨s0,s1,s2,s3,s4,s5,s6⟩:=jV (H6.o.k 1 _ rfl);go_wp2_with fail
 refine(HPU.o _ H6.o.bel).mono ?_;rintro e w8 ⟨rfl,hb8⟩;have H8:=ι (H6.o.below hb8);clear H6 HPU hb8 s0 s1 s2 s3 s4 s5 s6
 have HM:Hid ((pe=0∨pe=1/\pt=⟨#[]⟩)):=ι (by
  cases hir:wP x with
  |true=>rw[hir,if_pos rfl] at HPE;exact .inl HPE.o
  |false=>rw[hir,if_neg σ] at HPE;exact .inr ⟨HPE.o,HPT.o hir⟩)
 clear HPE HPT;have H9:=H8;clear H8;have hm:=HM.o;clear HM;rcases hm with hp|⟨hp,hq⟩
 case' inl=>subst hp;go_upto_region 13 with fail
 case' inr=>subst hp;subst hq;go_upto_region 13 with fail
 all_goals
  have s0:=xKb (H9.o.k 1 _ rfl);obtain⟨b0,b1,b2,b3⟩:=yEd (H9.o.k 2 _ rfl);go_wp2_with fail
  refine(HSE.o _ H9.o.bel (by first|rfl|trivial)).mono ?_;rintro e w10 ⟨rfl,zF⟩;have H10:=ι ((H9.o.below zF).alloc (chO ⟨sn,sd,sg⟩));clear H9 HSE zF s0 b0 b1 b2 b3;go_upto_region 16 with fail
  obtain⟨w11,hw11⟩:∃w11,w10.alloc (chO ⟨sn,sd,sg⟩)=w11:=⟨_,rfl⟩;simp only[List.cons_append,List.nil_append] at H10;rw[hw11] at H10;simp only[chO,xR] at hw11 H10;rw[hw11];clear hw11;generalize w10.heap.size=g9 at H10⊢;obtain⟨e0,e1⟩:=zG (H10.o.k 0 _ rfl)
  obtain⟨y0,y1,y2⟩:=xOn (H10.o.k 6 _ rfl);obtain⟨z0,z1,z2⟩:=xOn (H10.o.k 7 _ rfl);go_wp2_with fail
  have HL:Hid (Bk w _ (w11.alloc (.cells #[xR cn,xR cd,.bool cg,xR sn,xR sd,.bool sg] 102))/\RdR 3 chF (w11.alloc (.cells #[xR cn,xR cd,.bool cg,xR sn,xR sd,.bool sg] 102)) (w11.alloc (.cells #[xR cn,xR cd,.bool cg,xR sn,xR sd,.bool sg] 102)).heap.size (.slice (some ⟨w11.heap.size,0,none⟩) 2 2) la):=ι ⟨H10.o.below ((Below.refl _ _).alloc ν _),by
   rw[HAL.o,World.size_alloc];exact RdR.lit (m:=[⟨cn,cd,cg⟩,⟨sn,sd,sg⟩]) (f:=chF) (λ_=>rfl) w11 #[xR cn,xR cd,.bool cg,xR sn,xR sd,.bool sg] rfl⟩
  clear e0 e1 y0 y1 y2 z0 z1 z2 H10 HAL;refine(HAP.o _ _ HL.o.1.bel HL.o.2).mono ?_;rintro e w12 ⟨va',vb',rfl,hrd,hb12⟩;obtain⟨A5,k5,A6,k6,rfl,rfl⟩:=xX hrd;have hal:=φ w12 (xW (.slice A5 pd.secs.length k5) (.slice A6 pd.cache.length k6))
  have H12:=ι (And.intro ((HL.o.1.below hb12).alloc (xW (.slice A5 pd.secs.length k5) (.slice A6 pd.cache.length k6))) ((hrd.below hal ν).more hal.size));clear hb12 HL HAP hrd hal;go_upto_region 17 with fail
  obtain⟨w13,hw13⟩:∃w13,w12.alloc (xW (.slice A5 pd.secs.length k5) (.slice A6 pd.cache.length k6))=w13:=⟨_,rfl⟩;simp only[List.cons_append,List.nil_append] at H12;rw[hw13] at H12;simp only[xW] at hw13;rw[hw13];clear hw13;generalize w12.heap.size=g12 at H12⊢
  by_cases hae:ae=0
  case neg=>
   have h1:ve=ae:=HE.o;obtain⟨er,her⟩:∃er,er=ae:=⟨_,rfl⟩;rw[<-her] at h1 hae⊢;have HRR:=ι h1;have hne:=hae;have HZ:=ι H12.o.1;clear her h1 HE HOV H12 hae;have i1:(er==0)=false:=by simpa using hne
   have hz:=HZ.o.k 3 _ rfl;have hy:=HZ.o.k 4 _ rfl;obtain⟨o0,o1,o2,o3,o4,o5,o6⟩:=jV hz;have y0:=xB hz 0;have y1:=xB hz 1;have y2:=xB hz 2;have y3:=xB hz 3;have y4:=xB hz 4;have y5:=xB hz 5;have y6:=xB hz 6;obtain⟨p0,p1⟩:=zG hy;have q0:=xB hy 0;have q1:=xB hy 1
   have hs:=(HZ.o.set (i:=3) rfl [.string ⟨#[]⟩,.string ⟨#[]⟩,.string ⟨#[]⟩,.int .i64 0,.slice none 0 0,.slice none 0 0,.int .i64 0] rfl).set (i:=4) rfl [.slice none 0 0,.slice none 0 0] rfl;simp only[xU,Nat.reduceAdd,List.set_cons_zero,List.set_cons_succ] at hs;have H4z:=ι hs
   clear hz hy hs HZ;go_wp2;obtain⟨f0,f1,f2,f3,f4,f5,f6⟩:=jV (H4z.o.k 3 _ rfl);obtain⟨g0,g1⟩:=zG (H4z.o.k 4 _ rfl);have HB:=ι H4z.o.bel;clear H4z
   refine bodyPost_ret (v:=.tuple #[jZ ⟨#[]⟩ ⟨#[]⟩ ⟨#[]⟩ 0 (.slice none 0 0) (.slice none 0 0) 0,.agg #[.slice none 0 0,.slice none 0 0],.int .i64 er]) (by simp[results,results20,go_sem,f0,f1,f2,f3,f4,f5,f6,g0,g1]) rfl ?_;rw[<-HPO.o]
   exact⟨HB.o,.inl ⟨by rw[HRR.o];exact hne,by rw[HRR.o]⟩⟩
  subst hae;go_upto_region 19 with fail
  have HJ:Hid (Bk w (RoL w.heap.size g2 g6 g9 g12 (xW (.slice A1 d.secs.length c1) (.slice A2 d.cache.length c2)) (uU xI xE fp r) (yI ⟨tu,ts,tr,te,tp,tn,tw,to_⟩) (chO ⟨cn,cd,cg⟩) (chO ⟨sn,sd,sg⟩) (xW (.slice A5 pd.secs.length k5) (.slice A6 pd.cache.length k6)) (wD u xL old ep (.slice Ab nb cb) (.slice As ns cs) gv) kR kG) w13/\RdD w13 w13.heap.size (.slice A5 pd.secs.length k5) (.slice A6 pd.cache.length k6) pd):=ι H12.o
  clear H12;generalize xW (.slice A1 d.secs.length c1) (.slice A2 d.cache.length c2)=od at HJ;generalize chO ⟨cn,cd,cg⟩=oc at HJ;generalize chO ⟨sn,sd,sg⟩=oe at HJ
  refine RG.yD 12 (λL W=>Hid (Bk w (RoL w.heap.size g2 g6 g9 g12 od (uU xI xE fp r) (yI ⟨tu,ts,tr,te,tp,tn,tw,to_⟩) oc oe (xW (.slice A5 pd.secs.length k5) (.slice A6 pd.cache.length k6)) (wD u (if L 7 then fp else xL) (if L 9 then xL else old) (if L 11 then te else ep) (.slice Ab nb cb) (.slice As ns cs) gv) kR kG) W/\RdD W W.heap.size (.slice A5 pd.secs.length k5) (.slice A6 pd.cache.length k6) pd)) (λL L' W h hI=>by rw[<-h 7 δ,<-h 9 δ,<-h 11 δ];exact hI) κ κ rfl (ι ⟨HJ.o.1.drew,(HJ.o.2.below (Below.refl _ _).drew ν)⟩) ?_
  clear HJ;refine RG.cS ?_;apply RG.xN
  ·rfl
  ·rfl
  ·intro L w9 h0 hcl xK hw9;have q:=xA (hw9.o.1.k 2 _ rfl) 2;simp only[gA,gB,gC] at q;repeat go_step
   refine RG.xC ?_;exact⟨xK,hw9⟩
  ·rfl
  refine RG.cS ?_;apply RG.xN
  ·rfl
  ·rfl
  ·intro L w9 h0 hcl xK hw9;have e7:L 7=false:=hcl.not 12 (i:=7) h0 κ;have hk:=hw9.o.1.k 1 _ rfl;rw[e7,if_neg σ] at hk;have q:=xA hk 1;simp only[gA,gB,gC] at q;clear hk e7;repeat go_step
   refine RG.xC ?_;exact⟨xK,hw9⟩
  ·rfl
  refine RG.cS ?_;apply RG.xN
  ·rfl
  ·rfl
  ·intro L w9 h0 hcl xK hw9;have q:=xA (hw9.o.1.k 5 _ rfl) 3;simp only[gA,gB,gC] at q;repeat go_step
   refine RG.xC ?_;exact⟨xK,hw9⟩
  ·rfl
  refine RG.cS ?_;apply RG.xN
  ·rfl
  ·rfl
  ·intro L w9 h0 hcl xK hw9;have hh:=hw9.o;rw[h0] at hh;simp only[if_neg (c:=false=true) σ] at hh;have hk:=hh.1.k 1 _ rfl;have q:=xA hk 1;have f:=xB hk 1;simp only[gA,gB,gC] at q;have hs:=hh.1.put (i:=1) rfl 1 (.string fp)
   simp only[List.set_cons_zero,List.set_cons_succ,List.setIfInBounds_toArray] at hs;have hr:=HOV.o _ _ _ _ _ _ hh.2 rfl hk σ [.string fp] 1;simp only[xU] at hr;have HS:=ι hs;have HR:=ι hr;clear hh hk hs hr hw9;repeat go_step
   refine RG.xC ?_;refine⟨xK,?_⟩
   show Hid (Bk w (RoL w.heap.size g2 g6 g9 g12 od (uU xI xE fp r) (yI ⟨tu,ts,tr,te,tp,tn,tw,to_⟩) oc oe (xW (.slice A5 pd.secs.length k5) (.slice A6 pd.cache.length k6)) (wD u (if (true:Bool)=true then fp else xL) (if L 9 then xL else old) (if L 11 then te else ep) (.slice Ab nb cb) (.slice As ns cs) gv) kR kG) _/\RdD _ _ (.slice A5 pd.secs.length k5) (.slice A6 pd.cache.length k6) pd)
   rw[if_pos rfl];exact ι ⟨HS.o,HR.o⟩
  ·rfl
  refine RG.cS ?_;apply RG.xN
  ·rfl
  ·rfl
  ·intro L w9 h0 hcl xK hw9;have hh:=hw9.o;rw[h0] at hh;simp only[if_neg (c:=false=true) σ] at hh;have hk:=hh.1.k 1 _ rfl;have q:=xA hk 2;have f:=xB hk 2;simp only[gA,gB,gC] at q;have hs:=hh.1.put (i:=1) rfl 2 (.string xL)
   simp only[List.set_cons_zero,List.set_cons_succ,List.setIfInBounds_toArray] at hs;have hr:=HOV.o _ _ _ _ _ _ hh.2 rfl hk σ [.string xL] 2;simp only[xU] at hr;have HS:=ι hs;have HR:=ι hr;clear hh hk hs hr hw9;repeat go_step
   refine RG.xC ?_;refine⟨xK,?_⟩
   show Hid (Bk w (RoL w.heap.size g2 g6 g9 g12 od (uU xI xE fp r) (yI ⟨tu,ts,tr,te,tp,tn,tw,to_⟩) oc oe (xW (.slice A5 pd.secs.length k5) (.slice A6 pd.cache.length k6)) (wD u (if L 7 then fp else xL) (if (true:Bool)=true then xL else old) (if L 11 then te else ep) (.slice Ab nb cb) (.slice As ns cs) gv) kR kG) _/\RdD _ _ (.slice A5 pd.secs.length k5) (.slice A6 pd.cache.length k6) pd)
   rw[if_pos rfl];exact ι ⟨HS.o,HR.o⟩
  ·rfl
  refine RG.cS ?_;apply RG.xN
  ·rfl
  ·rfl
  ·intro L w9 h0 hcl xK hw9;have hh:=hw9.o;rw[h0] at hh;simp only[if_neg (c:=false=true) σ] at hh;have hk:=hh.1.k 1 _ rfl;have q:=xA hk 3;have f:=xB hk 3;simp only[gA,gB,gC] at q;have hs:=hh.1.put (i:=1) rfl 3 (.int .i64 te)
   simp only[List.set_cons_zero,List.set_cons_succ,List.setIfInBounds_toArray] at hs;have hr:=HOV.o _ _ _ _ _ _ hh.2 rfl hk σ [.int .i64 te] 3;simp only[xU] at hr;have HS:=ι hs;have HR:=ι hr;clear hh hk hs hr hw9;repeat go_step
   refine RG.xC ?_;refine⟨xK,?_⟩
   show Hid (Bk w (RoL w.heap.size g2 g6 g9 g12 od (uU xI xE fp r) (yI ⟨tu,ts,tr,te,tp,tn,tw,to_⟩) oc oe (xW (.slice A5 pd.secs.length k5) (.slice A6 pd.cache.length k6)) (wD u (if L 7 then fp else xL) (if L 9 then xL else old) (if (true:Bool)=true then te else ep) (.slice Ab nb cb) (.slice As ns cs) gv) kR kG) _/\RdD _ _ (.slice A5 pd.secs.length k5) (.slice A6 pd.cache.length k6) pd)
   rw[if_pos rfl];exact ι ⟨HS.o,HR.o⟩
  ·rfl
  refine RG.xZ (λw14 hw14=>?_)
  have H14:Hid (Bk w (RoL w.heap.size g2 g6 g9 g12 od (uU xI xE fp r) (yI ⟨tu,ts,tr,te,tp,tn,tw,to_⟩) oc oe (xW (.slice A5 pd.secs.length k5) (.slice A6 pd.cache.length k6)) (wD u fp xL te (.slice Ab nb cb) (.slice As ns cs) gv) kR kG) w14/\RdD w14 w14.heap.size (.slice A5 pd.secs.length k5) (.slice A6 pd.cache.length k6) pd):=by
   rw[if_pos rfl,if_pos rfl,if_pos rfl] at hw14;exact hw14
  clear hw14;go_upto_region 20 with fail
  refine RG.yT [2,3] (λL W=>Hid (Bk w (RoL w.heap.size g2 g6 g9 g12 od (uU xI xE fp r) (yI ⟨tu,ts,tr,te,tp,tn,tw,to_⟩) oc oe (xW (.slice A5 pd.secs.length k5) (.slice A6 pd.cache.length k6)) (wD u fp xL te (.slice Ab nb cb) (.slice As ns cs) gv) (if L 2 then wD u fp xL te (.slice Ab nb cb) (.slice As ns cs) gv else kR) (if L 3 then xW (.slice A5 pd.secs.length k5) (.slice A6 pd.cache.length k6) else kG)) W/\RdD W W.heap.size (.slice A5 pd.secs.length k5) (.slice A6 pd.cache.length k6) pd)) (λL L' W h hI=>by rw[<-h 2 δ,<-h 3 δ];exact hI) κ κ δ (ι ⟨H14.o.1.drew,(H14.o.2.below (Below.refl _ _).drew ν)⟩) ?_
  clear H14;refine RG.lF (λL w9 hw9=>have hk:=hw9.o.1.k 1 _ rfl;jV hk) ?_;refine RG.lF (λL w9 hw9=>have hk:=hw9.o.1.k 8 _ rfl;zG hk) ?_;apply RG.yA
  ·rfl
  ·intro L w9 h0 _ hw9;have hh:=hw9.o;rw[h0] at hh;simp only[if_neg (c:=false=true) σ] at hh;have HH:=ι hh.1;have hr:=HOV.o _ _ _ _ _ _ hh.2 rfl (hh.1.k 3 _ rfl) δ [.string u,.string fp,.string xL,.int .i64 te,.slice Ab nb cb,.slice As ns cs,.int .i64 gv] 0
   simp only[xU,Nat.reduceAdd] at hr;have HR:=ι hr;clear hh hr hw9;have hz:=HH.o.k 3 _ rfl;have o0:=xA hz 0;have y0:=xB hz 0;have o1:=xA hz 1;have y1:=xB hz 1;have o2:=xA hz 2;have y2:=xB hz 2;have o3:=xA hz 3;have y3:=xB hz 3;have o4:=xA hz 4;have y4:=xB hz 4;have o5:=xA hz 5
   have y5:=xB hz 5;have o6:=xA hz 6;have y6:=xB hz 6;simp only[gA,gB,gC] at o0 o1 o2 o3 o4 o5 o6;have hs:=HH.o.set (i:=3) rfl [.string u,.string fp,.string xL,.int .i64 te,.slice Ab nb cb,.slice As ns cs,.int .i64 gv] rfl
   simp only[xU,Nat.reduceAdd,List.set_cons_zero,List.set_cons_succ] at hs;have HS:=ι hs;clear hz hs;clear HH;repeat go_step
   refine RG.xC ?_
   show Hid (Bk w (RoL w.heap.size g2 g6 g9 g12 od (uU xI xE fp r) (yI ⟨tu,ts,tr,te,tp,tn,tw,to_⟩) oc oe (xW (.slice A5 pd.secs.length k5) (.slice A6 pd.cache.length k6)) (wD u fp xL te (.slice Ab nb cb) (.slice As ns cs) gv) (if (true:Bool)=true then wD u fp xL te (.slice Ab nb cb) (.slice As ns cs) gv else kR) (if L 3 then xW (.slice A5 pd.secs.length k5) (.slice A6 pd.cache.length k6) else kG)) _/\RdD _ _ (.slice A5 pd.secs.length k5) (.slice A6 pd.cache.length k6) pd)
   rw[if_pos rfl];exact ι ⟨HS.o,HR.o⟩
  ·rfl
  apply RG.yA
  ·rfl
  ·intro L w9 h0 _ hw9;have hh:=hw9.o;rw[h0] at hh;simp only[if_neg (c:=false=true) σ] at hh;have HH:=ι hh.1;have hr:=HOV.o _ _ _ _ _ _ hh.2 rfl (hh.1.k 4 _ rfl) δ [.slice A5 pd.secs.length k5,.slice A6 pd.cache.length k6] 0;simp only[xU,Nat.reduceAdd] at hr;have HR:=ι hr
   clear hh hr hw9;have hz:=HH.o.k 4 _ rfl;have o0:=xA hz 0;have y0:=xB hz 0;have o1:=xA hz 1;have y1:=xB hz 1;simp only[gA,gB,gC] at o0 o1;have hs:=HH.o.set (i:=4) rfl [.slice A5 pd.secs.length k5,.slice A6 pd.cache.length k6] rfl
   simp only[xU,Nat.reduceAdd,List.set_cons_zero,List.set_cons_succ] at hs;have HS:=ι hs;clear hz hs;clear HH;repeat go_step
   refine RG.xC ?_
   show Hid (Bk w (RoL w.heap.size g2 g6 g9 g12 od (uU xI xE fp r) (yI ⟨tu,ts,tr,te,tp,tn,tw,to_⟩) oc oe (xW (.slice A5 pd.secs.length k5) (.slice A6 pd.cache.length k6)) (wD u fp xL te (.slice Ab nb cb) (.slice As ns cs) gv) (if L 2 then wD u fp xL te (.slice Ab nb cb) (.slice As ns cs) gv else kR) (if (true:Bool)=true then xW (.slice A5 pd.secs.length k5) (.slice A6 pd.cache.length k6) else kG)) _/\RdD _ _ (.slice A5 pd.secs.length k5) (.slice A6 pd.cache.length k6) pd)
   rw[if_pos rfl];exact ι ⟨HS.o,HR.o⟩
  ·rfl
  refine RG.lS ?_;refine RG.xZ (λw15 xWi=>?_);rw[if_pos rfl,if_pos rfl] at xWi;have xMp:=ι xWi.o;obtain⟨f0,f1,f2,f3,f4,f5,f6⟩:=jV (xMp.o.1.k 3 _ rfl);obtain⟨g0,g1⟩:=zG (xMp.o.1.k 4 _ rfl);have HB:=ι (And.intro xMp.o.1.bel xMp.o.2);clear xWi xMp HOV;go_wp2
  refine bodyPost_ret (v:=.tuple #[jZ u fp xL te (.slice Ab nb cb) (.slice As ns cs) gv,.agg #[.slice A5 pd.secs.length k5,.slice A6 pd.cache.length k6],.int .i64 0]) (by simp[results,results20,go_sem,f0,f1,f2,f3,f4,f5,f6,g0,g1]) rfl ?_;rw[<-HPO.o]
  exact⟨HB.o.1,.inr ⟨HE.o,_,_,rfl,HB.o.2⟩⟩
end Go.Proofs.VA
namespace Mailsack
theorem xXv (pub once s:ByteArray):(xQn pub once s).size<=100000:=by
 unfold xQn;split
 ·rename_i h
  unfold xKn at h;split at h
  ·cases h
  ·split at h
   ·cases h
   ·rename_i h2
    obtain⟨c,hc,_,h3,_⟩:=xE7 (n:=s.size) ω;unfold boxP;rw[ByteArray.size_append,rC,xDq ω,hc];have:(yL once).size=32:=wE _ _;rw[this];omega
 ·decide
end Mailsack
namespace Mailsack
open Go.Proofs.SH
def prvA (d:Dk) (u:ByteArray) (ep n:Int):Bool:=decide (xWx d (xSb [109] u.data.toList n)=0)&&decide ((xI9 d u n).size≠0)&&decide (yQ (xI9 d u n) 0≠ep % 256)
def prvB (d:Dk) (u:ByteArray) (n:Int):ByteArray:=(xI9 d u n).extract 1 (xI9 d u n).size
def xVf (d:Dk) (u old:ByteArray) (ep n:Int):Bool:=prvA d u ep n&&decide (xRh old (prvB d u n)=0)
def xY8 (d:Dk) (u old:ByteArray) (ep n:Int):ByteArray:=if prvA d u ep n=true then xY7 old (prvB d u n) else⟨#[]⟩
def xNm (xL:ByteArray):ByteArray:=if xL.size=32 then yL xL else⟨#[]⟩
def yBc (u xL once text:ByteArray) (ep n:Int):Ch:=⟨xSb [109] u.data.toList n,oct ep::(xQn (xNm xL) once text).data.toList,false⟩
def yBb (d:Dk) (u xL once text:ByteArray) (ep n:Int):Int:=if xKn (xNm xL) once text≠0 then xKn (xNm xL) once text else kH d [yBc u xL once text ep n]
def xZ4 (d:Dk) (u xL once text:ByteArray) (ep n:Int):Dk:=if xKn (xNm xL) once text≠0 then⟨[],[]⟩ else uY d [yBc u xL once text ep n]
end Mailsack
namespace Go.Proofs.VA
open Go.RowKit Mailsack MM BB SH SV RK DS IX BK FE Go.Proofs.ST Go.Proofs.SE
theorem xRx (k:ByteArray) (w:World):Calls prog 79 #[.string k] w λe w'=>∃b,e=.returned (.tuple #[.string (xNm k),.bool b])/\ψ w w':=by
 unfold xNm
 by_cases h:k.size=32
 ·rw[if_pos h];refine(rF k w h).mono ?_;rintro e w' ⟨h1,h2⟩;exact⟨_,h1,h2⟩
 ·rw[if_neg h];refine(xI0 k w h).mono ?_;rintro e w' ⟨h1,h2⟩;exact⟨_,h1,h2⟩
theorem xLp (va vb:Value) (d:Dk) (u xL old:ByteArray) (ep gv n:Int) (A3 A4:Option Addr) (n3 k3 n4 k4:Nat) (w:World) (h:RdD w w.heap.size va vb d) (hu:u.size<=1000000) (hn:-9223372036854775808<=n/\n<=9223372036854775807) (hT:VaT w):
  Calls prog 41 #[.agg #[va,vb],jZ u xL old ep (.slice A3 n3 k3) (.slice A4 n4 k4) gv,.int .i64 n] w λe w'=>e=.returned (.tuple #[.string (xY8 d u old ep n),.bool (xVf d u old ep n)])/\ψ w w':=by
 obtain⟨A1,c1,A2,c2,rfl,rfl⟩:=xX h;have H0:=ι (bk2 w (xW (.slice A1 d.secs.length c1) (.slice A2 d.cache.length c2)) (wD u xL old ep (.slice A3 n3 k3) (.slice A4 n4 k4) gv));have HNU:=ι (λW (hb:ψ w W)=>xEg ⟨#[109]⟩ u n W δ hu hn (hT.below hb))
 rw[show(⟨#[109]⟩:ByteArray).data.toList=[109] from rfl] at HNU;have HGE:=ι (λW (hb:ψ w W)=>xWw (.slice A1 d.secs.length c1) (.slice A2 d.cache.length c2) d (xSb [109] u.data.toList n) W ((h.below hb ν).more hb.size))
 have HG:Hid (xR (yAa d (xSb [109] u.data.toList n))=.string (xI9 d u n)):=ι rfl;rw[HG.o] at HGE
 have hgl:(xI9 d u n).size<=100000:=by
  unfold xI9;rw[yN];have:=xQ4 d (xSb [109] u.data.toList n);omega
 have HSO:=ι (λW (hb:ψ w W)=>xV2 old ((xI9 d u n).extract 1 (xI9 d u n).size) W (by rw[ByteArray.size_extract];omega) (hT.below hb).se)
 have HA:Hid (prvA d u ep n=(decide (xWx d (xSb [109] u.data.toList n)=0)&&decide ((xI9 d u n).size≠0)&&decide (yQ (xI9 d u n) 0≠ep % 256))):=ι rfl;have HO:Hid (xVf d u old ep n=(prvA d u ep n&&decide (xRh old ((xI9 d u n).extract 1 (xI9 d u n).size)=0))):=ι rfl
 have HX:Hid (xY8 d u old ep n=if prvA d u ep n=true then xY7 old ((xI9 d u n).extract 1 (xI9 d u n).size) else⟨#[]⟩):=ι rfl;clear HG h hT;generalize xVf d u old ep n=po at HO⊢;generalize xY8 d u old ep n=mt at HX⊢;generalize prvA d u ep n=pa at HA HO HX
 generalize xRh old ((xI9 d u n).extract 1 (xI9 d u n).size)=se at HO HSO;generalize xY7 old ((xI9 d u n).extract 1 (xI9 d u n).size)=st at HX HSO;generalize xI9 d u n=g at HA HSO HGE hgl;generalize xWx d (xSb [109] u.data.toList n)=ge at HA HGE
 generalize xSb [109] u.data.toList n=nb at HGE HNU;go_enter func41,ntmps41;go_upto_region 1 with fail
 obtain⟨w1,hw1⟩:∃w1,(w.alloc (xW (.slice A1 d.secs.length c1) (.slice A2 d.cache.length c2))).alloc (wD u xL old ep (.slice A3 n3 k3) (.slice A4 n4 k4) gv)=w1:=⟨_,rfl⟩;rw[hw1] at H0;simp only[xW,wD] at hw1;rw[hw1];clear hw1
 refine RG.xQ (λW=>Hid (ψ w1 W)) κ κ (ι (Below.refl w1.heap.size w1).drew) ?_;iterate 4 refine RG.dF (λw9 hw9=>have hd:=(H0.o.below hw9.o).k 0 _ rfl;have hs:=(H0.o.below hw9.o).k 1 _ rfl;have s0:=xKb hs;And.intro (zG hd) s0) ?_
 apply RG.xJ
 ·intro w9 hw9;repeat go_step
  refine(HNU.o _ (H0.o.bel.trans (hw9.o.mono H0.o.bel.size))).mono ?_;rintro e w10 ⟨rfl,zF⟩;simp only[];repeat go_step
  refine RG.xC ?_;exact ι (hw9.o.trans (zF.mono hw9.o.size))
 ·rfl
 apply RG.xJ
 ·intro w9 hw9;repeat go_step
  refine(HGE.o _ (H0.o.bel.trans (hw9.o.mono H0.o.bel.size))).mono ?_;rintro e w10 ⟨rfl,zF⟩;simp only[];repeat go_step
  refine RG.xC ?_;exact ι (hw9.o.trans (zF.mono hw9.o.size))
 ·rfl
 iterate 5 refine RG.dS ?_
 refine RG.xS (λw2 hw2=>?_);have H2:=ι (H0.o.below hw2.o);clear hw2 H0 HNU HGE;go_upto_region 2 with fail
 by_cases hge:ge=0
 case neg=>
  have g0:(ge==0)=false:=by simpa using hge
  have g1:(ge !=0)=true:=by simpa using hge
  have HP:Hid (po=false/\mt=⟨#[]⟩):=ι (by
   have:pa=false:=by rw[HA.o,decide_eq_false hge];rfl
   rw[HO.o,HX.o,this];exact⟨rfl,rfl⟩)
  clear hge HX HSO HA HO;refine RG.xQ (λW=>Hid (ψ w2 W)) κ κ (ι (Below.refl w2.heap.size w2).drew) ?_;iterate 3 refine RG.dS ?_
  iterate 2 refine RG.kS ?_
  iterate 2 refine RG.dS ?_
  iterate 6 refine RG.kS ?_
  refine RG.dS ?_;refine RG.xS (λw3 hw3=>?_);have HB:=ι (H2.o.below hw3.o).bel;clear hw3 H2;go_wp2;go_ret2;exact⟨by rw[HP.o.1,HP.o.2];rfl,HB.o⟩
 subst hge
 by_cases hz:g.size=0
 ·obtain rfl:g=⟨#[]⟩:=by
   apply ByteArray.ext;exact Array.eq_empty_of_size_eq_zero hz
  have HP:Hid (po=false/\mt=⟨#[]⟩):=ι (by
   have:pa=false:=by rw[HA.o];rfl
   rw[HO.o,HX.o,this];exact⟨rfl,rfl⟩)
  clear HX HSO HA HO hgl hz;refine RG.xQ (λW=>Hid (ψ w2 W)) κ κ (ι (Below.refl w2.heap.size w2).drew) ?_;iterate 7 refine RG.dS ?_
  iterate 6 refine RG.kS ?_
  refine RG.dS ?_;refine RG.xS (λw3 hw3=>?_);have HB:=ι (H2.o.below hw3.o).bel;clear hw3 H2;go_wp2;go_ret2;exact⟨by rw[HP.o.1,HP.o.2];rfl,HB.o⟩
 have hgz:(g.toList==[])=false:=by
  rw[beq_eq_false_iff_ne,ByteArray.toList_eq];intro e;exact hz (by have:=congrArg List.length e;simpa using this)
 have hlt:0<g.size:=ω;have i0:=λw=>zL (P:=prog) underlying9 g 0 0 rfl hlt w;have hl1:¬(g.size<1):=ω;have HZ:=ι hz;clear hz;generalize yQ g 0=c0 at i0 HA
 by_cases hk:c0=ep % 256
 ·have hk1:(c0==ep % 256)=true:=by simpa using hk
  have HP:Hid (po=false/\mt=⟨#[]⟩):=ι (by
   have:pa=false:=by rw[HA.o,decide_eq_false (p:=c0≠ep % 256) (by simpa using hk),Bool.and_false]
   rw[HO.o,HX.o,this];exact⟨rfl,rfl⟩)
  clear HX HSO HA HO hgl HZ hk;refine RG.xQ (λW=>Hid (ψ w2 W)) κ κ (ι (Below.refl w2.heap.size w2).drew) ?_
  iterate 14
   apply RG.xJ
   ·intro w9 hw9;have hk:=H2.o.k 1 _ rfl;have hk:=xD hk hw9.o (xH hk);have s3:=xA hk 3;simp only[gA,gB,gC] at s3;clear hk;repeat go_step
    exact RG.xC hw9
   ·rfl
  refine RG.xS (λw3 hw3=>?_);have HB:=ι (H2.o.below hw3.o).bel;clear hw3 H2;go_wp2;go_ret2;exact⟨by rw[HP.o.1,HP.o.2];rfl,HB.o⟩
 have hk1:(c0==ep % 256)=false:=by simpa using hk
 have HP:Hid (po=(se==0)/\mt=st):=ι (by
  have:pa=true:=by rw[HA.o,decide_eq_true (p:=c0≠ep % 256) hk,decide_eq_true (p:=g.size≠0) HZ.o];rfl
  rw[HO.o,HX.o,this,if_pos rfl,Bool.true_and];exact⟨by by_cases e:se=0<;>simp[e],rfl⟩)
 clear HX HA HO hk;refine RG.xQ (λW=>Hid (ψ w2 W)) κ κ (ι (Below.refl w2.heap.size w2).drew) ?_
 iterate 14
  apply RG.xJ
  ·intro w9 hw9;have hk:=H2.o.k 1 _ rfl;have hk:=xD hk hw9.o (xH hk);have s3:=xA hk 3;simp only[gA,gB,gC] at s3;clear hk;repeat go_step
   exact RG.xC hw9
  ·rfl
 refine RG.xS (λw3 hw3=>?_);have H3:=ι (H2.o.below hw3.o);clear hw3 H2 i0;go_upto_region 4 with fail
 refine RG.xQ (λW=>Hid (ψ w3 W)) κ κ (ι (Below.refl w3.heap.size w3).drew) ?_
 iterate 4
  apply RG.xJ
  ·intro w9 hw9;have hs:=(H3.o.below hw9.o).k 1 _ rfl;have s2:=xA hs 2;simp only[gA,gB,gC] at s2;clear hs;repeat go_step
   exact RG.xC hw9
  ·rfl
 apply RG.xJ
 ·intro w9 hw9;repeat go_step
  refine(HSO.o _ (H3.o.bel.trans (hw9.o.mono H3.o.bel.size))).mono ?_;rintro e w10 ⟨rfl,zF⟩;simp only[];repeat go_step
  refine RG.xC ?_;exact ι (hw9.o.trans (zF.mono hw9.o.size))
 ·rfl
 iterate 5 refine RG.dS ?_
 refine RG.xS (λw4 hw4=>?_);have HB:=ι (H3.o.below hw4.o).bel;clear hw4 H3 HSO;go_wp2;go_ret2;exact⟨by rw[HP.o.1,HP.o.2];rfl,HB.o⟩
structure RnJ (w2:World) (c:Ch) (L:Nat->Bool) (α:Nat->Value) (W:World):Prop where
 bel:ψ w2 W
 s:L 10=true->∃g,α 10=.pointer (some ⟨g,0,none⟩)/\w2.heap.size<=g/\W.heap[g]?=some (if L 11 then chO c else chO ⟨[],[],false⟩)
theorem RnJ.congr {w2:World} {c:Ch} {L L':Nat->Bool} {α α':Nat->Value} {W:World} (h:RnJ w2 c L α W) (h10:L 10=L' 10) (h11:L 11=L' 11) (ha:L 10=true->α 10=α' 10):RnJ w2 c L' α' W:=
 ⟨h.bel,λe=>by rw[<-ha (h10.trans e),<-h11];exact h.s (h10.trans e)⟩
theorem RnJ.below {w2:World} {c:Ch} {L:Nat->Bool} {α:Nat->Value} {W W':World} (h:RnJ w2 c L α W) (hb:ψ W W'):RnJ w2 c L α W':=
 ⟨h.bel.trans (hb.mono h.bel.size),λe=>by
  obtain⟨g,q1,q2,q3⟩:=h.s e;exact⟨g,q1,q2,xD q3 hb (xH q3)⟩⟩
theorem xVc (va vb:Value) (d:Dk) (u xL old once text:ByteArray) (ep gv n:Int) (A3 A4:Option Addr) (n3 k3 n4 k4:Nat) (w:World) (h:RdD w w.heap.size va vb d) (hu:u.size<=1000000) (hn:-9223372036854775808<=n/\n<=9223372036854775807) (hcc:d.cache.length<=10000) (hT:VaT w):
  Calls prog 42 #[.agg #[va,vb],jZ u xL old ep (.slice A3 n3 k3) (.slice A4 n4 k4) gv,.int .i64 n,.string once,.string text] w (xDc (xZ4 d u xL once text ep n) (yBb d u xL once text ep n) w):=by
 obtain⟨A1,c1,A2,c2,rfl,rfl⟩:=xX h;have H0:=ι (bk3 w (xW (.slice A1 d.secs.length c1) (.slice A2 d.cache.length c2)) (wD u xL old ep (.slice A3 n3 k3) (.slice A4 n4 k4) gv) (xW (.slice none 0 0) (.slice none 0 0)));have HPU:=ι (λW=>xRx xL W)
 have HBX:=ι (λW (hb:ψ w W)=>yEe (xNm xL) once text W (hT.below hb).se);have HNU:=ι (λW (hb:ψ w W)=>xEg ⟨#[109]⟩ u n W δ hu hn (hT.below hb));rw[show(⟨#[109]⟩:ByteArray).data.toList=[109] from rfl] at HNU;have HEP:=ι (λW=>xXa ep W)
 rw[show xR [oct ep]=.string ⟨#[oct ep]⟩ from rfl] at HEP;have HBS:=ι (xXv (xNm xL) once text);have HCE:Hid (yBc u xL once text ep n=⟨xSb [109] u.data.toList n,oct ep::(xQn (xNm xL) once text).data.toList,false⟩):=ι rfl
 have HAP:=ι (λW lv (hb:ψ w W) (hl:RdR 3 chF W W.heap.size lv [yBc u xL once text ep n])=>xD8 (.slice A1 d.secs.length c1) (.slice A2 d.cache.length c2) lv d [yBc u xL once text ep n] W ((h.below hb ν).more hb.size) hl (show 1<=500 by decide) hcc ((hT.below hb).se.sha))
 have HE:Hid (yBb d u xL once text ep n=if xKn (xNm xL) once text≠0 then xKn (xNm xL) once text else kH d [yBc u xL once text ep n]):=ι rfl;have HD:Hid (xZ4 d u xL once text ep n=if xKn (xNm xL) once text≠0 then⟨[],[]⟩ else uY d [yBc u xL once text ep n]):=ι rfl
 generalize yBb d u xL once text ep n=ve at HE⊢;generalize xZ4 d u xL once text ep n=vd at HD⊢;generalize xKn (xNm xL) once text=be at HBX HE HD;generalize xQn (xNm xL) once text=bt at HBX HBS HCE;generalize xNm xL=pb at HPU HBX
 generalize yBc u xL once text ep n=cc at HCE HAP HE HD;generalize hla:[cc]=la at HAP HE HD;have HAL:=ι hla;clear hla;generalize kH d la=ae at HAP HE;generalize uY d la=pd at HAP HD;generalize xSb [109] u.data.toList n=nb at HNU HCE
 have HCV:Hid (chO cc=.cells #[xR nb,.string (⟨#[oct ep]⟩++bt),.bool false] 102):=ι (by
  rw[HCE.o];show Obj.cells #[xR nb,xR (oct ep::bt.data.toList),Value.bool false] _ _=_
  congr 4)
 clear HCE;obtain⟨cn,cd,cg⟩:=cc;obtain⟨PO,hPO⟩:∃PO,xDc vd ve w=PO:=⟨_,rfl⟩;rw[hPO];have HPO:Hid (∀e w',xDc vd ve w e w'=PO e w'):=ι (λe w'=>by rw[hPO]);clear h hu hcc hT hPO hn;go_enter func42,ntmps42;go_upto_region 1 with fail
 obtain⟨w1,hw1⟩:∃w1,((w.alloc (xW (.slice A1 d.secs.length c1) (.slice A2 d.cache.length c2))).alloc (wD u xL old ep (.slice A3 n3 k3) (.slice A4 n4 k4) gv)).alloc (xW (.slice none 0 0) (.slice none 0 0))=w1:=⟨_,rfl⟩;rw[hw1] at H0;simp only[xW,wD] at hw1;rw[hw1];clear hw1
 have s1:=xA (H0.o.k 1 _ rfl) 1;simp only[gA,gB,gC] at s1;go_wp2_with fail
 refine(HPU.o _).mono ?_;rintro e w2 ⟨bp,rfl,hb2⟩;have H2:=ι (H0.o.below hb2);clear H0 HPU hb2 s1;go_wp2_with fail
 refine(HBX.o _ H2.o.bel).mono ?_;rintro e w3 ⟨rfl,hb3⟩;have H3:=ι (H2.o.below hb3);clear H2 HBX hb3
 by_cases hbe:be=0
 case neg=>
  have h1:ve=be:=by rw[HE.o,if_pos hbe]
  have h2:vd=⟨[],[]⟩:=by rw[HD.o,if_pos hbe]
  obtain⟨er,her⟩:∃er,er=be:=⟨_,rfl⟩;rw[<-her] at h1 hbe⊢;have HRR:=ι (And.intro h2 h1);have i1:(er==0)=false:=by simpa using hbe
  have hz:=H3.o.k 2 _ rfl;have hb:=H3.o.bel;clear her h1 h2 HE HD HNU HEP HAP HAL HBS HCV H3;go_upto_region 4 with fail
  obtain⟨o0,y0,f0,o1,y1,f1,HB⟩:=xIm hz hb ω (.slice none 0 0) (.slice none 0 0) _ rfl;clear hz hb;go_wp2;refine bodyPost_ret (v:=.tuple #[.agg #[.slice none 0 0,.slice none 0 0],.int .i64 er]) (by simp[results,results42,go_sem,f0,f1]) rfl ?_;rw[<-HPO.o]
  exact⟨_,_,by rw[HRR.o.2],by rw[HRR.o.1];exact xEz _ _,HB.o⟩
 subst hbe;rw[if_neg σ] at HE HD;go_upto_region 5 with fail
 have b1:¬(9223372036854775807<(⟨#[oct ep]⟩:ByteArray).size+bt.size):=by have:=HBS.o;show ¬(_<1+bt.size);omega
 have b2:¬(9223372036854775807<1+bt.size):=by have:=HBS.o;omega
 refine RG.uA [11] [10] (λL α W=>Hid (RnJ w3 ⟨cn,cd,cg⟩ L α W)) (λL L' α α' W hl ha h=>ι (h.o.congr (hl 10 σ) (hl 11 σ) (ha 10 σ))) κ κ κ (ι ⟨(Below.refl _ _).drew,λe=>(by cases e)⟩) ?_;refine RG.vS ?_
 refine RG.vF (λα L w9 h0 hcl xK hw9=>have hs:=(H3.o.below hw9.o.bel).k 1 _ rfl;have s0:=xKb hs;s0) ?_;refine RG.vS ?_;apply RG.zC
 ·rfl
 ·rfl
 ·intro α L w9 h0 hcl xK hw9;repeat go_step
  refine(HNU.o w9 (H3.o.bel.trans (hw9.o.bel.mono H3.o.bel.size))).mono ?_;rintro e w10 ⟨rfl,hb⟩;simp only[];repeat go_step
  refine RG.xC ?_;exact ι (hw9.o.below hb)
 ·intro α;rfl
 refine RG.vS ?_;apply RG.zC
 ·rfl
 ·rfl
 ·intro α L w9 h0 hcl xK hw9;have hs:=(H3.o.below hw9.o.bel).k 1 _ rfl;have s3:=xA hs 3;simp only[gA,gB,gC] at s3;clear hs;repeat go_step
  exact RG.xC hw9
 ·intro α;rfl
 apply RG.zC
 ·rfl
 ·rfl
 ·intro α L w9 h0 hcl xK hw9;repeat go_step
  refine(HEP.o w9).mono ?_;rintro e w10 ⟨rfl,hb⟩;simp only[];repeat go_step
  refine RG.xC ?_;exact ι (hw9.o.below hb)
 ·intro α;rfl
 iterate 3 refine RG.vS ?_
 apply RG.vK
 ·rfl
 ·intro α L w9 h0 hcl xK hw9;have e11:L 11=false:=hcl.not 12 (i:=11) h0 κ;have HAL:=ι (φ w9 (chO ⟨[],[],false⟩));have HN:=ι (xM w9 (chO ⟨[],[],false⟩));refine⟨.pointer (some ⟨w9.heap.size,0,none⟩),λbv hbv=>?_⟩;repeat go_step
  rw[<-hbv];refine RG.xC ?_;exact ι ⟨hw9.o.bel.trans (HAL.o.mono hw9.o.bel.size),λ_=>⟨w9.heap.size,(RG.uV _ _ _).trans hbv,hw9.o.bel.size,by rw[show(11==10||L 11)=false by rw[e11];rfl];exact HN.o⟩⟩
 ·intro b α;rfl
 apply RG.jK (v:=undef)
 ·rfl
 ·rfl
 ·intro α L w9 h0 hcl xK hw9
  have f10:L 10=true:=by
   have:=xK.yes 12 (i:=11) (j:=10) σ κ;simpa using this
  obtain⟨g,q1,q2,q3⟩:=hw9.o.s f10;rw[h0] at q3;simp only[if_neg (c:=false=true) σ] at q3;have Q1:=ι q1;have hs2:=uI (b:=g) (l:=[xR nb,.string (⟨#[oct ep]⟩++bt),.bool false]) q3 rfl
  have hbb:=yZ (b:=g) (B:=w3.heap.size) q2 [xR nb,.string (⟨#[oct ep]⟩++bt),.bool false] 0 _ hw9.o.bel;simp only[xU,Nat.reduceAdd] at hs2 hbb;have HS2:=ι hs2;have HBB:=ι hbb;obtain⟨o0,o1,o2⟩:=xOn q3;have y0:=xB q3 0;have y1:=xB q3 1;have y2:=xB q3 2
  rw[show α (0+1+1+1+1+1+1+1+1+1+1)=_ from q1];clear q1 q3 hs2 hbb;repeat go_step
  rw[<-show α (0+1+1+1+1+1+1+1+1+1+1)=_ from Q1.o];refine RG.xC ?_;exact ι ⟨HBB.o,λ_=>⟨g,Q1.o,q2,by rw[show(11==11||L 11)=true from rfl,if_pos rfl,HCV.o];exact HS2.o⟩⟩
 ·intro α;rfl
 refine RG.qV (λα w4 hw4=>?_);obtain⟨g,q1,q2,q3⟩:=hw4.o.s rfl;rw[if_pos rfl] at q3;have H4:=ι (And.intro (H3.o.below hw4.o.bel) q3);simp only[Nat.zero_add,Nat.reduceAdd];rw[show α 10=_ from q1];clear q1 q3 hw4 H3 HNU HEP HBS HCV b1 b2;go_upto_region 6 with fail
 obtain⟨e0,e1⟩:=zG (H4.o.1.k 0 _ rfl);have hg:=H4.o.2;simp only[chO,xR] at hg;obtain⟨z0,z1,z2⟩:=xOn hg;clear hg;go_wp2_with fail
 have HL:Hid (Bk w _ (w4.alloc (.cells #[xR cn,xR cd,.bool cg] 102))/\RdR 3 chF (w4.alloc (.cells #[xR cn,xR cd,.bool cg] 102)) (w4.alloc (.cells #[xR cn,xR cd,.bool cg] 102)).heap.size (.slice (some ⟨w4.heap.size,0,none⟩) 1 1) la):=ι ⟨H4.o.1.below ((Below.refl _ _).alloc ν _),by
  rw[<-HAL.o,World.size_alloc];exact RdR.lit (m:=[⟨cn,cd,cg⟩]) (f:=chF) (λ_=>rfl) w4 #[xR cn,xR cd,.bool cg] rfl⟩
 have HRR:=ι (And.intro HD.o HE.o);clear e0 e1 z0 z1 z2 H4 HE HD;refine(HAP.o _ _ HL.o.1.bel HL.o.2).mono ?_;rintro e w9 ⟨va',vb',rfl,hrd,hb9⟩;have H9:=ι (HL.o.1.below hb9);obtain⟨A5,k5,A6,k6,rfl,rfl⟩:=xX hrd;have HS:=ι (xGc (H9.o.k 2 _ rfl) hrd);clear hb9 HL HAP HAL hrd
 have hz:=H9.o.k 2 _ rfl;have hb:=H9.o.bel;obtain⟨o0,y0,f0,o1,y1,f1,HB⟩:=xIm hz hb ω (.slice A5 pd.secs.length k5) (.slice A6 pd.cache.length k6) _ rfl;clear hz hb H9;go_wp2
 refine bodyPost_ret (v:=.tuple #[.agg #[.slice A5 pd.secs.length k5,.slice A6 pd.cache.length k6],.int .i64 ae]) (by simp[results,results42,go_sem,f0,f1]) rfl ?_;rw[<-HPO.o];exact⟨_,_,by rw[HRR.o.2],by rw[HRR.o.1];exact HS.o,HB.o⟩
end Go.Proofs.VA
namespace Mailsack
open Go.Proofs.SH
def vstF (d:Dk) (u old:ByteArray) (ep:Int):Option Int:=(wR d [109] u.data.toList).find? (xVf d u old ep)
def xIy (d:Dk) (u xL old once:ByteArray) (ep:Int):Int:=if old.size=0 then 6 else match vstF d u old ep with
 |some n=>yBb d u xL once (xY8 d u old ep n) ep n
 |none=>yB3 d u
def xR6 (d:Dk) (u xL old once:ByteArray) (ep:Int):Dk:=match vstF d u old ep with
 |some n=>xZ4 d u xL once (xY8 d u old ep n) ep n
 |none=>xYk d u
def xOz (d:Dk) (u old:ByteArray) (ep:Int):Bool:=(vstF d u old ep).isNone
def xU7 (d:Dk) (u old:ByteArray) (ep:Int):ByteArray:=if xOz d u old ep=true then⟨#[]⟩ else old
theorem yE3 {α:Type} {p:α->Bool} {l:List α} {k:Nat} {z:α} (h1:∀y∈l.take k,p y=false) (h2:l[k]?=some z) (h3:p z=true):l.find? p=some z:=by
 obtain⟨hk,hz⟩:=List.getElem?_eq_some_iff.1 h2
 have e:l=l.take k++z::l.drop (k+1):=by
  rw[<-hz,<-List.drop_eq_getElem_cons hk,List.take_append_drop]
 rw[e,List.find?_append,List.find?_eq_none.2 (λy hy=>by rw[h1 y hy];simp)];simp[h3]
theorem xZk (d:Dk) (k u:Bs):(wR d k u).length<=1000:=by
 unfold wR xDk;rw[List.length_mergeSort];exact Nat.le_trans (xB5 _ _) (xG4 d)
theorem xVa {d:Dk} {u xL once text:ByteArray} {ep n:Int} (h:yBb d u xL once text ep n=0):(xZ4 d u xL once text ep n).cache=[]/\30<(xZ4 d u xL once text ep n).secs.length:=by
 unfold yBb at h;unfold xZ4;split at h
 ·rename_i h1
  exact absurd h h1
 ·rename_i h1
  rw[if_neg h1];exact xB0 h
theorem xU9 {d:Dk} {u:ByteArray} (h:yB3 d u=0):(xYk d u).cache=[]/\30<(xYk d u).secs.length:=by
 unfold yB3 at h;unfold xYk;split at h
 ·rename_i h1
  exact absurd h h1
 ·rename_i h1
  rw[if_neg h1];exact xB0 h
end Mailsack
namespace Go.Proofs.VA
open Go.RowKit Mailsack MM BB SH SV RK DS IX BK Go.Proofs.ST Go.Proofs.SE
def xGw (S:Value) (D:Dk) (last:Bool) (er:Int) (w:World) (e:Ending) (w':World):Prop:=
 ψ w w'/\((er≠0/\e=.returned (.tuple #[jZ ⟨#[]⟩ ⟨#[]⟩ ⟨#[]⟩ 0 (.slice none 0 0) (.slice none 0 0) 0,.agg #[.slice none 0 0,.slice none 0 0],.bool false,.int .i64 er]))∨
  (er=0/\∃va vb,e=.returned (.tuple #[S,.agg #[va,vb],.bool last,.int .i64 0])/\RdD w' w'.heap.size va vb D))
abbrev yBv (g g4:Nat) (od os o2 o3 ok:Obj):List (Nat×Obj):=[(g,od),(g+1,os),(g+1+1,o2),(g+1+1+1,o3),(g4,ok)]
theorem xKz (va vb:Value) (d:Dk) (u xL old once:ByteArray) (ep gv:Int) (A3 A4:Option Addr) (n3 k3 n4 k4:Nat) (w:World) (h:RdD w w.heap.size va vb d) (hu:u.size<=1000) (hcc:d.cache.length<=10000) (hT:VaT w):
  Calls prog 21 #[.agg #[va,vb],jZ u xL old ep (.slice A3 n3 k3) (.slice A4 n4 k4) gv,.string once] w (xGw (jZ u xL (xU7 d u old ep) ep (.slice A3 n3 k3) (.slice A4 n4 k4) gv) (xR6 d u xL old once ep) (xOz d u old ep) (xIy d u xL old once ep) w):=by
 obtain⟨A1,c1,A2,c2,rfl,rfl⟩:=xX h;have H0:=ι (bk4 w (xW (.slice A1 d.secs.length c1) (.slice A2 d.cache.length c2)) (wD u xL old ep (.slice A3 n3 k3) (.slice A4 n4 k4) gv) kR kG)
 have HNB:=ι (λW (hb:ψ w W)=>xNy (.slice A1 d.secs.length c1) (.slice A2 d.cache.length c2) d ⟨#[109]⟩ u W ((h.below hb ν).more hb.size) δ ω);rw[show(⟨#[109]⟩:ByteArray).data.toList=[109] from rfl] at HNB
 have HNM:Hid (∀z∈wR d [109] u.data.toList,0<=z/\z<=4294967295):=ι (λz hz=>by have:=xSa hz;omega)
 have HPV:=ι (λW (hb:ψ w W) z (hz:0<=z/\z<=4294967295)=>xLp (.slice A1 d.secs.length c1) (.slice A2 d.cache.length c2) d u xL old ep gv z A3 A4 n3 k3 n4 k4 W ((h.below hb ν).more hb.size) ω ω (hT.below hb))
 have HRN:=ι (λW (hb:ψ w W) z (hz:0<=z/\z<=4294967295)=>xVc (.slice A1 d.secs.length c1) (.slice A2 d.cache.length c2) d u xL old once (xY8 d u old ep z) ep gv z A3 A4 n3 k3 n4 k4 W ((h.below hb ν).more hb.size) ω ω hcc (hT.below hb))
 have HVF:=ι (λW (hb:ψ w W)=>xN2 (.slice A1 d.secs.length c1) (.slice A2 d.cache.length c2) d u W ((h.below hb ν).more hb.size) hu hcc (hT.below hb).se.sha);have HVB:=ι (@xU9 d u);have HRB:=ι (λz=>@xVa d u xL once (xY8 d u old ep z) ep z)
 have HS1:Hid (old.size=0->xIy d u xL old once ep=6):=ι (λe=>by unfold xIy;rw[if_pos e])
 have HS2:Hid (old.size≠0->∀k z,(∀y∈(wR d [109] u.data.toList).take k,xVf d u old ep y=false)->(wR d [109] u.data.toList)[k]?=some z->xVf d u old ep z=true->xIy d u xL old once ep=yBb d u xL once (xY8 d u old ep z) ep z/\xR6 d u xL old once ep=xZ4 d u xL once (xY8 d u old ep z) ep z/\xU7 d u old ep=old/\xOz d u old ep=false):=ι (λe k z h1 h2 h3=>by
  have hf:vstF d u old ep=some z:=yE3 h1 h2 h3;have hl:xOz d u old ep=false:=by unfold xOz;rw[hf];rfl
  refine⟨?_,?_,?_,hl⟩
  ·unfold xIy;rw[if_neg e,hf]
  ·unfold xR6;rw[hf]
  ·unfold xU7;rw[hl,if_neg σ])
 have HS3:Hid (old.size≠0->(∀y∈wR d [109] u.data.toList,xVf d u old ep y=false)->xIy d u xL old once ep=yB3 d u/\xR6 d u xL old once ep=xYk d u/\xU7 d u old ep=⟨#[]⟩/\xOz d u old ep=true):=ι (λe h1=>by
  have hf:vstF d u old ep=none:=List.find?_eq_none.2 (λy hy=>by rw[h1 y hy];simp);have hl:xOz d u old ep=true:=by unfold xOz;rw[hf];rfl
  refine⟨?_,?_,?_,hl⟩
  ·unfold xIy;rw[if_neg e,hf]
  ·unfold xR6;rw[hf]
  ·unfold xU7;rw[hl,if_pos rfl])
 generalize xIy d u xL old once ep=ve at HS1 HS2 HS3⊢;generalize xR6 d u xL old once ep=vd at HS2 HS3⊢;generalize xU7 d u old ep=vo at HS2 HS3⊢;generalize xOz d u old ep=vl at HS2 HS3⊢;have HFW:=ι (xZk d [109] u.data.toList)
 generalize wR d [109] u.data.toList=N at HNB HNM HS2 HS3 HFW;generalize yB3 d u=fe at HVF HVB HS3;generalize xYk d u=fd at HVF HVB HS3;obtain⟨PO,hPO⟩:∃PO,xGw (jZ u xL vo ep (.slice A3 n3 k3) (.slice A4 n4 k4) gv) vd vl ve w=PO:=⟨_,rfl⟩;rw[hPO]
 have HPO:Hid (∀e w',xGw (jZ u xL vo ep (.slice A3 n3 k3) (.slice A4 n4 k4) gv) vd vl ve w e w'=PO e w'):=ι (λe w'=>by rw[hPO]);clear h hu hcc hT hPO;go_enter func21,ntmps21;go_upto_region 1 with fail
 obtain⟨w1,hw1⟩:∃w1,(((w.alloc (xW (.slice A1 d.secs.length c1) (.slice A2 d.cache.length c2))).alloc (wD u xL old ep (.slice A3 n3 k3) (.slice A4 n4 k4) gv)).alloc kR).alloc kG=w1:=⟨_,rfl⟩;rw[hw1] at H0;simp only[xW,wD,kR,kG] at hw1;rw[hw1];clear hw1
 have s2:=xA (H0.o.k 1 _ rfl) 2;simp only[gA,gB,gC] at s2
 by_cases ho:old.size=0
 ·have i6:(old.toList==[])=true:=by rw[ByteArray.toList_eq];simp;exact Array.eq_empty_of_size_eq_zero ho
  have hve:=HS1.o ho;obtain⟨er,her⟩:∃er:Int,er=6:=⟨_,rfl⟩;rw[<-her] at hve;have HRR:=ι hve;have HNE:Hid (er≠0):=ι ω;have HZ:=H0;clear hve HS1 HS2 HS3 HVB HRB HVF HRN HPV HNM HNB ho H0;go_upto_region 2 with fail
  clear s2;rw[<-her];clear her;have hz:=HZ.o.k 2 _ rfl;have hy:=HZ.o.k 3 _ rfl;obtain⟨o0,o1,o2,o3,o4,o5,o6⟩:=jV hz;have y0:=xB hz 0;have y1:=xB hz 1;have y2:=xB hz 2;have y3:=xB hz 3;have y4:=xB hz 4;have y5:=xB hz 5;have y6:=xB hz 6;obtain⟨p0,p1⟩:=zG hy;have q0:=xB hy 0
  have q1:=xB hy 1;have hs:=(HZ.o.set (i:=2) rfl [.string ⟨#[]⟩,.string ⟨#[]⟩,.string ⟨#[]⟩,.int .i64 0,.slice none 0 0,.slice none 0 0,.int .i64 0] rfl).set (i:=3) rfl [.slice none 0 0,.slice none 0 0] rfl;simp only[xU,Nat.reduceAdd,List.set_cons_zero,List.set_cons_succ] at hs
  have H4z:=ι hs;clear hz hy hs HZ;go_wp2;obtain⟨f0,f1,f2,f3,f4,f5,f6⟩:=jV (H4z.o.k 2 _ rfl);obtain⟨g0,g1⟩:=zG (H4z.o.k 3 _ rfl);have HB:=ι H4z.o.bel;clear H4z
  refine bodyPost_ret (v:=.tuple #[jZ ⟨#[]⟩ ⟨#[]⟩ ⟨#[]⟩ 0 (.slice none 0 0) (.slice none 0 0) 0,.agg #[.slice none 0 0,.slice none 0 0],.bool false,.int .i64 er]) (by simp[results,results21,go_sem,f0,f1,f2,f3,f4,f5,f6,g0,g1]) rfl ?_;rw[<-HPO.o]
  exact⟨HB.o,.inl ⟨by rw[HRR.o];exact HNE.o,by rw[HRR.o]⟩⟩
 have i6:(old.toList==[])=false:=by
  rw[ByteArray.toList_eq];cases hx:(old.data.toList==[]) with
  |false=>rfl
  |true=>
   simp only[beq_iff_eq] at hx;exact absurd (show old.data.size=0 by rw[<-Array.length_toList,hx];rfl) ho
 have HS2':=ι (HS2.o ho);have HS3':=ι (HS3.o ho);clear HS1 HS2 HS3 ho;go_upto_region 3 with fail
 clear s2 i6;obtain⟨e0,e1⟩:=zG (H0.o.k 0 _ rfl);have s0:=xKb (H0.o.k 1 _ rfl);go_wp2_with fail
 refine(HNB.o _ H0.o.bel).mono ?_;rintro e w2 ⟨v1,rfl,hr1,hb2⟩;have H2:=ι (H0.o.below hb2);have HR1:=ι hr1;obtain⟨A7,c7,rfl,_,hcell⟩:=hr1;have HCL:=ι hcell;clear hb2 hcell HNB H0 e0 e1 s0;go_wp2_with fail
 go_loopw [28] (λiv wr=>∃k:Nat,k<=N.length/\iv=.int .i64 k/\Hid (ψ w2 wr)/\Hid (∀y∈N.take k,xVf d u old ep y=false)) (λiv _=>N.length- (intOf iv).toNat)
 case atStart=>exact⟨0,Nat.zero_le _,rfl,ι (Below.refl _ _),ι (λy hy=>by simp at hy)⟩
 case round=>
  obtain⟨k,hk,rfl,HB2,HPN⟩:=hrel;have HI:=ι (H2.o.below HB2.o);have hfw:N.length<=1000:=HFW.o
  by_cases hlt:k<N.length
  ·obtain⟨z,hz⟩:∃z,N[k]?=some z:=⟨_,List.getElem?_eq_getElem hlt⟩;obtain⟨b,off,rfl,hbw,hcs⟩:=HCL.o ω;have q:=(HB2.o.cell (p:=⟨b,off+k,none⟩) hbw).trans (by have:=hcs k z hz 0 (.int .i64 z) rfl;simpa using this);have HZR:=ι (HNM.o z (List.mem_of_getElem? hz))
   have HPR:=ι (λW hb=>HPV.o W hb z HZR.o);have HZK:=ι hz;have yEk:=ι (HS2'.o k z HPN.o hz)
   have HNX:Hid (xVf d u old ep z=false->∀y∈N.take (k+1),xVf d u old ep y=false):=ι (λhf y hy=>by
    rw[List.take_add_one,hz] at hy;rcases List.mem_append.1 hy with hy|hy
    ·exact HPN.o y hy
    ·simp only[Option.toList_some,List.mem_singleton] at hy;rw[hy];exact hf)
   have HRW:=ι (λW hb=>HRN.o W hb z HZR.o);have HRZ:=ι (HRB.o z);clear hcs hz HS2' HPV HRN HRB HZR;generalize xVf d u old ep z=po at HPR yEk HNX;generalize xY8 d u old ep z=pt at HPR yEk HRW HRZ;generalize yBb d u xL once pt ep z=re at yEk HRW HRZ
   generalize xZ4 d u xL once pt ep z=rd at yEk HRW HRZ;obtain⟨e0,e1⟩:=zG (HI.o.k 0 _ rfl);obtain⟨s0,s1,s2,s3,s4,s5,s6⟩:=jV (HI.o.k 1 _ rfl);go_wp2_with fail
   refine(HPR.o _ HI.o.bel).mono ?_;rintro e w3 ⟨rfl,hb3⟩;have H3:=ι (And.intro (HI.o.below hb3) (HB2.o.trans (hb3.mono HB2.o.size)));clear hb3 HI HPR e0 e1 s0 s1 s2 s3 s4 s5 s6 q;cases po with
   |false=>
    have HPX:=ι (HNX.o rfl);have HBX:=ι H3.o.2;clear HNX yEk HRW HRZ H3 HZK HPN HB2;go_wp2;exact⟨⟨k+1,ω,by go_num,HBX,HPX⟩,by simp[intOf];omega⟩
   |true=>
    obtain⟨hv1,hv2,hv3,hv4⟩:=yEk.o rfl;have HV:=ι (And.intro hv1 (And.intro hv2 (And.intro hv3 hv4)));clear HNX yEk hv1 hv2 hv3 hv4 HPN HB2;obtain⟨e0,e1⟩:=zG (H3.o.1.k 0 _ rfl);obtain⟨s0,s1,s2,s3,s4,s5,s6⟩:=jV (H3.o.1.k 1 _ rfl);go_wp2_with fail
    refine(HRW.o _ H3.o.1.bel).mono ?_;rintro e w4 ⟨va',vb',rfl,hrd,hb4⟩;obtain⟨A5,k5,A6,k6,rfl,rfl⟩:=xX hrd;have hal:=φ w4 (xW (.slice A5 rd.secs.length k5) (.slice A6 rd.cache.length k6))
    have H4:=ι (And.intro ((H3.o.1.below hb4).alloc (xW (.slice A5 rd.secs.length k5) (.slice A6 rd.cache.length k6))) ((hrd.below hal ν).more hal.size));clear hb4 hrd hal H3 HRW e0 e1 s0 s1 s2 s3 s4 s5 s6;generalize rd.secs.length=m5 at H4⊢
    generalize rd.cache.length=m6 at H4⊢;go_upto_region 9 with fail
    obtain⟨w5,hw5⟩:∃w5,w4.alloc (xW (.slice A5 m5 k5) (.slice A6 m6 k6))=w5:=⟨_,rfl⟩;simp only[List.cons_append,List.nil_append] at H4;rw[hw5] at H4;simp only[xW] at hw5;rw[hw5];clear hw5;generalize w4.heap.size=g4 at H4⊢
    by_cases hre:re=0
    case neg=>
     obtain⟨er,her⟩:∃er,er=re:=⟨_,rfl⟩;rw[<-her] at hre HV HRZ⊢;have HRR:=ι HV.o.1;have HNE:=ι hre;have HZ:=ι H4.o.1;have i1:(er==0)=false:=by simpa using hre
     clear her HV HRZ H4 hre HZK;have hz:=HZ.o.k 2 _ rfl;have hy:=HZ.o.k 3 _ rfl;obtain⟨o0,o1,o2,o3,o4,o5,o6⟩:=jV hz;have y0:=xB hz 0;have y1:=xB hz 1;have y2:=xB hz 2;have y3:=xB hz 3;have y4:=xB hz 4;have y5:=xB hz 5;have y6:=xB hz 6;obtain⟨p0,p1⟩:=zG hy;have q0:=xB hy 0
     have q1:=xB hy 1;have hs:=(HZ.o.set (i:=2) rfl [.string ⟨#[]⟩,.string ⟨#[]⟩,.string ⟨#[]⟩,.int .i64 0,.slice none 0 0,.slice none 0 0,.int .i64 0] rfl).set (i:=3) rfl [.slice none 0 0,.slice none 0 0] rfl
     simp only[xU,Nat.reduceAdd,List.set_cons_zero,List.set_cons_succ] at hs;have H4z:=ι hs;clear hz hy hs HZ;go_wp2;obtain⟨f0,f1,f2,f3,f4,f5,f6⟩:=jV (H4z.o.k 2 _ rfl);obtain⟨g0,g1⟩:=zG (H4z.o.k 3 _ rfl);have HB:=ι H4z.o.bel;clear H4z
     refine bodyPost_ret (v:=.tuple #[jZ ⟨#[]⟩ ⟨#[]⟩ ⟨#[]⟩ 0 (.slice none 0 0) (.slice none 0 0) 0,.agg #[.slice none 0 0,.slice none 0 0],.bool false,.int .i64 er]) (by simp[results,results21,go_sem,f0,f1,f2,f3,f4,f5,f6,g0,g1]) rfl ?_;rw[<-HPO.o]
     exact⟨HB.o,.inl ⟨by rw[HRR.o];exact HNE.o,by rw[HRR.o]⟩⟩
    subst hre;have HBG:=ι (HRZ.o rfl);have HRR:=HV;clear HV HRZ HZK;obtain⟨ob,hob⟩:∃ob,ob=old:=⟨_,rfl⟩;rw[<-hob] at H4 HRR;generalize hod:xW (.slice A1 d.secs.length c1) (.slice A2 d.cache.length c2)=od at H4
    have HF:Hid (Bk w (yBv w.heap.size g4 od (wD u xL ob ep (.slice A3 n3 k3) (.slice A4 n4 k4) gv) kR kG (xW (.slice A5 m5 k5) (.slice A6 m6 k6))) w5/\RdD w5 w5.heap.size (.slice A5 m5 k5) (.slice A6 m6 k6) rd):=ι H4.o;clear H4 hod hob;generalize rd=DD at HF HBG HRR
    go_upto_region 11 with fail
    refine RG.yT [2,3] (λL W=>Hid (Bk w (yBv w.heap.size g4 od (wD u xL ob ep (.slice A3 n3 k3) (.slice A4 n4 k4) gv) (if L 2 then wD u xL ob ep (.slice A3 n3 k3) (.slice A4 n4 k4) gv else kR) (if L 3 then xW (.slice A5 m5 k5) (.slice A6 m6 k6) else kG) (xW (.slice A5 m5 k5) (.slice A6 m6 k6))) W/\RdD W W.heap.size (.slice A5 m5 k5) (.slice A6 m6 k6) DD)) (λL L' W h hI=>by rw[<-h 2 δ,<-h 3 δ];exact hI) κ κ δ (ι ⟨HF.o.1.drew,(HF.o.2.below (Below.refl _ _).drew ν)⟩) ?_
    clear HF;refine RG.lF (λL w9 hw9=>have hk:=hw9.o.1.k 1 _ rfl;jV hk) ?_;refine RG.lF (λL w9 hw9=>have hk:=hw9.o.1.k 4 _ rfl;zG hk) ?_;apply RG.yA
    ·rfl
    ·intro L w9 h0 _ hw9;have hh:=hw9.o;rw[h0] at hh;simp only[if_neg (c:=false=true) σ] at hh;have HH:=ι hh.1;have hr:=RdD.over hh.2 HBG.o (hh.1.k 2 _ rfl) δ [.string u,.string xL,.string ob,.int .i64 ep,.slice A3 n3 k3,.slice A4 n4 k4,.int .i64 gv] 0
     simp only[xU,Nat.reduceAdd] at hr;have HR:=ι hr;clear hh hr hw9;have hz:=HH.o.k 2 _ rfl;have o0:=xA hz 0;have y0:=xB hz 0;have o1:=xA hz 1;have y1:=xB hz 1;have o2:=xA hz 2;have y2:=xB hz 2;have o3:=xA hz 3;have y3:=xB hz 3;have o4:=xA hz 4;have y4:=xB hz 4
     have o5:=xA hz 5;have y5:=xB hz 5;have o6:=xA hz 6;have y6:=xB hz 6;simp only[gA,gB,gC] at o0 o1 o2 o3 o4 o5 o6;have hs:=HH.o.set (i:=2) rfl [.string u,.string xL,.string ob,.int .i64 ep,.slice A3 n3 k3,.slice A4 n4 k4,.int .i64 gv] rfl
     simp only[xU,Nat.reduceAdd,List.set_cons_zero,List.set_cons_succ] at hs;have HS:=ι hs;clear hz hs;clear HH;repeat go_step
     refine RG.xC ?_
     show Hid (Bk w (yBv w.heap.size g4 od (wD u xL ob ep (.slice A3 n3 k3) (.slice A4 n4 k4) gv) (if (true:Bool)=true then wD u xL ob ep (.slice A3 n3 k3) (.slice A4 n4 k4) gv else kR) (if L 3 then xW (.slice A5 m5 k5) (.slice A6 m6 k6) else kG) (xW (.slice A5 m5 k5) (.slice A6 m6 k6))) _/\RdD _ _ (.slice A5 m5 k5) (.slice A6 m6 k6) DD)
     rw[if_pos rfl];exact ι ⟨HS.o,HR.o⟩
    ·rfl
    apply RG.yA
    ·rfl
    ·intro L w9 h0 _ hw9;have hh:=hw9.o;rw[h0] at hh;simp only[if_neg (c:=false=true) σ] at hh;have HH:=ι hh.1;have hr:=RdD.over hh.2 HBG.o (hh.1.k 3 _ rfl) δ [.slice A5 m5 k5,.slice A6 m6 k6] 0;simp only[xU,Nat.reduceAdd] at hr;have HR:=ι hr;clear hh hr hw9
     have hz:=HH.o.k 3 _ rfl;have o0:=xA hz 0;have y0:=xB hz 0;have o1:=xA hz 1;have y1:=xB hz 1;simp only[gA,gB,gC] at o0 o1;have hs:=HH.o.set (i:=3) rfl [.slice A5 m5 k5,.slice A6 m6 k6] rfl;simp only[xU,Nat.reduceAdd,List.set_cons_zero,List.set_cons_succ] at hs
     have HS:=ι hs;clear hz hs;clear HH;repeat go_step
     refine RG.xC ?_
     show Hid (Bk w (yBv w.heap.size g4 od (wD u xL ob ep (.slice A3 n3 k3) (.slice A4 n4 k4) gv) (if L 2 then wD u xL ob ep (.slice A3 n3 k3) (.slice A4 n4 k4) gv else kR) (if (true:Bool)=true then xW (.slice A5 m5 k5) (.slice A6 m6 k6) else kG) (xW (.slice A5 m5 k5) (.slice A6 m6 k6))) _/\RdD _ _ (.slice A5 m5 k5) (.slice A6 m6 k6) DD)
     rw[if_pos rfl];exact ι ⟨HS.o,HR.o⟩
    ·rfl
    iterate 2 refine RG.lS ?_
    refine RG.xZ (λw15 xWi=>?_);rw[if_pos rfl,if_pos rfl] at xWi;have xMp:=ι xWi.o;obtain⟨f0,f1,f2,f3,f4,f5,f6⟩:=jV (xMp.o.1.k 2 _ rfl);obtain⟨g0,g1⟩:=zG (xMp.o.1.k 3 _ rfl);have HB:=ι (And.intro xMp.o.1.bel xMp.o.2);clear xWi xMp HBG;go_wp2
    refine bodyPost_ret (v:=.tuple #[jZ u xL ob ep (.slice A3 n3 k3) (.slice A4 n4 k4) gv,.agg #[.slice A5 m5 k5,.slice A6 m6 k6],.bool false,.int .i64 0]) (by simp[results,results21,go_sem,f0,f1,f2,f3,f4,f5,f6,g0,g1]) rfl ?_;rw[<-HPO.o]
    exact⟨HB.o.1,.inr ⟨HRR.o.1,_,_,by rw[HRR.o.2.2.1,HRR.o.2.2.2],by rw[HRR.o.2.1];exact HB.o.2⟩⟩
  ·obtain rfl:k=N.length:=ω;rw[List.take_length] at HPN;obtain⟨hv1,hv2,hv3,hv4⟩:=HS3'.o HPN.o;have HV:=ι (And.intro hv1 (And.intro hv2 (And.intro hv3 hv4)));clear HS2' HS3' HPN hv1 hv2 hv3 hv4 HPV HRN HRB HNM HCL HR1 hlt hk HB2;obtain⟨e0,e1⟩:=zG (HI.o.k 0 _ rfl)
   have s0:=xKb (HI.o.k 1 _ rfl);go_wp2_with fail
   refine(HVF.o _ HI.o.bel).mono ?_;rintro e w4 ⟨va',vb',rfl,hrd,hb4⟩;obtain⟨A5,k5,A6,k6,rfl,rfl⟩:=xX hrd;have hal:=φ w4 (xW (.slice A5 fd.secs.length k5) (.slice A6 fd.cache.length k6))
   have H4:=ι (And.intro ((HI.o.below hb4).alloc (xW (.slice A5 fd.secs.length k5) (.slice A6 fd.cache.length k6))) ((hrd.below hal ν).more hal.size));clear hb4 hrd hal HI HVF e0 e1 s0;generalize fd.secs.length=m5 at H4⊢;generalize fd.cache.length=m6 at H4⊢
   go_upto_region 14 with fail
   obtain⟨w5,hw5⟩:∃w5,w4.alloc (xW (.slice A5 m5 k5) (.slice A6 m6 k6))=w5:=⟨_,rfl⟩;simp only[List.cons_append,List.nil_append] at H4;rw[hw5] at H4;simp only[xW] at hw5;rw[hw5];clear hw5;generalize w4.heap.size=g4 at H4⊢
   by_cases hre:fe=0
   case neg=>
    obtain⟨er,her⟩:∃er,er=fe:=⟨_,rfl⟩;rw[<-her] at hre HV HVB⊢;have HRR:=ι HV.o.1;have HNE:=ι hre;have HZ:=ι H4.o.1;have i1:(er==0)=false:=by simpa using hre
    clear her HV HVB H4 hre;have hz:=HZ.o.k 2 _ rfl;have hy:=HZ.o.k 3 _ rfl;obtain⟨o0,o1,o2,o3,o4,o5,o6⟩:=jV hz;have y0:=xB hz 0;have y1:=xB hz 1;have y2:=xB hz 2;have y3:=xB hz 3;have y4:=xB hz 4;have y5:=xB hz 5;have y6:=xB hz 6;obtain⟨p0,p1⟩:=zG hy;have q0:=xB hy 0
    have q1:=xB hy 1;have hs:=(HZ.o.set (i:=2) rfl [.string ⟨#[]⟩,.string ⟨#[]⟩,.string ⟨#[]⟩,.int .i64 0,.slice none 0 0,.slice none 0 0,.int .i64 0] rfl).set (i:=3) rfl [.slice none 0 0,.slice none 0 0] rfl
    simp only[xU,Nat.reduceAdd,List.set_cons_zero,List.set_cons_succ] at hs;have H4z:=ι hs;clear hz hy hs HZ;go_wp2;obtain⟨f0,f1,f2,f3,f4,f5,f6⟩:=jV (H4z.o.k 2 _ rfl);obtain⟨g0,g1⟩:=zG (H4z.o.k 3 _ rfl);have HB:=ι H4z.o.bel;clear H4z
    refine bodyPost_ret (v:=.tuple #[jZ ⟨#[]⟩ ⟨#[]⟩ ⟨#[]⟩ 0 (.slice none 0 0) (.slice none 0 0) 0,.agg #[.slice none 0 0,.slice none 0 0],.bool false,.int .i64 er]) (by simp[results,results21,go_sem,f0,f1,f2,f3,f4,f5,f6,g0,g1]) rfl ?_;rw[<-HPO.o]
    exact⟨HB.o,.inl ⟨by rw[HRR.o];exact HNE.o,by rw[HRR.o]⟩⟩
   subst hre;have HBG:=ι (HVB.o rfl);have HRR:=HV;clear HV HVB;go_upto_region 16 with fail
   have hz:=H4.o.1.k 1 _ rfl;have s2:=xA hz 2;have y2:=xB hz 2;simp only[gA,gB,gC] at s2;have hs:=H4.o.1.put (i:=1) rfl 2 (.string ⟨#[]⟩);simp only[List.set_cons_zero,List.set_cons_succ,List.setIfInBounds_toArray] at hs;have hr:=RdD.over H4.o.2 HBG.o hz σ [.string ⟨#[]⟩] 2
   simp only[xU] at hr;have H6:=ι (And.intro hs hr);clear hz hs hr H4;go_upto_region 17 with fail
   clear s2 y2;obtain⟨w6,hw6⟩:∃w6,w5.setCell ⟨w.heap.size+1,2,none⟩ (.string ⟨#[]⟩)=w6:=⟨_,rfl⟩;rw[hw6] at H6⊢;clear hw6;obtain⟨ob,hob⟩:∃ob:ByteArray,ob=⟨#[]⟩:=⟨_,rfl⟩;rw[<-hob] at H6 HRR;generalize hod:xW (.slice A1 d.secs.length c1) (.slice A2 d.cache.length c2)=od at H6
   have HF:Hid (Bk w (yBv w.heap.size g4 od (wD u xL ob ep (.slice A3 n3 k3) (.slice A4 n4 k4) gv) kR kG (xW (.slice A5 m5 k5) (.slice A6 m6 k6))) w6/\RdD w6 w6.heap.size (.slice A5 m5 k5) (.slice A6 m6 k6) fd):=ι (by
    refine⟨?_,H6.o.2⟩;have:=H6.o.1;exact this)
   clear H6 hod hob;generalize fd=DD at HF HBG HRR
   refine RG.yT [2,3] (λL W=>Hid (Bk w (yBv w.heap.size g4 od (wD u xL ob ep (.slice A3 n3 k3) (.slice A4 n4 k4) gv) (if L 2 then wD u xL ob ep (.slice A3 n3 k3) (.slice A4 n4 k4) gv else kR) (if L 3 then xW (.slice A5 m5 k5) (.slice A6 m6 k6) else kG) (xW (.slice A5 m5 k5) (.slice A6 m6 k6))) W/\RdD W W.heap.size (.slice A5 m5 k5) (.slice A6 m6 k6) DD)) (λL L' W h hI=>by rw[<-h 2 δ,<-h 3 δ];exact hI) κ κ δ (ι ⟨HF.o.1.drew,(HF.o.2.below (Below.refl _ _).drew ν)⟩) ?_
   clear HF;refine RG.lF (λL w9 hw9=>have hk:=hw9.o.1.k 1 _ rfl;jV hk) ?_;refine RG.lF (λL w9 hw9=>have hk:=hw9.o.1.k 4 _ rfl;zG hk) ?_;apply RG.yA
   ·rfl
   ·intro L w9 h0 _ hw9;have hh:=hw9.o;rw[h0] at hh;simp only[if_neg (c:=false=true) σ] at hh;have HH:=ι hh.1;have hr:=RdD.over hh.2 HBG.o (hh.1.k 2 _ rfl) δ [.string u,.string xL,.string ob,.int .i64 ep,.slice A3 n3 k3,.slice A4 n4 k4,.int .i64 gv] 0
    simp only[xU,Nat.reduceAdd] at hr;have HR:=ι hr;clear hh hr hw9;have hz:=HH.o.k 2 _ rfl;have o0:=xA hz 0;have y0:=xB hz 0;have o1:=xA hz 1;have y1:=xB hz 1;have o2:=xA hz 2;have y2:=xB hz 2;have o3:=xA hz 3;have y3:=xB hz 3;have o4:=xA hz 4;have y4:=xB hz 4
    have o5:=xA hz 5;have y5:=xB hz 5;have o6:=xA hz 6;have y6:=xB hz 6;simp only[gA,gB,gC] at o0 o1 o2 o3 o4 o5 o6;have hs:=HH.o.set (i:=2) rfl [.string u,.string xL,.string ob,.int .i64 ep,.slice A3 n3 k3,.slice A4 n4 k4,.int .i64 gv] rfl
    simp only[xU,Nat.reduceAdd,List.set_cons_zero,List.set_cons_succ] at hs;have HS:=ι hs;clear hz hs;clear HH;repeat go_step
    refine RG.xC ?_
    show Hid (Bk w (yBv w.heap.size g4 od (wD u xL ob ep (.slice A3 n3 k3) (.slice A4 n4 k4) gv) (if (true:Bool)=true then wD u xL ob ep (.slice A3 n3 k3) (.slice A4 n4 k4) gv else kR) (if L 3 then xW (.slice A5 m5 k5) (.slice A6 m6 k6) else kG) (xW (.slice A5 m5 k5) (.slice A6 m6 k6))) _/\RdD _ _ (.slice A5 m5 k5) (.slice A6 m6 k6) DD)
    rw[if_pos rfl];exact ι ⟨HS.o,HR.o⟩
   ·rfl
   apply RG.yA
   ·rfl
   ·intro L w9 h0 _ hw9;have hh:=hw9.o;rw[h0] at hh;simp only[if_neg (c:=false=true) σ] at hh;have HH:=ι hh.1;have hr:=RdD.over hh.2 HBG.o (hh.1.k 3 _ rfl) δ [.slice A5 m5 k5,.slice A6 m6 k6] 0;simp only[xU,Nat.reduceAdd] at hr;have HR:=ι hr;clear hh hr hw9
    have hz:=HH.o.k 3 _ rfl;have o0:=xA hz 0;have y0:=xB hz 0;have o1:=xA hz 1;have y1:=xB hz 1;simp only[gA,gB,gC] at o0 o1;have hs:=HH.o.set (i:=3) rfl [.slice A5 m5 k5,.slice A6 m6 k6] rfl;simp only[xU,Nat.reduceAdd,List.set_cons_zero,List.set_cons_succ] at hs;have HS:=ι hs
    clear hz hs;clear HH;repeat go_step
    refine RG.xC ?_
    show Hid (Bk w (yBv w.heap.size g4 od (wD u xL ob ep (.slice A3 n3 k3) (.slice A4 n4 k4) gv) (if L 2 then wD u xL ob ep (.slice A3 n3 k3) (.slice A4 n4 k4) gv else kR) (if (true:Bool)=true then xW (.slice A5 m5 k5) (.slice A6 m6 k6) else kG) (xW (.slice A5 m5 k5) (.slice A6 m6 k6))) _/\RdD _ _ (.slice A5 m5 k5) (.slice A6 m6 k6) DD)
    rw[if_pos rfl];exact ι ⟨HS.o,HR.o⟩
   ·rfl
   iterate 2 refine RG.lS ?_
   refine RG.xZ (λw15 xWi=>?_);rw[if_pos rfl,if_pos rfl] at xWi;have xMp:=ι xWi.o;obtain⟨f0,f1,f2,f3,f4,f5,f6⟩:=jV (xMp.o.1.k 2 _ rfl);obtain⟨g0,g1⟩:=zG (xMp.o.1.k 3 _ rfl);have HB:=ι (And.intro xMp.o.1.bel xMp.o.2);clear xWi xMp HBG;go_wp2
   refine bodyPost_ret (v:=.tuple #[jZ u xL ob ep (.slice A3 n3 k3) (.slice A4 n4 k4) gv,.agg #[.slice A5 m5 k5,.slice A6 m6 k6],.bool true,.int .i64 0]) (by simp[results,results21,go_sem,f0,f1,f2,f3,f4,f5,f6,g0,g1]) rfl ?_;rw[<-HPO.o]
   exact⟨HB.o.1,.inr ⟨HRR.o.1,_,_,by rw[HRR.o.2.2.1,HRR.o.2.2.2],by rw[HRR.o.2.1];exact HB.o.2⟩⟩
end Go.Proofs.VA
namespace Go.Proofs.IM
open Go.RowKit MM BU Mailsack SV RK DS IX CJ Go.Proofs.VA
structure DkR where
 A5:Option Addr
 m5:Nat
 k5:Nat
 A6:Option Addr
 m6:Nat
 k6:Nat
def DkR.ls (R:DkR):List Value:=[.slice R.A5 R.m5 R.k5,.slice R.A6 R.m6 R.k6]
def DkR.At (D:Dk) (er:Int) (R:DkR) (W:World):Prop:=er=0->RdD W W.heap.size (.slice R.A5 R.m5 R.k5) (.slice R.A6 R.m6 R.k6) D
def xTq (D:Dk):Prop:=D.cache=[]/\30<D.secs.length
theorem xZ8 {D:Dk} {va vb:Value} {W W':World} (h:RdD W W.heap.size va vb D) (hs:Still W W'):RdD W' W'.heap.size va vb D:=by
 obtain⟨h1,h2,h3,h4⟩:=h;refine⟨?_,?_,h3,h4⟩
 ·unfold RdS at*;simp only[hs.1,hs.2.1];exact h1
 ·unfold RdW at*;simp only[hs.1,hs.2.1];exact h2
def KyK (D:Dk) (er:Int) (S:List Value) (l0:Bs) (vs:List Value) (l:Bs) (W:World):Prop:=
 ∃A5 m5 k5 A6 m6 k6,vs=.slice A5 m5 k5::.slice A6 m6 k6::S/\l=l0/\er=0/\RdD W W.heap.size (.slice A5 m5 k5) (.slice A6 m6 k6) D/\xTq D
theorem KyK.stb (D:Dk) (er:Int) (S:List Value) (l0:Bs) (vs:List Value) (l:Bs):Stb (KyK D er S l0 vs l):=by
 refine⟨λh hs=>?_,λxs h hg ho=>?_⟩
 ·obtain⟨A5,m5,k5,A6,m6,k6,h1,h2,h3,h4,h5⟩:=h;exact⟨A5,m5,k5,A6,m6,k6,h1,h2,h3,xZ8 h4 hs,h5⟩
 ·obtain⟨A5,m5,k5,A6,m6,k6,h1,h2,h3,h4,h5⟩:=h;refine⟨A5,m5,k5,A6,m6,k6,h1,h2,h3,?_,h5⟩;rcases ho with rfl|rfl
  ·exact RdD.over h4 h5 hg δ xs 0
  ·exact RdD.over h4 h5 hg δ xs 0
theorem xZ7 {D:Dk} {va vb:Value} {W W':World} {b:Nat} {cs:Array Value} {t:TypeId} (h:RdD W W.heap.size va vb D) (h5:xTq D) (hg:W.heap[b]?=some (.cells cs t (0,0))) (hs:cs.size<=30) (hn:Tn (·=b) W W'):RdD W' W'.heap.size va vb D:=by
 refine(xLk h h5.1 h5.2 (g:=b) (λo ho=>?_) (λb' o hl hne=>?_)).more hn.size
 ·rw[xA hg,Array.getElem?_eq_none ω]
 ·simp only[World.cell?,hn.block b' hl hne]
abbrev pwC (D:Dk) (er:Int):CaD DkR where
 c:=21
 k:=1
 E:=23
 P:=25
 S:=26
 tup R:=.tuple #[.agg #[.slice R.A5 R.m5 R.k5,.slice R.A6 R.m6 R.k6],.int .i64 er]
 x _ R:=R.ls
 z _:=[.slice none 0 0,.slice none 0 0]
 T _:=25
 At:=DkR.At D er
 h1:=δ
 h2:=δ
 h3:=δ
theorem pwC_ok {D:Dk} {er:Int} (h:er=0->xTq D):(pwC D er).Ok where
 below:=λ{R W W'} ha hb h0=>((ha h0).below hb ν).more hb.size
 put:=λ{R W g j} _ ha hg h0=>RdD.over (ha h0) (h h0) hg σ _ 0
 len:=λj R _=>rfl
 T:=λi j hi hj hne=>absurd (show i=j by have h1:i<1:=hi;have h2:j<1:=hj;omega) hne
abbrev sdC (c E P S:Nat) (h1:c+1<E) (h2:E+2<=P) (h3:P+2<=S) (D:Dk) (er:Int) (ses:List Value) (tl:List Value):CaD DkR where
 c:=c
 k:=2
 E:=E
 P:=P
 S:=S
 tup R:=.tuple (.agg ses.toArray::.agg R.ls.toArray::tl).toArray
 x j R:=if j=0 then ses else R.ls
 z j:=if j=0 then[.string ⟨#[]⟩,.string ⟨#[]⟩,.string ⟨#[]⟩,.int .i64 0,.slice none 0 0,.slice none 0 0,.int .i64 0] else[.slice none 0 0,.slice none 0 0]
 T j:=if j=0 then 30 else 25
 At:=DkR.At D er
 h1:=h1
 h2:=h2
 h3:=h3
theorem yB9 {c E P S:Nat} {h1:c+1<E} {h2:E+2<=P} {h3:P+2<=S} {D:Dk} {er:Int} {ses tl:List Value} (hs:ses.length=7) (h:er=0->xTq D):(sdC c E P S h1 h2 h3 D er ses tl).Ok where
 below:=λ{R W W'} ha hb h0=>((ha h0).below hb ν).more hb.size
 put:=λ{R W g j} _ ha hg h0=>RdD.over (ha h0) (h h0) hg (by show(if j=0 then _ else _:List Value).toArray.size<=30;split<;>decide) _ 0
 len:=λj R _=>by
  show(if j=0 then _ else _:List Value).length=(if j=0 then _ else _:List Value).length;split
  ·exact hs
  ·rfl
 T:=λi j hi hj hne=>by
  show(if i=0 then _ else _:TypeId)≠(if j=0 then _ else _:TypeId);have h1:i<2:=hi;have h2:j<2:=hj
  by_cases e:i=0
  ·rw[if_pos e,if_neg ω];decide
  ·rw[if_neg e,if_pos ω];decide
structure KyC (w1:World) (b:Nat) (D:Dk) (d0 d1 va vb:Value) (S S' rest:List Value) (g20 g21:Nat) (c1 c2:Bool) (W:World):Prop where
 bl:Below b w1 W
 rd:RdD W W.heap.size va vb D
 c:W.heap[b]?=some (.cells ((if c1 then[va,vb] else[d0,d1])++(if c2 then S' else S)++rest).toArray 129 (0,0))
 s:W.heap[g20]?=some (.cells S'.toArray 30 (0,0))
 k:W.heap[g21]?=some (.cells #[va,vb] 25 (0,0))
theorem KyC.xKk {w1 W:World} {b:Nat} {D:Dk} {d0 d1 va vb:Value} {S S' rest:List Value} {g20 g21:Nat} {c2:Bool} (h:KyC w1 b D d0 d1 va vb S S' rest g20 g21 false c2 W) (hB:xTq D) (hl:S.length=S'.length) (hr:S.length+rest.length<=28):KyC w1 b D d0 d1 va vb S S' rest g20 g21 true c2 (xU b 0 [va,vb] W):=by
 have hc:=h.c;have hlen:(if c2=true then S' else S).length=S.length:=by split<;>simp[hl]
 refine⟨yZ ν _ 0 _ h.bl,RdD.over h.rd hB hc (by simp[hlen];omega) _ 0,(kQ [va,vb] 0 W _ hc σ).trans ?_,
  yX (λe=>by have k2:=h.s;rw[e,hc] at k2;injection k2 with k2;injection k2 with _ k2 _;exact absurd k2 δ) _ 0 _ h.s,yX (λe=>by have k2:=h.k;rw[e,hc] at k2;injection k2 with k2;injection k2 with _ k2 _;exact absurd k2 δ) _ 0 _ h.k⟩
 simp
theorem drop2 (a b:Value) (S rest:List Value):List.drop (2+S.length) (a::b::(S++rest))=rest:=by
 rw[Nat.add_comm,show S.length+2=S.length+1+1 from rfl,List.drop_succ_cons,List.drop_succ_cons,List.drop_left]
theorem KyC.put2 {w1 W:World} {b:Nat} {D:Dk} {d0 d1 va vb:Value} {S S' rest:List Value} {g20 g21:Nat} {c1:Bool} (h:KyC w1 b D d0 d1 va vb S S' rest g20 g21 c1 false W) (hB:xTq D) (hl:S.length=S'.length) (hr:S.length+rest.length<=28):KyC w1 b D d0 d1 va vb S S' rest g20 g21 c1 true (xU b 2 S' W):=by
 have hc:=h.c;have hlen:((if c1=true then[va,vb] else[d0,d1]):List Value).length=2:=by split<;>rfl
 refine⟨yZ ν _ 2 _ h.bl,RdD.over h.rd hB hc (by simp[hlen];omega) _ 2,(kQ S' 2 W _ hc (by simp[hlen,<-hl])).trans ?_,
  yX (λe=>by have k2:=h.s;rw[e,hc] at k2;injection k2 with k2;injection k2 with _ k2 _;exact absurd k2 δ) _ 2 _ h.s,yX (λe=>by have k2:=h.k;rw[e,hc] at k2;injection k2 with k2;injection k2 with _ k2 _;exact absurd k2 δ) _ 2 _ h.k⟩
 have hd:=λx y=>drop2 x y S rest;rw[hl] at hd;cases c1<;>simp[hd]
end Go.Proofs.IM
/- Contracts of functions. Conditions: as stated. -/
import Derived.Test.YtnafbinmecekeaaGreatDoorImapKeysProofB14
open Go.Proofs.Tryz
set_option maxHeartbeats 8000000
set_option maxRecDepth 100000
namespace Mailsack
open Go.Proofs.SH
theorem xUa {d:Dk} {u old pw xI xE:ByteArray} {r:Int} (h:xN3 d u old pw xI xE r=0):Go.Proofs.IM.xTq (xUb d u old pw xI xE r):=by
 unfold xN3 at h;unfold xUb;split at h
 ·rename_i h1
  exact absurd h h1
 ·rename_i h1
  rw[if_neg h1];split at h
  ·rename_i h2
   exact absurd h h2
  ·rename_i h2
   rw[if_neg h2];exact xB0 h
end Mailsack
namespace Go.Proofs.IM
open Go.RowKit MM BU Mailsack SV RK DS IX CJ Go.Proofs.VA
theorem xS0 (b:Nat) (d0 d1 s1 s2 s3 s4 s5 s6 s7 s8 s9 n0 n1 sl:Value) (d:Dk) (u old pw xI xE xL:ByteArray) (r:Int) (W:World) (hC:Cmd b #[d0,d1,.string u,s1,s2,s3,s4,s5,s6,s7,s8,s9,n0,n1,.string xI,.string xE,.string xL,.int .i64 r,sl,.bool false,.pointer none,.slice none 0 0] [] W)
  (hone:∀v∈[s1,s2,s3,s4,s5,s6,s7,s8,s9],v.oneCell'=true) (hD:RdD W b d0 d1 d) (hA:RdR 2 tkF W W.heap.size sl [(0,old.data.toList),(0,pw.data.toList)]) (hu:u.size<=1000) (ho:old.size<=1000) (hp:pw.size<=1000) (hc:d.cache.length<=10000) (hT:VaT W):
  Calls prog 128 #[xQj b] W (xGy (KyK (xUb d u old pw xI xE r) (xN3 d u old pw xI xE r) [.string u,s1,s2,s3,s4,s5,s6,s7,s8,s9] []) (xN3 d u old pw xI xE r≠0) False b n0 n1 (.string xI) (.string xE) (.string xL) (.int .i64 r) sl W):=by
 have HAL:=ι (xMk [(0,old.data.toList),(0,pw.data.toList)] sl W hA (by intro t ht;simp at ht;rcases ht with rfl|rfl<;>rfl) σ σ);have hbl:=xH hC.blk;have HBL:=ι hbl
 have HVC:Hid (∀w,ψ W w->Calls prog 19 #[.agg #[d0,d1],.string u,.string old,.string pw,SH.xAb xI xE xL r] w λe w'=>∃m5 m6 A5 k5 A6 k6,e=.returned (.tuple #[.agg #[.slice A5 m5 k5,.slice A6 m6 k6],.int .i64 (xN3 d u old pw xI xE r)])/\(xN3 d u old pw xI xE r=0->RdD w' w'.heap.size (.slice A5 m5 k5) (.slice A6 m6 k6) (xUb d u old pw xI xE r))/\ψ w w'):=ι (λw hb=>by
  refine(xFh d0 d1 d u old pw xI xE xL r w ((hD.below hb (Nat.le_of_lt hbl)).more (Nat.le_trans (Nat.le_of_lt hbl) hb.size)) hu ho hp hc (hT.below hb).se.sha).mono ?_;rintro e w' ⟨va,vb,rfl,hrd,hb⟩;obtain⟨A5,k5,A6,k6,rfl,rfl⟩:=xX hrd;exact⟨_,_,A5,k5,A6,k6,rfl,λ_=>hrd,hb⟩)
 have HC0:=ι hC;have xHm:=ι hone;have HBG:=ι (λh=>xUa (d:=d) (u:=u) (old:=old) (pw:=pw) (xI:=xI) (xE:=xE) (r:=r) h);obtain⟨er,her⟩:∃er,xN3 d u old pw xI xE r=er:=⟨_,rfl⟩;obtain⟨vd,hvd⟩:∃vd,xUb d u old pw xI xE r=vd:=⟨_,rfl⟩;rw[her,hvd] at HVC HBG;rw[her,hvd]
 have HOK:=ι (pwC_ok (D:=vd) (er:=er) HBG.o);clear hA hD hu ho hp hc hT hC hone her hvd;go_enter func128,ntmps128;have k18:W.cell? ⟨b,18,none⟩=some sl:=xA HC0.o.blk 18;go_wp2_with fail
 refine HAL.o.mono ?_;rintro e w1 ⟨A9,c9,rfl,ho,hb1⟩;obtain⟨A,c,e9,_,h3⟩:=ho.rd xFj;injection e9 with e9 e9' e9'';obtain⟨g9,xYa,e10,hg9,hcl⟩:=h3 σ;rw[e10] at e9;subst e9;have HF:=ι (And.intro hg9 (And.intro (hcl 0 _ rfl 0 _ rfl) (hcl 1 _ rfl 0 _ rfl)))
 have H1:=ι (And.intro hb1 (xD HC0.o.blk hb1 hbl));simp only[List.length_cons,List.length_nil,Nat.reduceAdd];clear ho hcl h3 hb1 e9' e9'' e10 hg9 HAL k18;go_upto_region 4 with fail
 refine RG.uA [26] [21,22,23,25] (λL α W9=>Hid (CaJ (pwC vd er) w1 L α W9)) (λL L' α α' W hl ha h=>ι (h.o.congr (λi hi=>hl i (by have hi2:i=21∨i=21+1∨(23<=i/\i<23+1)∨(25<=i/\i<25+1)∨(26<=i/\i<26+1):=hi;simp;omega)) (λi hi=>ha i (by have hi2:i=21∨i=21+1∨(23<=i/\i<23+1)∨(25<=i/\i<25+1):=hi;simp;omega)))) κ κ κ (ι (CaJ.start _ _)) ?_
 iterate 3 refine RG.vS ?_
 refine RG.vF (λα L w9 h0 hcl xK hw9=>have hb:=xD H1.o.2 hw9.o.b (xH H1.o.2);zG hb) ?_;iterate 5 refine RG.vS ?_
 apply RG.zC
 ·rfl
 ·rfl
 ·intro α L w9 h0 hcl xK hw9;have hb:=xD H1.o.2 hw9.o.b (xH H1.o.2);have c2:=xA hb 2;simp only[gA,gB,gC] at c2;clear hb;repeat go_step
  exact RG.xC hw9
 ·intro α;rfl
 iterate 2 refine RG.vS ?_
 apply RG.zC
 ·rfl
 ·rfl
 ·intro α L w9 h0 hcl xK hw9;have q0:=(hw9.o.b.cell (p:=⟨g9,xYa+0*1+0,none⟩) HF.o.1).trans HF.o.2.1;rw[show xYa+0*1+0=xYa by omega] at q0;repeat go_step
  exact RG.xC hw9
 ·intro α;rfl
 iterate 2 refine RG.vS ?_
 apply RG.zC
 ·rfl
 ·rfl
 ·intro α L w9 h0 hcl xK hw9;have q0:=(hw9.o.b.cell (p:=⟨g9,xYa+1*1+0,none⟩) HF.o.1).trans HF.o.2.2;rw[show xYa+1*1+0=xYa+1 by omega] at q0;repeat go_step
  exact RG.xC hw9
 ·intro α;rfl
 iterate 4 refine RG.vS ?_
 apply RG.zC
 ·rfl
 ·rfl
 ·intro α L w9 h0 hcl xK hw9;have hb:=xD H1.o.2 hw9.o.b (xH H1.o.2);have c14:=xA hb 14;have c15:=xA hb 15;have c16:=xA hb 16;have c17:=xA hb 17;simp only[gA,gB,gC] at c14 c15 c16 c17;clear hb;repeat go_step
  exact RG.xC hw9
 ·intro α;rfl
 apply RG.xB1
 ·rfl
 ·intro α L w9 h0 hcl xK hw9;have em:L 22=false:=hcl.not 30 (i:=22) h0 κ
  have ee:∀j,j<1->L (23+j)=false:=λj hj=>by
    match j,hj with
    |0,_=>exact hcl.not 30 (i:=23) h0 κ
  have es:∀j,j<1->L (26+j)=false:=λj hj=>by
    match j,hj with
    |0,_=>exact hcl.not 30 (i:=26) h0 κ
  repeat go_step
  refine(HVC.o w9 (H1.o.1.trans (hw9.o.b.mono H1.o.1.size))).mono ?_;rintro e w10 ⟨m5,m6,A5,k5,A6,k6,rfl,hrd,hb⟩;have HJ:=ι (CaJ.call hw9.o em ee es hb (R:=⟨A5,m5,k5,A6,m6,k6⟩) (λh0=>hrd h0));clear hrd hb hw9 em ee es;simp only[];repeat go_step
  exact⟨rfl,_,rfl,HJ⟩
 ·intro b α;rfl
 apply RG.xB1
 ·rfl
 ·intro α L w9 h0 hcl xK hw9
  have fc:L 21=true:=by
    have:=xK.yes 30 (i:=22) (j:=21) σ κ;simpa using this
  obtain⟨⟨A5,m5,k5,A6,m6,k6⟩,q1,q2⟩:=CaJ.move hw9.o fc;have Q:Hid (α 21=.tuple #[.agg #[.slice A5 m5 k5,.slice A6 m6 k6],.int .i64 er]):=ι q1
  have HJ:Hid (CaJ (pwC vd er) w1 (λn=>n==21+1||L n) (RG.wO α (21+1) (.tuple #[.agg #[.slice A5 m5 k5,.slice A6 m6 k6],.int .i64 er])) w9):=ι q2;rw[show α (0+1+1+1+1+1+1+1+1+1+1+1+1+1+1+1+1+1+1+1+1+1)=_ from Q.o];clear q1 q2 hw9;repeat go_step
  exact⟨rfl,_,rfl,HJ⟩
 ·intro b α;rfl
 apply RG.vK
 ·rfl
 ·intro α L w9 h0 hcl xK hw9
  have fc:L 21=true:=by
    have:=xK.yes 30 (i:=23) (j:=21) σ κ;simpa using this
  have fm:L 22=true:=by
    have:=xK.yes 30 (i:=23) (j:=22) σ κ;simpa using this
  obtain⟨⟨A5,m5,k5,A6,m6,k6⟩,q1,q2⟩:=CaJ.take hw9.o fc fm;have Q:Hid (α 22=.tuple #[.agg #[.slice A5 m5 k5,.slice A6 m6 k6],.int .i64 er]):=ι q1;refine⟨.agg #[.slice A5 m5 k5,.slice A6 m6 k6],λbv hbv=>?_⟩
  have HJ:Hid (CaJ (pwC vd er) w1 (λn=>n==23||L n) (RG.wO α 23 (.agg #[.slice A5 m5 k5,.slice A6 m6 k6])) w9):=ι (q2 23 0 (show 0<1 by decide) rfl);rw[<-hbv] at HJ;rw[show α (0+1+1+1+1+1+1+1+1+1+1+1+1+1+1+1+1+1+1+1+1+1+1)=_ from Q.o];clear q1 q2 hw9;repeat go_step
  rw[<-show α (0+1+1+1+1+1+1+1+1+1+1+1+1+1+1+1+1+1+1+1+1+1+1)=_ from Q.o,<-hbv];refine RG.xC ?_;exact HJ
 ·intro b α;rfl
 apply RG.zC (v:=.int .i64 er)
 ·rfl
 ·rfl
 ·intro α L w9 h0 hcl xK hw9
  have fc:L 21=true:=by
    have:=xK.yes 30 (i:=24) (j:=21) σ κ;simpa using this
  have fm:L 22=true:=by
    have:=xK.yes 30 (i:=24) (j:=22) σ κ;simpa using this
  obtain⟨⟨A5,m5,k5,A6,m6,k6⟩,q1,q2⟩:=CaJ.take hw9.o fc fm;have Q:Hid (α 22=.tuple #[.agg #[.slice A5 m5 k5,.slice A6 m6 k6],.int .i64 er]):=ι q1;rw[show α (0+1+1+1+1+1+1+1+1+1+1+1+1+1+1+1+1+1+1+1+1+1+1)=_ from Q.o];clear q1 q2;repeat go_step
  rw[<-show α (0+1+1+1+1+1+1+1+1+1+1+1+1+1+1+1+1+1+1+1+1+1+1)=_ from Q.o];exact RG.xC hw9
 ·intro α;rfl
 apply RG.vK
 ·rfl
 ·intro α L w9 h0 hcl xK hw9;have e:L 26=false:=hcl.not 30 (i:=26) h0 κ;refine⟨.pointer (some ⟨w9.heap.size,0,none⟩),λbv hbv=>?_⟩
  have HJ:Hid (CaJ (pwC vd er) w1 (λn=>n==25||L n) (RG.wO α 25 (.pointer (some ⟨w9.heap.size,0,none⟩))) (w9.alloc (kG))):=ι (CaJ.new hw9.o HOK.o (j:=0) (show 0<1 by decide) rfl e);rw[<-hbv] at HJ;clear hw9;repeat go_step
  rw[<-hbv];refine RG.xC ?_;exact HJ
 ·intro b α;rfl
 apply RG.jK (v:=undef)
 ·rfl
 ·rfl
 ·intro α L w9 h0 hcl xK hw9
  have fc:L 21=true:=by
    have:=xK.yes 30 (i:=26) (j:=21) σ κ;simpa using this
  have fv:L 23=true:=by
    have:=xK.yes 30 (i:=26) (j:=23) σ κ;simpa using this
  have fp:L 25=true:=by
    have:=xK.yes 30 (i:=26) (j:=25) σ κ;simpa using this
  obtain⟨⟨A5,m5,k5,A6,m6,k6⟩,g,q1,q2,hx,hg,q3⟩:=CaJ.set hw9.o HOK.o (j:=0) (show 0<1 by decide) rfl h0 fc fv fp;have Q:Hid (α 23=.agg #[.slice A5 m5 k5,.slice A6 m6 k6]):=ι q1;have N1:Hid (α 25=.pointer (some ⟨g,0,none⟩)):=ι q2
  have q4:CaJ (pwC vd er) w1 (λn=>n==26||L n) α (xU g 0 [.slice A5 m5 k5,.slice A6 m6 k6] w9):=q3;simp only[xU,Nat.reduceAdd] at q4;have HJ:=ι q4;have hx2:w9.heap[g]?=some (kG):=hx;have hbb:=hw9.o.b
  obtain⟨o0,y0,f0,o1,y1,f1,HB⟩:=xIm hx2 hbb ω (.slice A5 m5 k5) (.slice A6 m6 k6) _ rfl;rw[show α (0+1+1+1+1+1+1+1+1+1+1+1+1+1+1+1+1+1+1+1+1+1+1+1)=_ from Q.o,show α (0+1+1+1+1+1+1+1+1+1+1+1+1+1+1+1+1+1+1+1+1+1+1+1+1+1)=_ from N1.o];clear hx hx2 hbb q1 q2 q3 q4 hw9
  repeat go_step
  rw[<-show α (0+1+1+1+1+1+1+1+1+1+1+1+1+1+1+1+1+1+1+1+1+1+1+1)=_ from Q.o,<-show α (0+1+1+1+1+1+1+1+1+1+1+1+1+1+1+1+1+1+1+1+1+1+1+1+1+1)=_ from N1.o];refine RG.xC ?_;exact HJ
 ·intro α;rfl
 refine RG.vS ?_;refine RG.qV (λα w2 hw2=>?_);obtain⟨⟨A5,m5,k5,A6,m6,k6⟩,q1,q2,q3,q4⟩:=CaJ.done hw2.o;obtain⟨q50,g0,q60,q70,q80⟩:=q4 0 (show 0<1 by decide);have H2:=ι (And.intro hw2.o.b (And.intro q2 (And.intro q70 (And.intro q80 (xD H1.o.2 hw2.o.b (xH H1.o.2))))))
 simp only[Nat.zero_add,Nat.reduceAdd]
 rw[show α 21=.tuple #[.agg #[.slice A5 m5 k5,.slice A6 m6 k6],.int .i64 er] from q1,show α 22=.tuple #[.agg #[.slice A5 m5 k5,.slice A6 m6 k6],.int .i64 er] from q3,show α 23=.agg #[.slice A5 m5 k5,.slice A6 m6 k6] from q50,show α 25=.pointer (some ⟨g0,0,none⟩) from q60]
 clear q1 q2 q3 q4 q50 q60 q70 q80 hw2;clear HVC HF HOK;have HB2:Hid (Below b W w2):=ι ((H1.o.1.mono (Nat.le_of_lt HBL.o)).trans (H2.o.1.mono (Nat.le_of_lt (Nat.lt_of_lt_of_le HBL.o H1.o.1.size))))
 by_cases he:er=0
 case neg=>
  go_wp2;go_ret;exact .inr (.inl ⟨rfl,by first|exact he|trivial,HB2.o⟩)
 subst he;obtain⟨_,hat,hg0,hk0,hcb⟩:=H2.o;have HR:=ι (hat (by first|rfl|trivial));have HK0:Hid (w2.heap[g0]?=some (xW (.slice A5 m5 k5) (.slice A6 m6 k6))):=ι hk0;have HCB:=ι hcb;clear hat hg0 hk0 hcb H2 H1;go_upto_region 7 with fail
 obtain⟨q0,q1⟩:=zG HK0.o;have o0:=xA HCB.o 0;have y0:=xB HCB.o 0;have o1:=xA HCB.o 1;have y1:=xB HCB.o 1
 have hcc:(xU b 0 [.slice A5 m5 k5,.slice A6 m6 k6] w2).heap[b]?=some (.cells #[.slice A5 m5 k5,.slice A6 m6 k6,.string u,s1,s2,s3,s4,s5,s6,s7,s8,s9,n0,n1,.string xI,.string xE,.string xL,.int .i64 r,sl,.bool false,.pointer none,.slice none 0 0] 129 (0,0)):=(kQ [.slice A5 m5 k5,.slice A6 m6 k6] 0 w2 _ HCB.o σ).trans rfl
 have hrr:=RdD.over HR.o (HBG.o (by first|rfl|trivial)) HCB.o σ [.slice A5 m5 k5,.slice A6 m6 k6] 0;have hbb:=yZ (b:=b) (B:=b) ν [.slice A5 m5 k5,.slice A6 m6 k6] 0 _ HB2.o;simp only[xU,Nat.reduceAdd] at hcc hrr hbb;have HF:=ι (And.intro hcc (And.intro hrr hbb))
 clear hcc hrr hbb HR HK0 HCB HB2;go_wp2;go_ret
 exact .inl ⟨_,_,_,_,_,_,_,_,_,_,_,_,_,_,[],rfl,xGk HF.o.1 rfl rfl rfl,⟨A5,m5,k5,A6,m6,k6,rfl,rfl,rfl,HF.o.2.1,HBG.o (by first|rfl|trivial)⟩,by
  intro v hv;simp only[List.mem_cons,List.not_mem_nil,or_false] at hv;rcases hv with rfl|rfl|rfl|rfl|rfl|rfl|rfl|rfl|rfl|rfl|rfl|rfl<;>first|rfl|exact xHm.o _ σ,σ,HF.o.2.2⟩
end Go.Proofs.IM
namespace Mailsack
open Go.Proofs.SH
theorem xU8 {d:Dk} {u:ByteArray} {x:uQ} {pw xI xE fp:ByteArray} {r:Int} (h:xP0 d u x pw xI xE fp r=0):Go.Proofs.IM.xTq (uY d (xR7 d u x pw xI xE fp r)):=by
 unfold xP0 at h;split at h
 ·rename_i h1
  exact absurd h h1
 ·split at h
  ·rename_i h2
   exact absurd h h2
  ·exact xB0 h
end Mailsack
namespace Go.Proofs.IM
open Go.RowKit MM BU Mailsack SV RK DS IX CJ Go.Proofs.VA
theorem xGx.flat {D:Dk} {er:Int} {u p o:ByteArray} {e:Int} {A3 A4:Option Addr} {n3 k3 n4 k4:Nat} {g:Int} {P:World->(Ending->World->Prop)->Prop} (hm:∀w Q Q',P w Q->(∀e w',Q e w'->Q' e w')->P w Q') (h:∀w,P w (xGx (jZ u p o e (.slice A3 n3 k3) (.slice A4 n4 k4) g) D er w)):
  ∃(su sp so:ByteArray) (se:Int) (B3 B4:Option Addr) (i3 j3 i4 j4:Nat) (gv:Int),(er=0->u=su/\p=sp/\o=so/\e=se/\A3=B3/\n3=i3/\k3=j3/\A4=B4/\n4=i4/\k4=j4/\g=gv)/\
   ∀w,P w (λe w'=>∃m5 m6 A5 k5 A6 k6,e=.returned (.tuple #[jZ su sp so se (.slice B3 i3 j3) (.slice B4 i4 j4) gv,.agg #[.slice A5 m5 k5,.slice A6 m6 k6],.int .i64 er])/\(er=0->RdD w' w'.heap.size (.slice A5 m5 k5) (.slice A6 m6 k6) D)/\ψ w w'):=by
 by_cases he:er=0
 ·refine⟨u,p,o,e,A3,A4,n3,k3,n4,k4,g,λ_=>⟨rfl,rfl,rfl,rfl,rfl,rfl,rfl,rfl,rfl,rfl,rfl⟩,λw=>hm w _ _ (h w) ?_⟩;rintro e w' ⟨hb,⟨hn,_⟩|⟨_,va,vb,rfl,hrd⟩⟩
  ·exact absurd he hn
  ·obtain⟨A5,k5,A6,k6,rfl,rfl⟩:=xX hrd;exact⟨_,_,A5,k5,A6,k6,by rw[he],λ_=>hrd,hb⟩
 ·refine⟨⟨#[]⟩,⟨#[]⟩,⟨#[]⟩,0,none,none,0,0,0,0,0,λh=>absurd h he,λw=>hm w _ _ (h w) ?_⟩;rintro e w' ⟨hb,⟨_,rfl⟩|⟨h0,_⟩⟩
  ·exact⟨_,_,none,0,none,0,rfl,λh=>absurd h he,hb⟩
  ·exact absurd h0 he
theorem xRq (b:Nat) (d0 d1 s7 s8 s9 n0 n1 sl:Value) (d:Dk) (u op oo pw xI xE fp:ByteArray) (oe r:Int) (A3 A4:Option Addr) (k3 k4:Nat) (x:uQ) (W:World) (hC:Cmd b #[d0,d1,.string u,.string op,.string oo,.int .i64 oe,.slice A3 x.boxes.length k3,.slice A4 x.subs.length k4,.int .i64 x.given,s7,s8,s9,n0,n1,.string xI,.string xE,.string fp,.int .i64 r,sl,.bool false,.pointer none,.slice none 0 0] [] W)
  (hone:∀v∈[s7,s8,s9],v.oneCell'=true) (hD:RdD W b d0 d1 d) (hx:xKp W b (.slice A3 x.boxes.length k3) (.slice A4 x.subs.length k4) x) (hxl:x.boxes.length<=9223372036854775807) (hxm:∀b∈x.boxes,b.zA.length<=9223372036854775807) (hxs:x.subs.length<=9223372036854775807)
  (hA:RdR 2 tkF W W.heap.size sl [(0,pw.data.toList)]) (hu:u.size<=1000) (hp:pw.size<=1000) (hc:d.cache.length<=10000) (hT:VaT W):
  Calls prog 129 #[xQj b] W (xGy (KyK (uY d (xR7 d u x pw xI xE fp r)) (xP0 d u x pw xI xE fp r) [.string u,.string fp,.string op,.int .i64 (xKj (zQ d u) pw xI xE fp r).vQ,.slice A3 x.boxes.length k3,.slice A4 x.subs.length k4,.int .i64 x.given,s7,s8,s9] []) (xP0 d u x pw xI xE fp r≠0) False b n0 n1 (.string xI) (.string xE) (.string fp) (.int .i64 r) sl W):=by
 have HAL:=ι (xMk [(0,pw.data.toList)] sl W hA (by intro t ht;simp at ht;rw[ht]) σ σ);have hbl:=xH hC.blk;have HBL:=ι hbl
 have hvr:=λw (hb:ψ W w)=>xFg d0 d1 d u op oo pw xI xE fp oe r (.slice A3 x.boxes.length k3) (.slice A4 x.subs.length k4) x w ((hD.below hb (Nat.le_of_lt hbl)).more (Nat.le_trans (Nat.le_of_lt hbl) hb.size)) ((hx.below hb (Nat.le_of_lt hbl)).more (Nat.le_trans (Nat.le_of_lt hbl) hb.size)) hxl hxm hxs hu hp hc (hT.below hb).se.sha
 generalize (xKj (zQ d u) pw xI xE fp r).vQ=te at hvr⊢;have xY5:=λh=>xU8 (d:=d) (u:=u) (x:=x) (pw:=pw) (xI:=xI) (xE:=xE) (fp:=fp) (r:=r) h;generalize xP0 d u x pw xI xE fp r=er at hvr xY5⊢;generalize uY d (xR7 d u x pw xI xE fp r)=vd at hvr xY5⊢
 generalize x.boxes.length=n3 at hvr hC⊢;generalize x.subs.length=n4 at hvr hC⊢;generalize x.given=gv at hvr hC⊢
 obtain⟨su,sp,so,se,B3,B4,i3,j3,i4,j4,gv',heq,hfl⟩:=xGx.flat (P:=λw Q=>ψ W w->Calls prog 20 #[.agg #[d0,d1],jZ u op oo oe (.slice A3 n3 k3) (.slice A4 n4 k4) gv,.string pw,SH.xAb xI xE fp r] w Q) (λw Q Q' h1 h2 hb=>(h1 hb).mono h2) hvr;have HVC:=ι hfl;have HEQ:=ι heq
 have HC0:=ι hC;have xHm:=ι hone;have HOK:=ι (yB9 (c:=17) (E:=19) (P:=22) (S:=24) (h1:=by decide) (h2:=by decide) (h3:=by decide) (D:=vd) (er:=er) (ses:=[.string su,.string sp,.string so,.int .i64 se,.slice B3 i3 j3,.slice B4 i4 j4,.int .i64 gv']) (tl:=[.int .i64 er]) rfl xY5)
 have HBGI:=ι xY5;clear hA hD hu hp hc hT hC hone hx hxl hxm hxs hvr hfl heq xY5;go_enter func129,ntmps129;have k18:W.cell? ⟨b,18,none⟩=some sl:=xA HC0.o.blk 18;go_wp2_with fail
 refine HAL.o.mono ?_;rintro e w1 ⟨A9,c9,rfl,ho,hb1⟩;obtain⟨A,c,e9,_,h3⟩:=ho.rd xFj;injection e9 with e9 e9' e9'';obtain⟨g9,xYa,e10,hg9,hcl⟩:=h3 σ;rw[e10] at e9;subst e9;have HF:=ι (And.intro hg9 (hcl 0 _ rfl 0 _ rfl));have H1:=ι (And.intro hb1 (xD HC0.o.blk hb1 hbl))
 simp only[List.length_cons,List.length_nil,Nat.reduceAdd];clear ho hcl h3 hb1 e9' e9'' e10 hg9 HAL k18;go_upto_region 4 with fail
 refine RG.uA [24,25] [17,18,19,20,22,23] (λL α W9=>Hid (CaJ (sdC 17 19 22 24 δ δ δ vd er [.string su,.string sp,.string so,.int .i64 se,.slice B3 i3 j3,.slice B4 i4 j4,.int .i64 gv'] [.int .i64 er]) w1 L α W9)) (λL L' α α' W hl ha h=>ι (h.o.congr (λi hi=>hl i (by have hi2:i=17∨i=17+1∨(19<=i/\i<19+2)∨(22<=i/\i<22+2)∨(24<=i/\i<24+2):=hi;simp;omega)) (λi hi=>ha i (by have hi2:i=17∨i=17+1∨(19<=i/\i<19+2)∨(22<=i/\i<22+2):=hi;simp;omega)))) κ κ κ (ι (CaJ.start _ _)) ?_
 iterate 3 refine RG.vS ?_
 refine RG.vF (λα L w9 h0 hcl xK hw9=>have hb:=xD H1.o.2 hw9.o.b (xH H1.o.2);zG hb) ?_;iterate 4 refine RG.vS ?_
 apply RG.zC
 ·rfl
 ·rfl
 ·intro α L w9 h0 hcl xK hw9;have hb:=xD H1.o.2 hw9.o.b (xH H1.o.2);have c2:=xA hb 2;have c3:=xA hb 3;have c4:=xA hb 4;have c5:=xA hb 5;have c6:=xA hb 6;have c7:=xA hb 7;have c8:=xA hb 8;simp only[gA,gB,gC] at c2 c3 c4 c5 c6 c7 c8;clear hb;repeat go_step
  exact RG.xC hw9
 ·intro α;rfl
 iterate 2 refine RG.vS ?_
 apply RG.zC
 ·rfl
 ·rfl
 ·intro α L w9 h0 hcl xK hw9;have q0:=(hw9.o.b.cell (p:=⟨g9,xYa+0*1+0,none⟩) HF.o.1).trans HF.o.2;rw[show xYa+0*1+0=xYa by omega] at q0;repeat go_step
  exact RG.xC hw9
 ·intro α;rfl
 iterate 4 refine RG.vS ?_
 apply RG.zC
 ·rfl
 ·rfl
 ·intro α L w9 h0 hcl xK hw9;have hb:=xD H1.o.2 hw9.o.b (xH H1.o.2);have c14:=xA hb 14;have c15:=xA hb 15;have c16:=xA hb 16;have c17:=xA hb 17;simp only[gA,gB,gC] at c14 c15 c16 c17;clear hb;repeat go_step
  exact RG.xC hw9
 ·intro α;rfl
 apply RG.xB1
 ·rfl
 ·intro α L w9 h0 hcl xK hw9;have em:L 18=false:=hcl.not 29 (i:=18) h0 κ
  have ee:∀j,j<2->L (19+j)=false:=λj hj=>by
    match j,hj with
    |0,_=>exact hcl.not 29 (i:=19) h0 κ
    |1,_=>exact hcl.not 29 (i:=20) h0 κ
  have es:∀j,j<2->L (24+j)=false:=λj hj=>by
    match j,hj with
    |0,_=>exact hcl.not 29 (i:=24) h0 κ
    |1,_=>exact hcl.not 29 (i:=25) h0 κ
  repeat go_step
  refine(HVC.o w9 (H1.o.1.trans (hw9.o.b.mono H1.o.1.size))).mono ?_;rintro e w10 ⟨m5,m6,A5,k5,A6,k6,rfl,hrd,hb⟩;have HJ:=ι (CaJ.call hw9.o em ee es hb (R:=⟨A5,m5,k5,A6,m6,k6⟩) (λh0=>hrd h0));clear hrd hb hw9 em ee es;simp only[];repeat go_step
  exact⟨rfl,_,rfl,HJ⟩
 ·intro b α;rfl
 apply RG.xB1
 ·rfl
 ·intro α L w9 h0 hcl xK hw9
  have fc:L 17=true:=by
    have:=xK.yes 29 (i:=18) (j:=17) σ κ;simpa using this
  obtain⟨⟨A5,m5,k5,A6,m6,k6⟩,q1,q2⟩:=CaJ.move hw9.o fc;have Q:Hid (α 17=.tuple #[.agg #[.string su,.string sp,.string so,.int .i64 se,.slice B3 i3 j3,.slice B4 i4 j4,.int .i64 gv'],.agg #[.slice A5 m5 k5,.slice A6 m6 k6],.int .i64 er]):=ι q1
  have HJ:Hid (CaJ (sdC 17 19 22 24 δ δ δ vd er [.string su,.string sp,.string so,.int .i64 se,.slice B3 i3 j3,.slice B4 i4 j4,.int .i64 gv'] [.int .i64 er]) w1 (λn=>n==17+1||L n) (RG.wO α (17+1) (.tuple #[.agg #[.string su,.string sp,.string so,.int .i64 se,.slice B3 i3 j3,.slice B4 i4 j4,.int .i64 gv'],.agg #[.slice A5 m5 k5,.slice A6 m6 k6],.int .i64 er])) w9):=ι q2
  rw[show α (0+1+1+1+1+1+1+1+1+1+1+1+1+1+1+1+1+1)=_ from Q.o];clear q1 q2 hw9;repeat go_step
  exact⟨rfl,_,rfl,HJ⟩
 ·intro b α;rfl
 apply RG.vK
 ·rfl
 ·intro α L w9 h0 hcl xK hw9
  have fc:L 17=true:=by
    have:=xK.yes 29 (i:=19) (j:=17) σ κ;simpa using this
  have fm:L 18=true:=by
    have:=xK.yes 29 (i:=19) (j:=18) σ κ;simpa using this
  obtain⟨⟨A5,m5,k5,A6,m6,k6⟩,q1,q2⟩:=CaJ.take hw9.o fc fm;have Q:Hid (α 18=.tuple #[.agg #[.string su,.string sp,.string so,.int .i64 se,.slice B3 i3 j3,.slice B4 i4 j4,.int .i64 gv'],.agg #[.slice A5 m5 k5,.slice A6 m6 k6],.int .i64 er]):=ι q1
  refine⟨.agg #[.string su,.string sp,.string so,.int .i64 se,.slice B3 i3 j3,.slice B4 i4 j4,.int .i64 gv'],λbv hbv=>?_⟩
  have HJ:Hid (CaJ (sdC 17 19 22 24 δ δ δ vd er [.string su,.string sp,.string so,.int .i64 se,.slice B3 i3 j3,.slice B4 i4 j4,.int .i64 gv'] [.int .i64 er]) w1 (λn=>n==19||L n) (RG.wO α 19 (.agg #[.string su,.string sp,.string so,.int .i64 se,.slice B3 i3 j3,.slice B4 i4 j4,.int .i64 gv'])) w9):=ι (q2 19 0 (show 0<2 by decide) rfl)
  rw[<-hbv] at HJ;rw[show α (0+1+1+1+1+1+1+1+1+1+1+1+1+1+1+1+1+1+1)=_ from Q.o];clear q1 q2 hw9;repeat go_step
  rw[<-show α (0+1+1+1+1+1+1+1+1+1+1+1+1+1+1+1+1+1+1)=_ from Q.o,<-hbv];refine RG.xC ?_;exact HJ
 ·intro b α;rfl
 apply RG.vK
 ·rfl
 ·intro α L w9 h0 hcl xK hw9
  have fc:L 17=true:=by
    have:=xK.yes 29 (i:=20) (j:=17) σ κ;simpa using this
  have fm:L 18=true:=by
    have:=xK.yes 29 (i:=20) (j:=18) σ κ;simpa using this
  obtain⟨⟨A5,m5,k5,A6,m6,k6⟩,q1,q2⟩:=CaJ.take hw9.o fc fm;have Q:Hid (α 18=.tuple #[.agg #[.string su,.string sp,.string so,.int .i64 se,.slice B3 i3 j3,.slice B4 i4 j4,.int .i64 gv'],.agg #[.slice A5 m5 k5,.slice A6 m6 k6],.int .i64 er]):=ι q1
  refine⟨.agg #[.slice A5 m5 k5,.slice A6 m6 k6],λbv hbv=>?_⟩
  have HJ:Hid (CaJ (sdC 17 19 22 24 δ δ δ vd er [.string su,.string sp,.string so,.int .i64 se,.slice B3 i3 j3,.slice B4 i4 j4,.int .i64 gv'] [.int .i64 er]) w1 (λn=>n==20||L n) (RG.wO α 20 (.agg #[.slice A5 m5 k5,.slice A6 m6 k6])) w9):=ι (q2 20 1 (show 1<2 by decide) rfl)
  rw[<-hbv] at HJ;rw[show α (0+1+1+1+1+1+1+1+1+1+1+1+1+1+1+1+1+1+1)=_ from Q.o];clear q1 q2 hw9;repeat go_step
  rw[<-show α (0+1+1+1+1+1+1+1+1+1+1+1+1+1+1+1+1+1+1)=_ from Q.o,<-hbv];refine RG.xC ?_;exact HJ
 ·intro b α;rfl
 apply RG.zC (v:=.int .i64 er)
 ·rfl
 ·rfl
 ·intro α L w9 h0 hcl xK hw9
  have fc:L 17=true:=by
    have:=xK.yes 29 (i:=21) (j:=17) σ κ;simpa using this
  have fm:L 18=true:=by
    have:=xK.yes 29 (i:=21) (j:=18) σ κ;simpa using this
  obtain⟨⟨A5,m5,k5,A6,m6,k6⟩,q1,q2⟩:=CaJ.take hw9.o fc fm;have Q:Hid (α 18=.tuple #[.agg #[.string su,.string sp,.string so,.int .i64 se,.slice B3 i3 j3,.slice B4 i4 j4,.int .i64 gv'],.agg #[.slice A5 m5 k5,.slice A6 m6 k6],.int .i64 er]):=ι q1
  rw[show α (0+1+1+1+1+1+1+1+1+1+1+1+1+1+1+1+1+1+1)=_ from Q.o];clear q1 q2;repeat go_step
  rw[<-show α (0+1+1+1+1+1+1+1+1+1+1+1+1+1+1+1+1+1+1)=_ from Q.o];exact RG.xC hw9
 ·intro α;rfl
 apply RG.vK
 ·rfl
 ·intro α L w9 h0 hcl xK hw9;have e:L 24=false:=hcl.not 29 (i:=24) h0 κ;refine⟨.pointer (some ⟨w9.heap.size,0,none⟩),λbv hbv=>?_⟩
  have HJ:Hid (CaJ (sdC 17 19 22 24 δ δ δ vd er [.string su,.string sp,.string so,.int .i64 se,.slice B3 i3 j3,.slice B4 i4 j4,.int .i64 gv'] [.int .i64 er]) w1 (λn=>n==22||L n) (RG.wO α 22 (.pointer (some ⟨w9.heap.size,0,none⟩))) (w9.alloc (kR))):=ι (CaJ.new hw9.o HOK.o (j:=0) (show 0<2 by decide) rfl e)
  rw[<-hbv] at HJ;clear hw9;repeat go_step
  rw[<-hbv];refine RG.xC ?_;exact HJ
 ·intro b α;rfl
 apply RG.vK
 ·rfl
 ·intro α L w9 h0 hcl xK hw9;have e:L 25=false:=hcl.not 29 (i:=25) h0 κ;refine⟨.pointer (some ⟨w9.heap.size,0,none⟩),λbv hbv=>?_⟩
  have HJ:Hid (CaJ (sdC 17 19 22 24 δ δ δ vd er [.string su,.string sp,.string so,.int .i64 se,.slice B3 i3 j3,.slice B4 i4 j4,.int .i64 gv'] [.int .i64 er]) w1 (λn=>n==23||L n) (RG.wO α 23 (.pointer (some ⟨w9.heap.size,0,none⟩))) (w9.alloc (kG))):=ι (CaJ.new hw9.o HOK.o (j:=1) (show 1<2 by decide) rfl e)
  rw[<-hbv] at HJ;clear hw9;repeat go_step
  rw[<-hbv];refine RG.xC ?_;exact HJ
 ·intro b α;rfl
 apply RG.jK (v:=undef)
 ·rfl
 ·rfl
 ·intro α L w9 h0 hcl xK hw9
  have fc:L 17=true:=by
    have:=xK.yes 29 (i:=24) (j:=17) σ κ;simpa using this
  have fv:L 19=true:=by
    have:=xK.yes 29 (i:=24) (j:=19) σ κ;simpa using this
  have fp:L 22=true:=by
    have:=xK.yes 29 (i:=24) (j:=22) σ κ;simpa using this
  obtain⟨⟨A5,m5,k5,A6,m6,k6⟩,g,q1,q2,hx,hg,q3⟩:=CaJ.set hw9.o HOK.o (j:=0) (show 0<2 by decide) rfl h0 fc fv fp;have Q:Hid (α 19=.agg #[.string su,.string sp,.string so,.int .i64 se,.slice B3 i3 j3,.slice B4 i4 j4,.int .i64 gv']):=ι q1
  have N1:Hid (α 22=.pointer (some ⟨g,0,none⟩)):=ι q2
  have q4:CaJ (sdC 17 19 22 24 δ δ δ vd er [.string su,.string sp,.string so,.int .i64 se,.slice B3 i3 j3,.slice B4 i4 j4,.int .i64 gv'] [.int .i64 er]) w1 (λn=>n==24||L n) α (xU g 0 [.string su,.string sp,.string so,.int .i64 se,.slice B3 i3 j3,.slice B4 i4 j4,.int .i64 gv'] w9):=q3
  simp only[xU,Nat.reduceAdd] at q4;have HJ:=ι q4;have hx2:w9.heap[g]?=some (kR):=hx;have hbb:=hw9.o.b
  obtain⟨o0,y0,f0,o1,y1,f1,o2,y2,f2,o3,y3,f3,o4,y4,f4,o5,y5,f5,o6,y6,f6,HB⟩:=cpl7 hx2 hbb ω (.string su) (.string sp) (.string so) (.int .i64 se) (.slice B3 i3 j3) (.slice B4 i4 j4) (.int .i64 gv') _ rfl
  rw[show α (0+1+1+1+1+1+1+1+1+1+1+1+1+1+1+1+1+1+1+1)=_ from Q.o,show α (0+1+1+1+1+1+1+1+1+1+1+1+1+1+1+1+1+1+1+1+1+1+1)=_ from N1.o];clear hx hx2 hbb q1 q2 q3 q4 hw9;repeat go_step
  rw[<-show α (0+1+1+1+1+1+1+1+1+1+1+1+1+1+1+1+1+1+1+1)=_ from Q.o,<-show α (0+1+1+1+1+1+1+1+1+1+1+1+1+1+1+1+1+1+1+1+1+1+1)=_ from N1.o];refine RG.xC ?_;exact HJ
 ·intro α;rfl
 apply RG.jK (v:=undef)
 ·rfl
 ·rfl
 ·intro α L w9 h0 hcl xK hw9
  have fc:L 17=true:=by
    have:=xK.yes 29 (i:=25) (j:=17) σ κ;simpa using this
  have fv:L 20=true:=by
    have:=xK.yes 29 (i:=25) (j:=20) σ κ;simpa using this
  have fp:L 23=true:=by
    have:=xK.yes 29 (i:=25) (j:=23) σ κ;simpa using this
  obtain⟨⟨A5,m5,k5,A6,m6,k6⟩,g,q1,q2,hx,hg,q3⟩:=CaJ.set hw9.o HOK.o (j:=1) (show 1<2 by decide) rfl h0 fc fv fp;have Q:Hid (α 20=.agg #[.slice A5 m5 k5,.slice A6 m6 k6]):=ι q1;have N1:Hid (α 23=.pointer (some ⟨g,0,none⟩)):=ι q2
  have q4:CaJ (sdC 17 19 22 24 δ δ δ vd er [.string su,.string sp,.string so,.int .i64 se,.slice B3 i3 j3,.slice B4 i4 j4,.int .i64 gv'] [.int .i64 er]) w1 (λn=>n==25||L n) α (xU g 0 [.slice A5 m5 k5,.slice A6 m6 k6] w9):=q3;simp only[xU,Nat.reduceAdd] at q4;have HJ:=ι q4
  have hx2:w9.heap[g]?=some (kG):=hx;have hbb:=hw9.o.b;obtain⟨o0,y0,f0,o1,y1,f1,HB⟩:=xIm hx2 hbb ω (.slice A5 m5 k5) (.slice A6 m6 k6) _ rfl;rw[show α (0+1+1+1+1+1+1+1+1+1+1+1+1+1+1+1+1+1+1+1+1)=_ from Q.o,show α (0+1+1+1+1+1+1+1+1+1+1+1+1+1+1+1+1+1+1+1+1+1+1+1)=_ from N1.o]
  clear hx hx2 hbb q1 q2 q3 q4 hw9;repeat go_step
  rw[<-show α (0+1+1+1+1+1+1+1+1+1+1+1+1+1+1+1+1+1+1+1+1)=_ from Q.o,<-show α (0+1+1+1+1+1+1+1+1+1+1+1+1+1+1+1+1+1+1+1+1+1+1+1)=_ from N1.o];refine RG.xC ?_;exact HJ
 ·intro α;rfl
 refine RG.vS ?_;refine RG.qV (λα w2 hw2=>?_);obtain⟨⟨A5,m5,k5,A6,m6,k6⟩,q1,q2,q3,q4⟩:=CaJ.done hw2.o;obtain⟨q50,g0,q60,q70,q80⟩:=q4 0 (show 0<2 by decide);obtain⟨q51,g1,q61,q71,q81⟩:=q4 1 (show 1<2 by decide)
 have H2:=ι (And.intro hw2.o.b (And.intro q2 (And.intro q70 (And.intro q80 (And.intro q71 (And.intro q81 (xD H1.o.2 hw2.o.b (xH H1.o.2))))))));simp only[Nat.zero_add,Nat.reduceAdd]
 rw[show α 17=.tuple #[.agg #[.string su,.string sp,.string so,.int .i64 se,.slice B3 i3 j3,.slice B4 i4 j4,.int .i64 gv'],.agg #[.slice A5 m5 k5,.slice A6 m6 k6],.int .i64 er] from q1,show α 18=.tuple #[.agg #[.string su,.string sp,.string so,.int .i64 se,.slice B3 i3 j3,.slice B4 i4 j4,.int .i64 gv'],.agg #[.slice A5 m5 k5,.slice A6 m6 k6],.int .i64 er] from q3,show α 19=.agg #[.string su,.string sp,.string so,.int .i64 se,.slice B3 i3 j3,.slice B4 i4 j4,.int .i64 gv'] from q50,show α 20=.agg #[.slice A5 m5 k5,.slice A6 m6 k6] from q51,show α 22=.pointer (some ⟨g0,0,none⟩) from q60,show α 23=.pointer (some ⟨g1,0,none⟩) from q61]
 clear q1 q2 q3 q4 q50 q60 q70 q80 q51 q61 q71 q81 hw2;clear HVC HF HOK;have HB2:Hid (Below b W w2):=ι ((H1.o.1.mono (Nat.le_of_lt HBL.o)).trans (H2.o.1.mono (Nat.le_of_lt (Nat.lt_of_lt_of_le HBL.o H1.o.1.size))))
 by_cases he:er=0
 case neg=>
  go_wp2;go_ret;exact .inr (.inl ⟨rfl,by first|exact he|trivial,HB2.o⟩)
 subst he;obtain⟨rfl,rfl,rfl,rfl,rfl,rfl,rfl,rfl,rfl,rfl,rfl⟩:=HEQ.o (by first|rfl|trivial);have HBG:=ι (HBGI.o (by first|rfl|trivial))
 have H7:Hid (KyC W b vd d0 d1 (.slice A5 m5 k5) (.slice A6 m6 k6) [.string u,.string op,.string oo,.int .i64 oe,.slice A3 n3 k3,.slice A4 n4 k4,.int .i64 gv] [.string u,.string fp,.string op,.int .i64 te,.slice A3 n3 k3,.slice A4 n4 k4,.int .i64 gv] [s7,s8,s9,n0,n1,.string xI,.string xE,.string fp,.int .i64 r,sl,.bool false,.pointer none,.slice none 0 0] g0 g1 false false w2):=ι ⟨HB2.o,H2.o.2.1 (by first|rfl|trivial),H2.o.2.2.2.2.2.2,H2.o.2.2.2.1,H2.o.2.2.2.2.2.1⟩
 clear H2 HB2 H1 HEQ HBGI;go_upto_region 7 with fail
 refine RG.yT [6,10] (λL w9=>Hid (KyC W b vd d0 d1 (.slice A5 m5 k5) (.slice A6 m6 k6) [.string u,.string op,.string oo,.int .i64 oe,.slice A3 n3 k3,.slice A4 n4 k4,.int .i64 gv] [.string u,.string fp,.string op,.int .i64 te,.slice A3 n3 k3,.slice A4 n4 k4,.int .i64 gv] [s7,s8,s9,n0,n1,.string xI,.string xE,.string fp,.int .i64 r,sl,.bool false,.pointer none,.slice none 0 0] g0 g1 (L 6) (L 10) w9)) (λL L' W hl h=>by rw[<-hl 6 σ,<-hl 10 σ];exact h) κ κ κ (ι ⟨H7.o.bl.drew,H7.o.rd.below (Below.refl _ _).drew ν,H7.o.c,H7.o.s,H7.o.k⟩) ?_
 iterate 2 refine RG.lS ?_
 refine RG.lF (λL w9 hw9=>zG hw9.o.k) ?_;refine RG.lF (λL w9 hw9=>jV hw9.o.s) ?_;iterate 2 refine RG.lS ?_
 apply RG.yA
 ·rfl
 ·intro L w9 h0 _ hw9;have h9:=hw9.o;rw[h0] at h9;have hb:=h9.c;rw[if_neg (c:=false=true) σ] at hb;have o0:=xA hb 0;have y0:=xB hb 0;have o1:=xA hb 1;have y1:=xB hb 1;simp only[gA,List.cons_append,List.nil_append,gB,gC] at o0 o1
  have hn:=h9.xKk HBG.o rfl (by exact Nat.le_of_ble_eq_true rfl);simp only[xU,Nat.reduceAdd] at hn;have HN:=ι hn;clear hb h9 hn hw9;repeat go_step
  refine RG.xC ?_;show Hid (KyC W b _ _ _ _ _ _ _ _ _ _ true (L 10) _);with_reducible exact HN
 ·rfl
 iterate 3 refine RG.lS ?_
 apply RG.yA
 ·rfl
 ·intro L w9 h0 _ hw9;have h9:=hw9.o;rw[h0] at h9
  have hb:w9.heap[b]?=some (.cells (if L 6=true then[.slice A5 m5 k5,.slice A6 m6 k6,.string u,.string op,.string oo,.int .i64 oe,.slice A3 n3 k3,.slice A4 n4 k4,.int .i64 gv]++[s7,s8,s9,n0,n1,.string xI,.string xE,.string fp,.int .i64 r,sl,.bool false,.pointer none,.slice none 0 0] else[d0,d1,.string u,.string op,.string oo,.int .i64 oe,.slice A3 n3 k3,.slice A4 n4 k4,.int .i64 gv]++[s7,s8,s9,n0,n1,.string xI,.string xE,.string fp,.int .i64 r,sl,.bool false,.pointer none,.slice none 0 0]).toArray 129 (0,0)):=h9.c.trans (by split<;>rfl)
  have o2:w9.cell? ⟨b,2,none⟩=some (.string u):=(xA hb 2).trans (by split<;>rfl);have y2:=xB hb 2;have o3:w9.cell? ⟨b,3,none⟩=some (.string op):=(xA hb 3).trans (by split<;>rfl);have y3:=xB hb 3;have o4:w9.cell? ⟨b,4,none⟩=some (.string oo):=(xA hb 4).trans (by split<;>rfl)
  have y4:=xB hb 4;have o5:w9.cell? ⟨b,5,none⟩=some (.int .i64 oe):=(xA hb 5).trans (by split<;>rfl);have y5:=xB hb 5;have o6:w9.cell? ⟨b,6,none⟩=some (.slice A3 n3 k3):=(xA hb 6).trans (by split<;>rfl);have y6:=xB hb 6
  have o7:w9.cell? ⟨b,7,none⟩=some (.slice A4 n4 k4):=(xA hb 7).trans (by split<;>rfl);have y7:=xB hb 7;have o8:w9.cell? ⟨b,8,none⟩=some (.int .i64 gv):=(xA hb 8).trans (by split<;>rfl);have y8:=xB hb 8;have hn:=h9.put2 HBG.o rfl (by exact Nat.le_of_ble_eq_true rfl)
  simp only[xU,Nat.reduceAdd] at hn;have HN:=ι hn;clear hb h9 hn hw9;repeat go_step
  refine RG.xC ?_;show Hid (KyC W b _ _ _ _ _ _ _ _ _ _ (L 6) true _);with_reducible exact HN
 ·rfl
 refine RG.xZ (λw3 hw3=>?_)
 have HC3:=ι (show KyC W b vd d0 d1 (.slice A5 m5 k5) (.slice A6 m6 k6) [.string u,.string op,.string oo,.int .i64 oe,.slice A3 n3 k3,.slice A4 n4 k4,.int .i64 gv] [.string u,.string fp,.string op,.int .i64 te,.slice A3 n3 k3,.slice A4 n4 k4,.int .i64 gv] [s7,s8,s9,n0,n1,.string xI,.string xE,.string fp,.int .i64 r,sl,.bool false,.pointer none,.slice none 0 0] g0 g1 true true w3 from hw3.o)
 clear hw3 H7;have hcc:=HC3.o.c;simp only[if_true,List.cons_append,List.nil_append] at hcc;have HCC:=ι hcc;clear hcc;go_wp2;go_ret
 exact .inl ⟨_,_,_,_,_,_,_,_,_,_,_,_,_,_,[],rfl,xGk HCC.o rfl rfl rfl,⟨A5,m5,k5,A6,m6,k6,rfl,rfl,rfl,HC3.o.rd,HBG.o⟩,by
  intro v hv;simp only[List.mem_cons,List.not_mem_nil,or_false] at hv;rcases hv with rfl|rfl|rfl|rfl|rfl|rfl|rfl|rfl|rfl|rfl|rfl|rfl<;>first|rfl|exact xHm.o _ σ,σ,HC3.o.bl⟩
end Go.Proofs.IM
namespace Mailsack
open Go.Proofs.SH
theorem xU6 {d:Dk} {u xL old once:ByteArray} {ep:Int} (h:xIy d u xL old once ep=0):Go.Proofs.IM.xTq (xR6 d u xL old once ep):=by
 unfold xIy at h;unfold xR6;split at h
 ·cases h
 ·split at h
  ·exact xVa h
  ·exact xU9 h
def xOg (b:Bool):List UInt8:=if b=true then[42,32,68,79,78,69,13,10] else[]
end Mailsack
namespace Go.Proofs.IM
open Go.RowKit MM BU Mailsack SV RK DS IX CJ Go.Proofs.VA
theorem xGw.flat {D:Dk} {er:Int} {u p o:ByteArray} {e:Int} {A3 A4:Option Addr} {n3 k3 n4 k4:Nat} {g:Int} {last:Bool} {P:World->(Ending->World->Prop)->Prop} (hm:∀w Q Q',P w Q->(∀e w',Q e w'->Q' e w')->P w Q') (h:∀w,P w (xGw (jZ u p o e (.slice A3 n3 k3) (.slice A4 n4 k4) g) D last er w)):
  ∃(su sp so:ByteArray) (se:Int) (B3 B4:Option Addr) (i3 j3 i4 j4:Nat) (gv:Int) (lb:Bool),(er=0->u=su/\p=sp/\o=so/\e=se/\A3=B3/\n3=i3/\k3=j3/\A4=B4/\n4=i4/\k4=j4/\g=gv/\last=lb)/\
   ∀w,P w (λe w'=>∃m5 m6 A5 k5 A6 k6,e=.returned (.tuple #[jZ su sp so se (.slice B3 i3 j3) (.slice B4 i4 j4) gv,.agg #[.slice A5 m5 k5,.slice A6 m6 k6],.bool lb,.int .i64 er])/\(er=0->RdD w' w'.heap.size (.slice A5 m5 k5) (.slice A6 m6 k6) D)/\ψ w w'):=by
 by_cases he:er=0
 ·refine⟨u,p,o,e,A3,A4,n3,k3,n4,k4,g,last,λ_=>⟨rfl,rfl,rfl,rfl,rfl,rfl,rfl,rfl,rfl,rfl,rfl,rfl⟩,λw=>hm w _ _ (h w) ?_⟩;rintro e w' ⟨hb,⟨hn,_⟩|⟨_,va,vb,rfl,hrd⟩⟩
  ·exact absurd he hn
  ·obtain⟨A5,k5,A6,k6,rfl,rfl⟩:=xX hrd;exact⟨_,_,A5,k5,A6,k6,by rw[he],λ_=>hrd,hb⟩
 ·refine⟨⟨#[]⟩,⟨#[]⟩,⟨#[]⟩,0,none,none,0,0,0,0,0,false,λh=>absurd h he,λw=>hm w _ _ (h w) ?_⟩;rintro e w' ⟨hb,⟨_,rfl⟩|⟨h0,_⟩⟩
  ·exact⟨_,_,none,0,none,0,rfl,λh=>absurd h he,hb⟩
  ·exact absurd h0 he
theorem xYx (b:Nat) (d0 d1 s7 s8 s9 n0 n2 n3' n4' n5:Value) (d:Dk) (u op oo once:ByteArray) (oe gv:Int) (A3 A4 A9:Option Addr) (n3 k3 n4 k4 c9:Nat) (W:World) (hC:Cmd b #[d0,d1,.string u,.string op,.string oo,.int .i64 oe,.slice A3 n3 k3,.slice A4 n4 k4,.int .i64 gv,s7,s8,s9,n0,.string once,n2,n3',n4',n5,.slice A9 0 c9,.bool false,.pointer none,.slice none 0 0] [] W)
  (hone:∀v∈[s7,s8,s9],v.oneCell'=true) (hD:RdD W b d0 d1 d) (hu:u.size<=1000) (hc:d.cache.length<=10000) (hT:VaT W):
  Calls prog 130 #[xQj b] W (xGy (KyK (xR6 d u op oo once oe) (xIy d u op oo once oe) [.string u,.string op,.string (xU7 d u oo oe),.int .i64 oe,.slice A3 n3 k3,.slice A4 n4 k4,.int .i64 gv,s7,s8,s9] (xOg (xOz d u oo oe))) (xIy d u op oo once oe≠0) False b n0 (.string once) n2 n3' n4' n5 (.slice A9 0 c9) W):=by
 have hbl:=xH hC.blk;have HBL:=ι hbl;have hvr:=λw (hb:ψ W w)=>xKz d0 d1 d u op oo once oe gv A3 A4 n3 k3 n4 k4 w ((hD.below hb (Nat.le_of_lt hbl)).more (Nat.le_trans (Nat.le_of_lt hbl) hb.size)) hu hc (hT.below hb)
 have xY5:=λh=>xU6 (d:=d) (u:=u) (xL:=op) (old:=oo) (once:=once) (ep:=oe) h;generalize xIy d u op oo once oe=er at hvr xY5⊢;generalize xR6 d u op oo once oe=vd at hvr xY5⊢;generalize xU7 d u oo oe=vo at hvr⊢;generalize xOz d u oo oe=vl at hvr⊢
 obtain⟨su,sp,so,se,B3,B4,i3,j3,i4,j4,gv',lb,heq,hfl⟩:=xGw.flat (P:=λw Q=>ψ W w->Calls prog 21 #[.agg #[d0,d1],jZ u op oo oe (.slice A3 n3 k3) (.slice A4 n4 k4) gv,.string once] w Q) (λw Q Q' h1 h2 hb=>(h1 hb).mono h2) hvr;have HVC:=ι hfl;have HEQ:=ι heq
 have H1:Hid (ψ W W/\W.heap[b]?=_):=ι ⟨Below.refl _ _,hC.blk⟩;have xHm:=ι hone
 have HOK:=ι (yB9 (c:=14) (E:=16) (P:=20) (S:=22) (h1:=by decide) (h2:=by decide) (h3:=by decide) (D:=vd) (er:=er) (ses:=[.string su,.string sp,.string so,.int .i64 se,.slice B3 i3 j3,.slice B4 i4 j4,.int .i64 gv']) (tl:=[.bool lb,.int .i64 er]) rfl xY5);have HBGI:=ι xY5
 have k18:W.cell? ⟨b,18,none⟩=some (.slice A9 0 c9):=xA hC.blk 18;obtain⟨w1,hw1⟩:∃w1,w1=W:=⟨W,rfl⟩;have HW1:=ι hw1;rw[<-hw1] at H1 HVC k18 HBL⊢;clear hD hu hc hT hC hone hvr hfl heq xY5 hbl hw1;go_enter func130,ntmps130;go_upto_region 3 with fail
 clear k18
 refine RG.uA [22,23] [14,15,16,17,20,21] (λL α W9=>Hid (CaJ (sdC 14 16 20 22 δ δ δ vd er [.string su,.string sp,.string so,.int .i64 se,.slice B3 i3 j3,.slice B4 i4 j4,.int .i64 gv'] [.bool lb,.int .i64 er]) w1 L α W9)) (λL L' α α' W hl ha h=>ι (h.o.congr (λi hi=>hl i (by have hi2:i=14∨i=14+1∨(16<=i/\i<16+2)∨(20<=i/\i<20+2)∨(22<=i/\i<22+2):=hi;simp;omega)) (λi hi=>ha i (by have hi2:i=14∨i=14+1∨(16<=i/\i<16+2)∨(20<=i/\i<20+2):=hi;simp;omega)))) κ κ κ (ι (CaJ.start _ _)) ?_
 iterate 3 refine RG.vS ?_
 refine RG.vF (λα L w9 h0 hcl xK hw9=>have hb:=xD H1.o.2 hw9.o.b (xH H1.o.2);zG hb) ?_;iterate 4 refine RG.vS ?_
 apply RG.zC
 ·rfl
 ·rfl
 ·intro α L w9 h0 hcl xK hw9;have hb:=xD H1.o.2 hw9.o.b (xH H1.o.2);have c2:=xA hb 2;have c3:=xA hb 3;have c4:=xA hb 4;have c5:=xA hb 5;have c6:=xA hb 6;have c7:=xA hb 7;have c8:=xA hb 8;simp only[gA,gB,gC] at c2 c3 c4 c5 c6 c7 c8;clear hb;repeat go_step
  exact RG.xC hw9
 ·intro α;rfl
 iterate 4 refine RG.vS ?_
 apply RG.zC
 ·rfl
 ·rfl
 ·intro α L w9 h0 hcl xK hw9;have hb:=xD H1.o.2 hw9.o.b (xH H1.o.2);have c13:=xA hb 13;simp only[gA,gB,gC] at c13;clear hb;repeat go_step
  exact RG.xC hw9
 ·intro α;rfl
 apply RG.xB1
 ·rfl
 ·intro α L w9 h0 hcl xK hw9;have em:L 15=false:=hcl.not 28 (i:=15) h0 κ
  have ee:∀j,j<2->L (16+j)=false:=λj hj=>by
    match j,hj with
    |0,_=>exact hcl.not 28 (i:=16) h0 κ
    |1,_=>exact hcl.not 28 (i:=17) h0 κ
  have es:∀j,j<2->L (22+j)=false:=λj hj=>by
    match j,hj with
    |0,_=>exact hcl.not 28 (i:=22) h0 κ
    |1,_=>exact hcl.not 28 (i:=23) h0 κ
  repeat go_step
  refine(HVC.o w9 (H1.o.1.trans (hw9.o.b.mono H1.o.1.size))).mono ?_;rintro e w10 ⟨m5,m6,A5,k5,A6,k6,rfl,hrd,hb⟩;have HJ:=ι (CaJ.call hw9.o em ee es hb (R:=⟨A5,m5,k5,A6,m6,k6⟩) (λh0=>hrd h0));clear hrd hb hw9 em ee es;simp only[];repeat go_step
  exact⟨rfl,_,rfl,HJ⟩
 ·intro b α;rfl
 apply RG.xB1
 ·rfl
 ·intro α L w9 h0 hcl xK hw9
  have fc:L 14=true:=by
    have:=xK.yes 28 (i:=15) (j:=14) σ κ;simpa using this
  obtain⟨⟨A5,m5,k5,A6,m6,k6⟩,q1,q2⟩:=CaJ.move hw9.o fc;have Q:Hid (α 14=.tuple #[.agg #[.string su,.string sp,.string so,.int .i64 se,.slice B3 i3 j3,.slice B4 i4 j4,.int .i64 gv'],.agg #[.slice A5 m5 k5,.slice A6 m6 k6],.bool lb,.int .i64 er]):=ι q1
  have HJ:Hid (CaJ (sdC 14 16 20 22 δ δ δ vd er [.string su,.string sp,.string so,.int .i64 se,.slice B3 i3 j3,.slice B4 i4 j4,.int .i64 gv'] [.bool lb,.int .i64 er]) w1 (λn=>n==14+1||L n) (RG.wO α (14+1) (.tuple #[.agg #[.string su,.string sp,.string so,.int .i64 se,.slice B3 i3 j3,.slice B4 i4 j4,.int .i64 gv'],.agg #[.slice A5 m5 k5,.slice A6 m6 k6],.bool lb,.int .i64 er])) w9):=ι q2
  rw[show α (0+1+1+1+1+1+1+1+1+1+1+1+1+1+1)=_ from Q.o];clear q1 q2 hw9;repeat go_step
  exact⟨rfl,_,rfl,HJ⟩
 ·intro b α;rfl
 apply RG.vK
 ·rfl
 ·intro α L w9 h0 hcl xK hw9
  have fc:L 14=true:=by
    have:=xK.yes 28 (i:=16) (j:=14) σ κ;simpa using this
  have fm:L 15=true:=by
    have:=xK.yes 28 (i:=16) (j:=15) σ κ;simpa using this
  obtain⟨⟨A5,m5,k5,A6,m6,k6⟩,q1,q2⟩:=CaJ.take hw9.o fc fm;have Q:Hid (α 15=.tuple #[.agg #[.string su,.string sp,.string so,.int .i64 se,.slice B3 i3 j3,.slice B4 i4 j4,.int .i64 gv'],.agg #[.slice A5 m5 k5,.slice A6 m6 k6],.bool lb,.int .i64 er]):=ι q1
  refine⟨.agg #[.string su,.string sp,.string so,.int .i64 se,.slice B3 i3 j3,.slice B4 i4 j4,.int .i64 gv'],λbv hbv=>?_⟩
  have HJ:Hid (CaJ (sdC 14 16 20 22 δ δ δ vd er [.string su,.string sp,.string so,.int .i64 se,.slice B3 i3 j3,.slice B4 i4 j4,.int .i64 gv'] [.bool lb,.int .i64 er]) w1 (λn=>n==16||L n) (RG.wO α 16 (.agg #[.string su,.string sp,.string so,.int .i64 se,.slice B3 i3 j3,.slice B4 i4 j4,.int .i64 gv'])) w9):=ι (q2 16 0 (show 0<2 by decide) rfl)
  rw[<-hbv] at HJ;rw[show α (0+1+1+1+1+1+1+1+1+1+1+1+1+1+1+1)=_ from Q.o];clear q1 q2 hw9;repeat go_step
  rw[<-show α (0+1+1+1+1+1+1+1+1+1+1+1+1+1+1+1)=_ from Q.o,<-hbv];refine RG.xC ?_;exact HJ
 ·intro b α;rfl
 apply RG.vK
 ·rfl
 ·intro α L w9 h0 hcl xK hw9
  have fc:L 14=true:=by
    have:=xK.yes 28 (i:=17) (j:=14) σ κ;simpa using this
  have fm:L 15=true:=by
    have:=xK.yes 28 (i:=17) (j:=15) σ κ;simpa using this
  obtain⟨⟨A5,m5,k5,A6,m6,k6⟩,q1,q2⟩:=CaJ.take hw9.o fc fm;have Q:Hid (α 15=.tuple #[.agg #[.string su,.string sp,.string so,.int .i64 se,.slice B3 i3 j3,.slice B4 i4 j4,.int .i64 gv'],.agg #[.slice A5 m5 k5,.slice A6 m6 k6],.bool lb,.int .i64 er]):=ι q1
  refine⟨.agg #[.slice A5 m5 k5,.slice A6 m6 k6],λbv hbv=>?_⟩
  have HJ:Hid (CaJ (sdC 14 16 20 22 δ δ δ vd er [.string su,.string sp,.string so,.int .i64 se,.slice B3 i3 j3,.slice B4 i4 j4,.int .i64 gv'] [.bool lb,.int .i64 er]) w1 (λn=>n==17||L n) (RG.wO α 17 (.agg #[.slice A5 m5 k5,.slice A6 m6 k6])) w9):=ι (q2 17 1 (show 1<2 by decide) rfl)
  rw[<-hbv] at HJ;rw[show α (0+1+1+1+1+1+1+1+1+1+1+1+1+1+1+1)=_ from Q.o];clear q1 q2 hw9;repeat go_step
  rw[<-show α (0+1+1+1+1+1+1+1+1+1+1+1+1+1+1+1)=_ from Q.o,<-hbv];refine RG.xC ?_;exact HJ
 ·intro b α;rfl
 apply RG.zC (v:=.bool lb)
 ·rfl
 ·rfl
 ·intro α L w9 h0 hcl xK hw9
  have fc:L 14=true:=by
    have:=xK.yes 28 (i:=18) (j:=14) σ κ;simpa using this
  have fm:L 15=true:=by
    have:=xK.yes 28 (i:=18) (j:=15) σ κ;simpa using this
  obtain⟨⟨A5,m5,k5,A6,m6,k6⟩,q1,q2⟩:=CaJ.take hw9.o fc fm;have Q:Hid (α 15=.tuple #[.agg #[.string su,.string sp,.string so,.int .i64 se,.slice B3 i3 j3,.slice B4 i4 j4,.int .i64 gv'],.agg #[.slice A5 m5 k5,.slice A6 m6 k6],.bool lb,.int .i64 er]):=ι q1
  rw[show α (0+1+1+1+1+1+1+1+1+1+1+1+1+1+1+1)=_ from Q.o];clear q1 q2;repeat go_step
  rw[<-show α (0+1+1+1+1+1+1+1+1+1+1+1+1+1+1+1)=_ from Q.o];exact RG.xC hw9
 ·intro α;rfl
 apply RG.zC (v:=.int .i64 er)
 ·rfl
 ·rfl
 ·intro α L w9 h0 hcl xK hw9
  have fc:L 14=true:=by
    have:=xK.yes 28 (i:=19) (j:=14) σ κ;simpa using this
  have fm:L 15=true:=by
    have:=xK.yes 28 (i:=19) (j:=15) σ κ;simpa using this
  obtain⟨⟨A5,m5,k5,A6,m6,k6⟩,q1,q2⟩:=CaJ.take hw9.o fc fm;have Q:Hid (α 15=.tuple #[.agg #[.string su,.string sp,.string so,.int .i64 se,.slice B3 i3 j3,.slice B4 i4 j4,.int .i64 gv'],.agg #[.slice A5 m5 k5,.slice A6 m6 k6],.bool lb,.int .i64 er]):=ι q1
  rw[show α (0+1+1+1+1+1+1+1+1+1+1+1+1+1+1+1)=_ from Q.o];clear q1 q2;repeat go_step
  rw[<-show α (0+1+1+1+1+1+1+1+1+1+1+1+1+1+1+1)=_ from Q.o];exact RG.xC hw9
 ·intro α;rfl
 apply RG.vK
 ·rfl
 ·intro α L w9 h0 hcl xK hw9;have e:L 22=false:=hcl.not 28 (i:=22) h0 κ;refine⟨.pointer (some ⟨w9.heap.size,0,none⟩),λbv hbv=>?_⟩
  have HJ:Hid (CaJ (sdC 14 16 20 22 δ δ δ vd er [.string su,.string sp,.string so,.int .i64 se,.slice B3 i3 j3,.slice B4 i4 j4,.int .i64 gv'] [.bool lb,.int .i64 er]) w1 (λn=>n==20||L n) (RG.wO α 20 (.pointer (some ⟨w9.heap.size,0,none⟩))) (w9.alloc (kR))):=ι (CaJ.new hw9.o HOK.o (j:=0) (show 0<2 by decide) rfl e)
  rw[<-hbv] at HJ;clear hw9;repeat go_step
  rw[<-hbv];refine RG.xC ?_;exact HJ
 ·intro b α;rfl
 apply RG.vK
 ·rfl
 ·intro α L w9 h0 hcl xK hw9;have e:L 23=false:=hcl.not 28 (i:=23) h0 κ;refine⟨.pointer (some ⟨w9.heap.size,0,none⟩),λbv hbv=>?_⟩
  have HJ:Hid (CaJ (sdC 14 16 20 22 δ δ δ vd er [.string su,.string sp,.string so,.int .i64 se,.slice B3 i3 j3,.slice B4 i4 j4,.int .i64 gv'] [.bool lb,.int .i64 er]) w1 (λn=>n==21||L n) (RG.wO α 21 (.pointer (some ⟨w9.heap.size,0,none⟩))) (w9.alloc (kG))):=ι (CaJ.new hw9.o HOK.o (j:=1) (show 1<2 by decide) rfl e)
  rw[<-hbv] at HJ;clear hw9;repeat go_step
  rw[<-hbv];refine RG.xC ?_;exact HJ
 ·intro b α;rfl
 apply RG.jK (v:=undef)
 ·rfl
 ·rfl
 ·intro α L w9 h0 hcl xK hw9
  have fc:L 14=true:=by
    have:=xK.yes 28 (i:=22) (j:=14) σ κ;simpa using this
  have fv:L 16=true:=by
    have:=xK.yes 28 (i:=22) (j:=16) σ κ;simpa using this
  have fp:L 20=true:=by
    have:=xK.yes 28 (i:=22) (j:=20) σ κ;simpa using this
  obtain⟨⟨A5,m5,k5,A6,m6,k6⟩,g,q1,q2,hx,hg,q3⟩:=CaJ.set hw9.o HOK.o (j:=0) (show 0<2 by decide) rfl h0 fc fv fp;have Q:Hid (α 16=.agg #[.string su,.string sp,.string so,.int .i64 se,.slice B3 i3 j3,.slice B4 i4 j4,.int .i64 gv']):=ι q1
  have N1:Hid (α 20=.pointer (some ⟨g,0,none⟩)):=ι q2
  have q4:CaJ (sdC 14 16 20 22 δ δ δ vd er [.string su,.string sp,.string so,.int .i64 se,.slice B3 i3 j3,.slice B4 i4 j4,.int .i64 gv'] [.bool lb,.int .i64 er]) w1 (λn=>n==22||L n) α (xU g 0 [.string su,.string sp,.string so,.int .i64 se,.slice B3 i3 j3,.slice B4 i4 j4,.int .i64 gv'] w9):=q3
  simp only[xU,Nat.reduceAdd] at q4;have HJ:=ι q4;have hx2:w9.heap[g]?=some (kR):=hx;have hbb:=hw9.o.b
  obtain⟨o0,y0,f0,o1,y1,f1,o2,y2,f2,o3,y3,f3,o4,y4,f4,o5,y5,f5,o6,y6,f6,HB⟩:=cpl7 hx2 hbb ω (.string su) (.string sp) (.string so) (.int .i64 se) (.slice B3 i3 j3) (.slice B4 i4 j4) (.int .i64 gv') _ rfl
  rw[show α (0+1+1+1+1+1+1+1+1+1+1+1+1+1+1+1+1)=_ from Q.o,show α (0+1+1+1+1+1+1+1+1+1+1+1+1+1+1+1+1+1+1+1+1)=_ from N1.o];clear hx hx2 hbb q1 q2 q3 q4 hw9;repeat go_step
  rw[<-show α (0+1+1+1+1+1+1+1+1+1+1+1+1+1+1+1+1)=_ from Q.o,<-show α (0+1+1+1+1+1+1+1+1+1+1+1+1+1+1+1+1+1+1+1+1)=_ from N1.o];refine RG.xC ?_;exact HJ
 ·intro α;rfl
 apply RG.jK (v:=undef)
 ·rfl
 ·rfl
 ·intro α L w9 h0 hcl xK hw9
  have fc:L 14=true:=by
    have:=xK.yes 28 (i:=23) (j:=14) σ κ;simpa using this
  have fv:L 17=true:=by
    have:=xK.yes 28 (i:=23) (j:=17) σ κ;simpa using this
  have fp:L 21=true:=by
    have:=xK.yes 28 (i:=23) (j:=21) σ κ;simpa using this
  obtain⟨⟨A5,m5,k5,A6,m6,k6⟩,g,q1,q2,hx,hg,q3⟩:=CaJ.set hw9.o HOK.o (j:=1) (show 1<2 by decide) rfl h0 fc fv fp;have Q:Hid (α 17=.agg #[.slice A5 m5 k5,.slice A6 m6 k6]):=ι q1;have N1:Hid (α 21=.pointer (some ⟨g,0,none⟩)):=ι q2
  have q4:CaJ (sdC 14 16 20 22 δ δ δ vd er [.string su,.string sp,.string so,.int .i64 se,.slice B3 i3 j3,.slice B4 i4 j4,.int .i64 gv'] [.bool lb,.int .i64 er]) w1 (λn=>n==23||L n) α (xU g 0 [.slice A5 m5 k5,.slice A6 m6 k6] w9):=q3;simp only[xU,Nat.reduceAdd] at q4
  have HJ:=ι q4;have hx2:w9.heap[g]?=some (kG):=hx;have hbb:=hw9.o.b;obtain⟨o0,y0,f0,o1,y1,f1,HB⟩:=xIm hx2 hbb ω (.slice A5 m5 k5) (.slice A6 m6 k6) _ rfl;rw[show α (0+1+1+1+1+1+1+1+1+1+1+1+1+1+1+1+1+1)=_ from Q.o,show α (0+1+1+1+1+1+1+1+1+1+1+1+1+1+1+1+1+1+1+1+1+1)=_ from N1.o]
  clear hx hx2 hbb q1 q2 q3 q4 hw9;repeat go_step
  rw[<-show α (0+1+1+1+1+1+1+1+1+1+1+1+1+1+1+1+1+1)=_ from Q.o,<-show α (0+1+1+1+1+1+1+1+1+1+1+1+1+1+1+1+1+1+1+1+1+1)=_ from N1.o];refine RG.xC ?_;exact HJ
 ·intro α;rfl
 iterate 2 refine RG.vS ?_
 refine RG.qV (λα w2 hw2=>?_);obtain⟨⟨A5,m5,k5,A6,m6,k6⟩,q1,q2,q3,q4⟩:=CaJ.done hw2.o;obtain⟨q50,g0,q60,q70,q80⟩:=q4 0 (show 0<2 by decide);obtain⟨q51,g1,q61,q71,q81⟩:=q4 1 (show 1<2 by decide)
 have H2:=ι (And.intro hw2.o.b (And.intro q2 (And.intro q70 (And.intro q80 (And.intro q71 (And.intro q81 (xD H1.o.2 hw2.o.b (xH H1.o.2))))))));simp only[Nat.zero_add,Nat.reduceAdd]
 rw[show α 14=.tuple #[.agg #[.string su,.string sp,.string so,.int .i64 se,.slice B3 i3 j3,.slice B4 i4 j4,.int .i64 gv'],.agg #[.slice A5 m5 k5,.slice A6 m6 k6],.bool lb,.int .i64 er] from q1,show α 15=.tuple #[.agg #[.string su,.string sp,.string so,.int .i64 se,.slice B3 i3 j3,.slice B4 i4 j4,.int .i64 gv'],.agg #[.slice A5 m5 k5,.slice A6 m6 k6],.bool lb,.int .i64 er] from q3,show α 16=.agg #[.string su,.string sp,.string so,.int .i64 se,.slice B3 i3 j3,.slice B4 i4 j4,.int .i64 gv'] from q50,show α 17=.agg #[.slice A5 m5 k5,.slice A6 m6 k6] from q51,show α 20=.pointer (some ⟨g0,0,none⟩) from q60,show α 21=.pointer (some ⟨g1,0,none⟩) from q61]
 clear q1 q2 q3 q4 q50 q60 q70 q80 q51 q61 q71 q81 hw2;clear HVC HOK;have HB2:Hid (Below b w1 w2):=ι (H2.o.1.mono (Nat.le_of_lt HBL.o))
 by_cases he:er=0
 case neg=>
  go_wp2;go_ret;exact .inr (.inl ⟨rfl,by first|exact he|trivial,HB2.o⟩)
 subst he;obtain⟨rfl,rfl,rfl,rfl,rfl,rfl,rfl,rfl,rfl,rfl,rfl,rfl⟩:=HEQ.o (by first|rfl|trivial);have HBG:=ι (HBGI.o (by first|rfl|trivial))
 have H7:Hid (KyC w1 b vd d0 d1 (.slice A5 m5 k5) (.slice A6 m6 k6) [.string u,.string op,.string oo,.int .i64 oe,.slice A3 n3 k3,.slice A4 n4 k4,.int .i64 gv] [.string u,.string op,.string vo,.int .i64 oe,.slice A3 n3 k3,.slice A4 n4 k4,.int .i64 gv] [s7,s8,s9,n0,.string once,n2,n3',n4',n5,.slice A9 0 c9,.bool false,.pointer none,.slice none 0 0] g0 g1 false false w2):=ι ⟨HB2.o,H2.o.2.1 (by first|rfl|trivial),H2.o.2.2.2.2.2.2,H2.o.2.2.2.1,H2.o.2.2.2.2.2.1⟩
 clear H2 HB2 H1 HEQ HBGI HW1;go_upto_region 6 with fail
 refine RG.yT [6,10] (λL w9=>Hid (KyC w1 b vd d0 d1 (.slice A5 m5 k5) (.slice A6 m6 k6) [.string u,.string op,.string oo,.int .i64 oe,.slice A3 n3 k3,.slice A4 n4 k4,.int .i64 gv] [.string u,.string op,.string vo,.int .i64 oe,.slice A3 n3 k3,.slice A4 n4 k4,.int .i64 gv] [s7,s8,s9,n0,.string once,n2,n3',n4',n5,.slice A9 0 c9,.bool false,.pointer none,.slice none 0 0] g0 g1 (L 6) (L 10) w9)) (λL L' W hl h=>by rw[<-hl 6 σ,<-hl 10 σ];exact h) κ κ κ (ι ⟨H7.o.bl.drew,H7.o.rd.below (Below.refl _ _).drew ν,H7.o.c,H7.o.s,H7.o.k⟩) ?_
 iterate 2 refine RG.lS ?_
 refine RG.lF (λL w9 hw9=>zG hw9.o.k) ?_;refine RG.lF (λL w9 hw9=>jV hw9.o.s) ?_;iterate 2 refine RG.lS ?_
 apply RG.yA
 ·rfl
 ·intro L w9 h0 _ hw9;have h9:=hw9.o;rw[h0] at h9;have hb:=h9.c;rw[if_neg (c:=false=true) σ] at hb;have o0:=xA hb 0;have y0:=xB hb 0;have o1:=xA hb 1;have y1:=xB hb 1;simp only[gA,List.cons_append,List.nil_append,gB,gC] at o0 o1
  have hn:=h9.xKk HBG.o rfl (by exact Nat.le_of_ble_eq_true rfl);simp only[xU,Nat.reduceAdd] at hn;have HN:=ι hn;clear hb h9 hn hw9;repeat go_step
  refine RG.xC ?_;show Hid (KyC w1 b _ _ _ _ _ _ _ _ _ _ true (L 10) _);with_reducible exact HN
 ·rfl
 iterate 3 refine RG.lS ?_
 apply RG.yA
 ·rfl
 ·intro L w9 h0 _ hw9;have h9:=hw9.o;rw[h0] at h9
  have hb:w9.heap[b]?=some (.cells (if L 6=true then[.slice A5 m5 k5,.slice A6 m6 k6,.string u,.string op,.string oo,.int .i64 oe,.slice A3 n3 k3,.slice A4 n4 k4,.int .i64 gv]++[s7,s8,s9,n0,.string once,n2,n3',n4',n5,.slice A9 0 c9,.bool false,.pointer none,.slice none 0 0] else[d0,d1,.string u,.string op,.string oo,.int .i64 oe,.slice A3 n3 k3,.slice A4 n4 k4,.int .i64 gv]++[s7,s8,s9,n0,.string once,n2,n3',n4',n5,.slice A9 0 c9,.bool false,.pointer none,.slice none 0 0]).toArray 129 (0,0)):=h9.c.trans (by split<;>rfl)
  have o2:w9.cell? ⟨b,2,none⟩=some (.string u):=(xA hb 2).trans (by split<;>rfl);have y2:=xB hb 2;have o3:w9.cell? ⟨b,3,none⟩=some (.string op):=(xA hb 3).trans (by split<;>rfl);have y3:=xB hb 3;have o4:w9.cell? ⟨b,4,none⟩=some (.string oo):=(xA hb 4).trans (by split<;>rfl)
  have y4:=xB hb 4;have o5:w9.cell? ⟨b,5,none⟩=some (.int .i64 oe):=(xA hb 5).trans (by split<;>rfl);have y5:=xB hb 5;have o6:w9.cell? ⟨b,6,none⟩=some (.slice A3 n3 k3):=(xA hb 6).trans (by split<;>rfl);have y6:=xB hb 6
  have o7:w9.cell? ⟨b,7,none⟩=some (.slice A4 n4 k4):=(xA hb 7).trans (by split<;>rfl);have y7:=xB hb 7;have o8:w9.cell? ⟨b,8,none⟩=some (.int .i64 gv):=(xA hb 8).trans (by split<;>rfl);have y8:=xB hb 8;have hn:=h9.put2 HBG.o rfl (by exact Nat.le_of_ble_eq_true rfl)
  simp only[xU,Nat.reduceAdd] at hn;have HN:=ι hn;clear hb h9 hn hw9;repeat go_step
  refine RG.xC ?_;show Hid (KyC w1 b _ _ _ _ _ _ _ _ _ _ (L 6) true _);with_reducible exact HN
 ·rfl
 refine RG.xZ (λw3 hw3=>?_)
 have HC3:=ι (show KyC w1 b vd d0 d1 (.slice A5 m5 k5) (.slice A6 m6 k6) [.string u,.string op,.string oo,.int .i64 oe,.slice A3 n3 k3,.slice A4 n4 k4,.int .i64 gv] [.string u,.string op,.string vo,.int .i64 oe,.slice A3 n3 k3,.slice A4 n4 k4,.int .i64 gv] [s7,s8,s9,n0,.string once,n2,n3',n4',n5,.slice A9 0 c9,.bool false,.pointer none,.slice none 0 0] g0 g1 true true w3 from hw3.o)
 clear hw3 H7;have hcc:=HC3.o.c;simp only[if_true,List.cons_append,List.nil_append] at hcc;have HCC:=ι hcc;clear hcc;cases vl with
 |false=>
  go_wp2;go_ret
  exact .inl ⟨_,_,_,_,_,_,_,_,_,_,_,_,_,_,[],rfl,xGk HCC.o rfl rfl rfl,⟨A5,m5,k5,A6,m6,k6,rfl,rfl,rfl,HC3.o.rd,HBG.o⟩,by
   intro v hv;simp only[List.mem_cons,List.not_mem_nil,or_false] at hv;rcases hv with rfl|rfl|rfl|rfl|rfl|rfl|rfl|rfl|rfl|rfl|rfl|rfl<;>first|rfl|exact xHm.o _ σ,σ,HC3.o.bl⟩
 |true=>
  go_wp2_with fail
  refine(xRb b _ ⟨#[68,79,78,69]⟩ w3 (xGk HCC.o rfl rfl rfl) δ).mono ?_;rintro e w4 ⟨rfl,v,hcm,htn⟩;have HTN:=ι (And.intro (xZ7 HC3.o.rd HBG.o HCC.o σ htn) (HC3.o.bl.trans (htn.below (λk e=>by subst e;exact Nat.le_refl _) (Nat.le_of_lt (xH HCC.o)))));have HCM:=ι hcm
  clear hcm htn HC3 HCC;go_wp2;go_ret;have hc4:=HCM.o;simp only[List.setIfInBounds_toArray,List.set_cons_succ,List.set_cons_zero] at hc4
  exact .inl ⟨_,_,_,_,_,_,_,_,_,_,_,_,_,_,_,rfl,hc4,⟨A5,m5,k5,A6,m6,k6,rfl,rfl,rfl,HTN.o.1,HBG.o⟩,by
   intro v hv;simp only[List.mem_cons,List.not_mem_nil,or_false] at hv;rcases hv with rfl|rfl|rfl|rfl|rfl|rfl|rfl|rfl|rfl|rfl|rfl|rfl<;>first|rfl|exact xHm.o _ σ,δ,HTN.o.2⟩
end Go.Proofs.IM
namespace Go.Proofs.IM
open Go.RowKit MM BU Mailsack SV
theorem xBt.split {K:List Value->Bs->World->Prop} {N1 N2:Prop} {d0 d1 s0 s1 s2 s3 s4 s5 s6 s7 s8 s9:Value} {tag:Bs} {w w':World} {e:Ending} (hone:∀v∈[d0,d1,s0,s1,s2,s3,s4,s5,s6,s7,s8,s9],v.oneCell'=true) (h:xBt K N1 N2 d0 d1 s0 s1 s2 s3 s4 s5 s6 s7 s8 s9 tag w e w'):
  ψ w w'/\∃v0 v1 v2 v3 v4 v5 v6 v7 v8 v9 v10 v11 t,e=.returned (.tuple #[.agg #[v0,v1],.agg #[v2,v3,v4,v5,v6,v7,v8,v9,v10,v11],.string t])/\(∀v∈[v0,v1,v2,v3,v4,v5,v6,v7,v8,v9,v10,v11],v.oneCell'=true)/\∀w2 W',(∀l,K [v0,v1,v2,v3,v4,v5,v6,v7,v8,v9,v10,v11] l w'->K [v0,v1,v2,v3,v4,v5,v6,v7,v8,v9,v10,v11] l W')->ψ w2 W'->xBt K N1 N2 d0 d1 s0 s1 s2 s3 s4 s5 s6 s7 s8 s9 tag w2 (.returned (.tuple #[.agg #[v0,v1],.agg #[v2,v3,v4,v5,v6,v7,v8,v9,v10,v11],.string t])) W':=by
 obtain⟨hb,h⟩:=h;refine⟨hb,?_⟩;rcases h with ⟨v0,v1,v2,v3,v4,v5,v6,v7,v8,v9,v10,v11,l,rfl,hk,ho⟩|⟨rfl,hn⟩|⟨rfl,hn⟩
 ·exact⟨v0,v1,v2,v3,v4,v5,v6,v7,v8,v9,v10,v11,_,rfl,ho,λw2 W' hk2 hb2=>⟨hb2,.inl ⟨v0,v1,v2,v3,v4,v5,v6,v7,v8,v9,v10,v11,l,rfl,hk2 l hk,ho⟩⟩⟩
 ·exact⟨d0,d1,s0,s1,s2,s3,s4,s5,s6,s7,s8,s9,_,rfl,hone,λw2 W' _ hb2=>⟨hb2,.inr (.inl ⟨rfl,hn⟩)⟩⟩
 ·exact⟨d0,d1,s0,s1,s2,s3,s4,s5,s6,s7,s8,s9,_,rfl,hone,λw2 W' _ hb2=>⟨hb2,.inr (.inr ⟨rfl,hn⟩)⟩⟩
theorem xCt (K:List Value->Bs->World->Prop) (N1 N2:Prop) (d0 d1 s0 s1 s2 s3 s4 s5 s6 s7 s8 s9 n0 n1 n2 n3 n4 n5:Value) (tag line:Bs) (w:World) (hK:∀vs l,Stb (K vs l)) (hone:∀v∈[d0,d1,s0,s1,s2,s3,s4,s5,s6,s7,s8,s9],v.oneCell'=true)
  (hdo:∀W xv,ψ w W->RdS W W.heap.size xv [line]->Calls prog 25 #[.agg #[d0,d1],.agg #[s0,s1,s2,s3,s4,s5,s6,s7,s8,s9],.agg #[xv,.slice none 0 0],.agg #[n0,n1,n2,n3,n4,n5]] W (xBt K N1 N2 d0 d1 s0 s1 s2 s3 s4 s5 s6 s7 s8 s9 tag W)):
  Calls prog 9 #[.agg #[d0,d1],.agg #[s0,s1,s2,s3,s4,s5,s6,s7,s8,s9],xR line,.agg #[n0,n1,n2,n3,n4,n5]] w (xBt K N1 N2 d0 d1 s0 s1 s2 s3 s4 s5 s6 s7 s8 s9 tag w):=by
 have HD:=ι hdo;have HK:=ι hK;have xHm:=ι hone;clear hdo hone hK;have H6:=ι (six w (xW d0 d1) (wT s0 s1 s2 s3 s4 s5 s6 s7 s8 s9) (drwO n0 n1 n2 n3 n4 n5) (xW (.slice none 0 0) (.slice none 0 0)) xHu (.cells #[xR line] 9))
 have HR:=ι (λ(W:World) (h:Six w (xW d0 d1) (wT s0 s1 s2 s3 s4 s5 s6 s7 s8 s9) (drwO n0 n1 n2 n3 n4 n5) (xW (.slice none 0 0) (.slice none 0 0)) xHu (.cells #[xR line] 9) W)=>
  (show RdS W W.heap.size (.slice (some ⟨w.heap.size+1+1+1+1+1,0,none⟩) 1 1) [line] from⟨_,1,rfl,σ,λ_=>⟨w.heap.size+5,0,rfl,by rw[h.size];omega,λj x hx=>by
   have hj:j=0:=by have:=(List.getElem?_eq_some_iff.1 hx).1;simp at this;omega
   subst hj;rw[Nat.zero_add,xA h.p5 0];simp at hx;subst hx
   rfl⟩⟩))
 obtain⟨PO,hPO⟩:∃PO,xBt K N1 N2 d0 d1 s0 s1 s2 s3 s4 s5 s6 s7 s8 s9 tag w=PO:=⟨_,rfl⟩;rw[hPO];have HPO:=ι hPO;clear hPO;go_enter func9,ntmps9;go_wp2_with fail
 refine(HD.o _ _ H6.o.bel (HR.o _ H6.o)).mono ?_;intro e w1 hpost;obtain⟨hb1,v0,v1,v2,v3,v4,v5,v6,v7,v8,v9,v10,v11,t,rfl,hov,hfin⟩:=hpost.split xHm.o;have hz6:=H6.o.size;have HB1:=ι (H6.o.bel.trans (hb1.mono H6.o.bel.size))
 have r3:w1.heap[w.heap.size+1+1+1]?=some (xW (.slice none 0 0) (.slice none 0 0)):=xD H6.o.p3 hb1 ω;have r4:w1.heap[w.heap.size+1+1+1+1]?=some xHu:=xD H6.o.p4 hb1 ω
 have HFN:Hid (xBt K N1 N2 d0 d1 s0 s1 s2 s3 s4 s5 s6 s7 s8 s9 tag w (.returned (.tuple #[.agg #[v0,v1],.agg #[v2,v3,v4,v5,v6,v7,v8,v9,v10,v11],.string t])) (xU (w.heap.size+1+1+1+1) 0 [v2,v3,v4,v5,v6,v7,v8,v9,v10,v11] (xU (w.heap.size+1+1+1) 0 [v0,v1] w1))):=ι (hfin w _ (λl hk=>(HK.o [v0,v1,v2,v3,v4,v5,v6,v7,v8,v9,v10,v11] l).put _ ((HK.o [v0,v1,v2,v3,v4,v5,v6,v7,v8,v9,v10,v11] l).put [v0,v1] hk r3 (.inl rfl)) (yX ω [v0,v1] 0 _ r4) (.inr rfl)) (yZ ω _ 0 _ (yZ ω _ 0 _ HB1.o)))
 have s4:=yX (b:=w.heap.size+1+1+1) ω [v0,v1] 0 _ r4;have HE3:=ι (yX (b:=w.heap.size+1+1+1+1) ω [v2,v3,v4,v5,v6,v7,v8,v9,v10,v11] 0 _ (uI (l:=[v0,v1]) r3 rfl));have HE4:=ι (uI (l:=[v2,v3,v4,v5,v6,v7,v8,v9,v10,v11]) s4 rfl);simp only[xU,Nat.reduceAdd] at HFN HE3 HE4
 have f0:=xA r3 0;have f1:=xA r3 1;have x0:=xB r3 0;have x1:=xB r3 1;have g0:=xA r4 0;have y0:=xB r4 0;have g1:=xA r4 1;have y1:=xB r4 1;have g2:=xA r4 2;have y2:=xB r4 2;have g3:=xA r4 3;have y3:=xB r4 3;have g4:=xA r4 4;have y4:=xB r4 4;have g5:=xA r4 5;have y5:=xB r4 5
 have g6:=xA r4 6;have y6:=xB r4 6;have g7:=xA r4 7;have y7:=xB r4 7;have g8:=xA r4 8;have y8:=xB r4 8;have g9:=xA r4 9;have y9:=xB r4 9;have T0:=λ(W:World) (a:Addr)=>run_store prog W a v0 .plain (hov v0 σ)
 have T1:=λ(W:World) (a:Addr)=>run_store prog W a v1 .plain (hov v1 σ);have T2:=λ(W:World) (a:Addr)=>run_store prog W a v2 .plain (hov v2 σ);have T3:=λ(W:World) (a:Addr)=>run_store prog W a v3 .plain (hov v3 σ)
 have T4:=λ(W:World) (a:Addr)=>run_store prog W a v4 .plain (hov v4 σ);have T5:=λ(W:World) (a:Addr)=>run_store prog W a v5 .plain (hov v5 σ);have T6:=λ(W:World) (a:Addr)=>run_store prog W a v6 .plain (hov v6 σ)
 have T7:=λ(W:World) (a:Addr)=>run_store prog W a v7 .plain (hov v7 σ);have T8:=λ(W:World) (a:Addr)=>run_store prog W a v8 .plain (hov v8 σ);have T9:=λ(W:World) (a:Addr)=>run_store prog W a v9 .plain (hov v9 σ)
 have T10:=λ(W:World) (a:Addr)=>run_store prog W a v10 .plain (hov v10 σ);have T11:=λ(W:World) (a:Addr)=>run_store prog W a v11 .plain (hov v11 σ);clear hb1 hz6 H6 HR HD r3 r4 s4 hfin hpost hov HB1;go_wp2;have f0:=xA HE3.o 0;have f1:=xA HE3.o 1;have g0:=xA HE4.o 0
 have g1:=xA HE4.o 1;have g2:=xA HE4.o 2;have g3:=xA HE4.o 3;have g4:=xA HE4.o 4;have g5:=xA HE4.o 5;have g6:=xA HE4.o 6;have g7:=xA HE4.o 7;have g8:=xA HE4.o 8;have g9:=xA HE4.o 9
 refine bodyPost_ret (v:=.tuple #[.agg #[v0,v1],.agg #[v2,v3,v4,v5,v6,v7,v8,v9,v10,v11],.string t]) (by simp[results,results9,go_sem,f0,f1,g0,g1,g2,g3,g4,g5,g6,g7,g8,g9]) rfl ?_;rw[<-HPO.o];with_reducible exact HFN.o
end Go.Proofs.IM
namespace Mailsack
def tJ:List Bs->Bs
 |[]=>[]
 |[x]=>x
 |x::y::l=>x++32::tJ (y::l)
theorem xKy {x r:Bs} (h:x.all (λc=>!uS c)=true) (hr:∀c r',r=c::r'->uS c=true):jQ (x++r)=x.length:=by
 unfold jQ;rw[List.takeWhile_append_of_pos (λc hc=>List.all_eq_true.1 h c hc)];cases r with
 |nil=>simp
 |cons c r'=>rw[List.takeWhile_cons,hr c r' rfl];simp
theorem xPc {f:Nat} {x r:Bs} {T:List Tok} {d:Nat} (hw:isWord x=true) (hr:∀c r',r=c::r'->uS c=true):wQ (f+1) (x++r) T d=wQ f r (kJ T (0,x)) d:=by
 unfold isWord at hw;simp only[Bool.and_eq_true,decide_eq_true_eq] at hw;have hl:=xKy hw.2 hr;cases x with
 |nil=>exact absurd hw.1 σ
 |cons c x=>
  have hc:uS c=false:=by
   have:=List.all_eq_true.1 hw.2 c σ;simpa using this
  have hc':=hc;unfold uS at hc';simp only[Bool.or_eq_false_iff,beq_eq_false_iff_ne] at hc';obtain⟨⟨⟨h1,h2⟩,h3⟩,h4⟩:=hc';rw[List.cons_append] at hl⊢;show(if c=32 then _ else _)=_;rw[if_neg h1,if_neg h2,if_neg h3,if_neg h4,hl,<-List.cons_append,List.drop_left,List.take_left]
theorem xL9:∀(l:List Bs) (f:Nat) (T:List Tok),(∀x∈l,isWord x=true)->(tJ l).length<=f->T.length+l.length<=41->wQ f (tJ l) T 0=some (T++l.map (λx=>(0,x)),0)
 |[],f,T,_,_,_=>by cases f<;>simp[tJ,wQ]
 |[x],f,T,hw,hf,hT=>by
  have hx:=hw x σ
  have hp:0<x.length:=by
   unfold isWord at hx;simp only[Bool.and_eq_true,decide_eq_true_eq] at hx;exact hx.1
  simp only[tJ] at hf⊢;obtain⟨f,rfl⟩:∃g,f=g+1:=⟨f-1,ω⟩;have:=xPc (f:=f) (r:=[]) (T:=T) (d:=0) hx σ;rw[List.append_nil] at this;rw[this];have ha:kJ T (0,x)=T++[(0,x)]:=by unfold kJ;rw[if_pos (by simp at hT;omega)]
  rw[ha];cases f<;>simp[wQ]
 |x::y::l,f,T,hw,hf,hT=>by
  have hx:=hw x σ
  have hp:0<x.length:=by
   unfold isWord at hx;simp only[Bool.and_eq_true,decide_eq_true_eq] at hx;exact hx.1
  simp only[tJ,List.length_append,List.length_cons] at hf⊢;obtain⟨f,rfl⟩:∃g,f=g+1+1:=⟨f-2,ω⟩;rw[xPc hx (by rintro c r' e;injection e with e _;subst e;rfl)];have ha:kJ T (0,x)=T++[(0,x)]:=by unfold kJ;rw[if_pos (by simp at hT;omega)]
  rw[ha];show(if (32:UInt8)=32 then wQ f (tJ (y::l)) (T++[(0,x)]) 0 else _)=_;rw[if_pos rfl,xL9 (y::l) f (T++[(0,x)]) (λz hz=>hw z (by simp[hz])) ω (by simp at hT⊢;omega)];simp
theorem xIb:∀(l:List Bs),(∀x∈l,uM x=true)->uM (tJ l)=true
 |[],_=>rfl
 |[x],h=>h x σ
 |x::y::l,h=>by
  have h1:=h x σ;have h2:=xIb (y::l) (λz hz=>h z (by simp[hz]));unfold uM at h1 h2⊢;simp only[tJ,List.all_append,List.all_cons,h1,h2]
  rfl
theorem xBw (l:List Bs) (h1:∀x∈l,isWord x=true) (h2:∀x∈l,uM x=true) (hl:l.length<=40):rV [tJ l] []=some (l.map (λx=>(0,x))):=by
 have hs:=xL9 l (tJ l).length [] h1 ν (by simp;omega);unfold rV;rw[if_pos (show[tJ l].length=([]:List Bs).length+1 from rfl)];simp only[xCc,xIb l h2,if_true,Nat.lt_irrefl,if_false,hs,List.nil_append];rw[if_pos ⟨trivial,by simpa using hl⟩]
end Mailsack
namespace Go.Proofs.IM
open Go.RowKit MM BU Mailsack VB
def xC9 (x:Bs):Prop:=isWord x=true/\uM x=true/\x.length<=60
def WordsB (L:List Bs) (e:Ending):Prop:=∃r,e=.returned (.bool r)/\(r=true->∀x∈L,xC9 x)
theorem xYi {L:List Bs} (h:∀(j:Nat) x,j<L.length->L[j]?=some x->xC9 x):∀x∈L,xC9 x:=λx hx=>by
 obtain⟨j,hj⟩:=List.mem_iff_getElem?.1 hx;exact h j x (List.getElem?_eq_some_iff.1 hj).1 hj
theorem xU0 (v:Value) (L:List Bs) (w:World) (h:RdS w w.heap.size v L) (hl:L.length<=9223372036854775807) (hL:∀x∈L,x.length<=9223372036854775807):
  Calls prog 7 #[v] w λe w'=>WordsB L e/\w'=w:=by
 obtain⟨A,c,rfl,hc,hcell⟩:=h;have Hc:=ι hcell;have HLs:=ι hL;clear hcell hL;go_enter func7,ntmps7;go_wp2
 go_loop [8] (λiv=>∃k:Nat,k<=L.length/\iv=.int .i64 k/\Hid (∀(j:Nat) x,j<k->L[j]?=some x->xC9 x)) (λiv=>L.length- (intOf iv).toNat)
 case atStart=>exact⟨0,Nat.zero_le _,rfl,ι (λj x hj _=>by omega)⟩
 case round=>
  obtain⟨k,hk,rfl,hr⟩:=hrel
  by_cases hlt:k<L.length
  ·obtain⟨b,off,rfl,hb,hcl⟩:=Hc.o ω;obtain⟨x,hx⟩:∃x,L[k]?=some x:=⟨_,List.getElem?_eq_getElem hlt⟩;obtain⟨xb,hxb⟩:∃xb:ByteArray,(⟨x.toArray⟩:ByteArray)=xb:=⟨_,rfl⟩;have q:w.cell? ⟨b,off+k,none⟩=some (.string xb):=by rw[<-hxb];exact hcl k x hx
   have hxm:xb.size<=9223372036854775807:=by rw[<-hxb];exact HLs.o x (List.mem_of_getElem? hx)
   have HX:Hid (xb.data.toList=x):=ι (by rw[<-hxb]);have HXK:=ι hx;clear hxb hcl hx
   by_cases h0:xb.toList=[]
   ·have e0:(xb.toList==[])=true:=by simp[h0]
    clear h0;go_wp2;go_ret;exact⟨⟨_,rfl,λh=>by simp at h⟩,rfl⟩
   ·have e0:(xb.toList==[])=false:=by simp[h0]
    have HNE:Hid (0<xb.size):=ι (by
     rcases Nat.eq_zero_or_pos xb.size with e|e
     ·exact absurd (by rw[ByteArray.toList_eq];exact List.eq_nil_of_length_eq_zero (by simpa using e)) h0
     ·exact e)
    clear h0
    by_cases h60:60<xb.size
    ·have h60':(60:Int)<(xb.size:Int):=ω;go_wp2;go_ret;exact⟨⟨_,rfl,λh=>by simp at h⟩,rfl⟩
    ·have h60':¬((60:Int)<(xb.size:Int)):=ω;have HPL:=ι (xRp xb w ω);obtain⟨pl,hpl⟩:∃pl,uM xb.data.toList=pl:=⟨_,rfl⟩;rw[hpl] at HPL;have HP:=ι hpl;clear hpl;go_wp2_with fail
     refine HPL.o.mono ?_;rintro e w1 ⟨rfl,rfl⟩;clear HPL;cases pl with
     |false=>
      go_wp2;go_ret;exact⟨⟨_,rfl,λh=>by simp at h⟩,rfl⟩
     |true=>
      go_wp2_with fail
      go_loop [26] (λiv=>∃m:Nat,m<=xb.size/\iv=.int .i64 m/\Hid ((xb.data.toList.take m).all (λc=>!uS c)=true)) (λiv=>xb.size- (intOf iv).toNat)
      case atStart=>exact⟨0,Nat.zero_le _,rfl,ι rfl⟩
      case round=>
       obtain⟨m,hm,rfl,hs⟩:=hrel
       by_cases hlm:m<xb.size
       ·have b1:((xb[m].toNat:Int)==32)=(xb[m]==32):=by rw[Bool.eq_iff_iff,beq_iff_eq,beq_iff_eq];exact qM (n:=32) δ
        have b2:((xb[m].toNat:Int)==40)=(xb[m]==40):=by rw[Bool.eq_iff_iff,beq_iff_eq,beq_iff_eq];exact qM (n:=40) δ
        have b3:((xb[m].toNat:Int)==41)=(xb[m]==41):=by rw[Bool.eq_iff_iff,beq_iff_eq,beq_iff_eq];exact qM (n:=41) δ
        have b4:((xb[m].toNat:Int)==34)=(xb[m]==34):=by rw[Bool.eq_iff_iff,beq_iff_eq,beq_iff_eq];exact qM (n:=34) δ
        have HST:Hid (uS xb[m]=false->(xb.data.toList.take (m+1)).all (λc=>!uS c)=true):=ι (λhsp=>by
         have hg:xb.data.toList[m]?=some xb[m]:=by
          rw[List.getElem?_eq_getElem (by simpa using hlm)]
          rfl
         rw[List.take_add_one,hg,List.all_append,hs.o];simp[hsp])
        have HSP:Hid (uS xb[m]=((xb[m]==32)||(xb[m]==40)||(xb[m]==41)||(xb[m]==34))):=ι rfl;cases h1:xb[m]==32<;>rw[h1] at b1 HSP
        ·cases h2:xb[m]==40<;>rw[h2] at b2 HSP
         ·cases h3:xb[m]==41<;>rw[h3] at b3 HSP
          ·cases h4:xb[m]==34<;>rw[h4] at b4 HSP
           ·have HN:=ι (HST.o HSP.o);clear h1 h2 h3 h4;go_wp2
            go_round
            case rel=>exact⟨m+1,ω,by go_num,HN⟩
            case measure=>simp[intOf];omega
           ·clear h1 h2 h3 h4;go_wp2;go_ret;exact⟨⟨_,rfl,λh=>by simp at h⟩,rfl⟩
          ·clear h1 h2 h3;go_wp2;go_ret;exact⟨⟨_,rfl,λh=>by simp at h⟩,rfl⟩
         ·clear h1 h2;go_wp2;go_ret;exact⟨⟨_,rfl,λh=>by simp at h⟩,rfl⟩
        ·clear h1;go_wp2;go_ret;exact⟨⟨_,rfl,λh=>by simp at h⟩,rfl⟩
       ·have HK:Hid (∀(j:Nat) y,j<k+1->L[j]?=some y->xC9 y):=ι (λj y hj hy=>by
         by_cases e:j=k
         ·subst e;rw[HXK.o] at hy;injection hy with hy;subst hy;rw[<-HX.o];refine⟨?_,HP.o,by simp;omega⟩;unfold isWord;rw[Bool.and_eq_true];refine⟨by have:=HNE.o;simpa using this,?_⟩;have:=hs.o
          rwa [List.take_of_length_le (by simp;omega)] at this
         ·exact hr.o j y ω hy)
        go_wp2
        go_round
        case rel=>exact⟨k+1,ω,by go_num,HK⟩
        case measure=>simp[intOf];omega
  ·have HK:Hid (∀x∈L,xC9 x):=ι (xYi (λj x hj hx=>hr.o j x ω hx));go_wp2;go_ret;exact⟨⟨_,rfl,λ_=>HK.o⟩,rfl⟩
end Go.Proofs.IM
namespace Go.Proofs.IM
open Go.RowKit MM BU Mailsack SV RK DS IX Go.Proofs.VA
theorem xJr (b:Nat) (su:ByteArray) (w:World) (h:w.cell? ⟨b,2,none⟩=some (.string su)) (hs:(su.toList==[])=false):
  Calls prog 52 #[xQj b,.int .i64 2] w λe w'=>e=.returned (.bool true)/\w'=w:=by
 go_enter func52,ntmps52;go_wp2;go_ret;exact⟨rfl,rfl⟩
def KyAt (D:Dk) (er:Int) (d0 d1:Value) (R:DkR) (W:World):Prop:=(er=0->RdD W W.heap.size (.slice R.A5 R.m5 R.k5) (.slice R.A6 R.m6 R.k6) D/\xTq D)/\(er≠0->R.ls=[d0,d1])
def yBy (D:Dk) (er:Int) (d0 d1:Value) (S:List Value) (t:ByteArray) (w:World) (e:Ending) (w':World):Prop:=
 ∃R:DkR,e=.returned (.tuple #[.agg R.ls.toArray,.agg S.toArray,.string t])/\KyAt D er d0 d1 R w'/\ψ w w'
theorem yBy.of {D:Dk} {er:Int} {S:List Value} {l0:Bs} {A1 A2:Option Addr} {n1 c1 n2 c2:Nat} {s0 s1 s2 s3 s4 s5 s6 s7 s8 s9:Value} {w w':World} {e:Ending} (hl:S.length=10)
  (h:xBt (KyK D er S l0) (er≠0) False (.slice A1 n1 c1) (.slice A2 n2 c2) s0 s1 s2 s3 s4 s5 s6 s7 s8 s9 [116] w e w'):
  yBy D er (.slice A1 n1 c1) (.slice A2 n2 c2) (if er=0 then S else[s0,s1,s2,s3,s4,s5,s6,s7,s8,s9]) (if er=0 then⟨(l0++[116]++[32,79,75]++[13,10]).toArray⟩ else⟨#[116,32,78,79,13,10]⟩) w e w':=by
 obtain⟨hb,⟨v0,v1,v2,v3,v4,v5,v6,v7,v8,v9,v10,v11,l,rfl,⟨A5,m5,k5,A6,m6,k6,hv,rfl,h0,hr,hB⟩,_⟩|⟨rfl,hn⟩|⟨rfl,hn⟩⟩:=h
 ·rw[if_pos h0,if_pos h0];injection hv with e1 hv;injection hv with e2 hv;subst e1 e2;rw[<-hv];exact⟨⟨A5,m5,k5,A6,m6,k6⟩,rfl,⟨λ_=>⟨hr,hB⟩,λhn=>absurd h0 hn⟩,hb⟩
 ·rw[if_neg hn,if_neg hn];exact⟨⟨A1,n1,c1,A2,n2,c2⟩,rfl,⟨λh0=>absurd h0 hn,λ_=>rfl⟩,hb⟩
 ·exact hn.elim
theorem yCz (u pw:ByteArray):(⟨#[116,32,88,80,65,83,83,87,68,32]⟩:ByteArray)++u++⟨#[32]⟩++pw=⟨(tJ [[116],[88,80,65,83,83,87,68],u.data.toList,pw.data.toList]).toArray⟩:=by
 apply ByteArray.ext;simp[tJ]
theorem yCt (u:ByteArray):(⟨#[116,32,88,82,79,84,65,84,69,32]⟩:ByteArray)++u=⟨(tJ [[116],[88,82,79,84,65,84,69],u.data.toList]).toArray⟩:=by
 apply ByteArray.ext;simp[tJ]
theorem xXg (d0 d1 bv sv:Value) (su sp so bx f1 f2 f3 f4 f5:ByteArray) (se rd:Int) (x:uQ) (o1 o2:Bool) (d:Dk) (u pw:ByteArray) (w:World) (hD:RdD w w.heap.size d0 d1 d) (hx:xKp w w.heap.size bv sv x) (hs:(su.toList==[])=false) (ho:xC9 u.data.toList) (hp:xC9 pw.data.toList) (hu:su.size<=1000) (hc:d.cache.length<=10000) (hT:VaT w):
  Calls prog 9 #[.agg #[d0,d1],.agg #[.string su,.string sp,.string so,.int .i64 se,bv,sv,.int .i64 x.given,.string bx,.bool o1,.bool o2],.string ((⟨#[116,32,88,80,65,83,83,87,68,32]⟩:ByteArray)++u++⟨#[32]⟩++pw),.agg #[.string f1,.string f2,.string f3,.string f4,.string f5,.int .i64 rd]] w
   (yBy (xUb d su u pw f3 f4 rd) (xN3 d su u pw f3 f4 rd) d0 d1 [.string su,.string sp,.string so,.int .i64 se,bv,sv,.int .i64 x.given,.string bx,.bool o1,.bool o2] (if xN3 d su u pw f3 f4 rd=0 then⟨#[116,32,79,75,13,10]⟩ else⟨#[116,32,78,79,13,10]⟩) w):=by
 rw[yCz]
 have hone:∀v∈[d0,d1,.string su,.string sp,.string so,.int .i64 se,bv,sv,.int .i64 x.given,.string bx,.bool o1,.bool o2],v.oneCell'=true:=by
  obtain⟨A1,c1,A2,c2,rfl,rfl⟩:=xX hD;obtain⟨Ab,cb,rfl,_⟩:=hx.boxes;obtain⟨As,cs,rfl,_⟩:=hx.subs;intro v hv;simp only[List.mem_cons,List.not_mem_nil,or_false] at hv;rcases hv with rfl|rfl|rfl|rfl|rfl|rfl|rfl|rfl|rfl|rfl|rfl|rfl<;>rfl
 have hlen:(tJ [[116],[88,80,65,83,83,87,68],u.data.toList,pw.data.toList]).length<=1000000:=by
  have h1:=ho.2.2;have h2:=hp.2.2;simp only[tJ,List.length_append,List.length_cons,List.length_nil];omega
 refine Calls.mono (xCt (KyK (xUb d su u pw f3 f4 rd) (xN3 d su u pw f3 f4 rd) [.string su,.string sp,.string so,.int .i64 se,bv,sv,.int .i64 x.given,.string bx,.bool o1,.bool o2] []) (xN3 d su u pw f3 f4 rd≠0) False d0 d1 _ _ _ _ _ _ _ _ _ _ _ _ _ _ _ _ [116] _ w (λvs l=>KyK.stb _ _ _ _ vs l) hone (λW xv hb hx2=>?_)) ?_
 ·refine xQg _ _ _ d0 d1 _ _ _ _ _ _ _ _ _ _ _ _ _ _ _ _ xv (.slice none 0 0) [tJ [[116],[88,80,65,83,83,87,68],u.data.toList,pw.data.toList]] [] [116] [88,80,65,83,83,87,68] [88,80,65,83,83,87,68] [(0,u.data.toList),(0,pw.data.toList)] 2 128 true W (λvs l=>KyK.stb _ _ _ _ vs l) hx2 (VB.xEy W _)
   (λx hx=>by rw[List.mem_singleton.1 hx];exact hlen) σ σ hone
   (xBw [[116],[88,80,65,83,83,87,68],u.data.toList,pw.data.toList]
    (by
     intro x hx;simp only[List.mem_cons,List.not_mem_nil,or_false] at hx;rcases hx with rfl|rfl|rfl|rfl
     ·decide
     ·decide
     ·exact ho.1
     ·exact hp.1)
    (by
     intro x hx;simp only[List.mem_cons,List.not_mem_nil,or_false] at hx;rcases hx with rfl|rfl|rfl|rfl
     ·decide
     ·decide
     ·exact ho.2.1
     ·exact hp.2.1) σ) δ δ δ δ δ
   (List.mem_of_getElem? (i:=25) rfl) (λv hv=>by simpa[uX] using hv) (λargs W=>enters_of func128 κ rfl args W)
   (λb sl W h=>xJr b su W (xA h 2) hs) (λh=>by cases h) (λ_ b sl W2 hb2 hle hC hA=>?_)
  have hbw:=hb.trans (hb2.mono hb.size)
  exact xS0 b d0 d1 _ _ _ _ _ _ _ _ _ _ _ sl d su u pw f3 f4 f5 rd W2 hC (λv hv=>hone v (List.mem_cons_of_mem _ (List.mem_cons_of_mem _ (List.mem_cons_of_mem _ hv)))) ((hD.below hbw ν).more (Nat.le_trans hb.size hle)) hA hu (by have:=ho.2.2;simp at this;omega) (by have:=hp.2.2;simp at this;omega) hc (hT.below hbw)
 ·intro e w' h;obtain⟨A1,c1,A2,c2,rfl,rfl⟩:=xX hD;have:=yBy.of rfl h;simpa using this
theorem xXf (d0 d1 bv sv:Value) (su sp so bx f1 f2 f3 f4 f5:ByteArray) (se rd:Int) (x:uQ) (o1 o2:Bool) (d:Dk) (u:ByteArray) (w:World) (hD:RdD w w.heap.size d0 d1 d) (hx:xKp w w.heap.size bv sv x) (hxl:x.boxes.length<=9223372036854775807) (hxm:∀b∈x.boxes,b.zA.length<=9223372036854775807) (hxs:x.subs.length<=9223372036854775807) (hs:(su.toList==[])=false) (ho:xC9 u.data.toList) (hu:su.size<=1000) (hc:d.cache.length<=10000) (hT:VaT w):
  Calls prog 9 #[.agg #[d0,d1],.agg #[.string su,.string sp,.string so,.int .i64 se,bv,sv,.int .i64 x.given,.string bx,.bool o1,.bool o2],.string ((⟨#[116,32,88,82,79,84,65,84,69,32]⟩:ByteArray)++u),.agg #[.string f1,.string f2,.string f3,.string f4,.string f5,.int .i64 rd]] w
   (yBy (uY d (xR7 d su x u f3 f4 f5 rd)) (xP0 d su x u f3 f4 f5 rd) d0 d1 (if xP0 d su x u f3 f4 f5 rd=0 then[.string su,.string f5,.string sp,.int .i64 (xKj (zQ d su) u f3 f4 f5 rd).vQ,bv,sv,.int .i64 x.given,.string bx,.bool o1,.bool o2] else[.string su,.string sp,.string so,.int .i64 se,bv,sv,.int .i64 x.given,.string bx,.bool o1,.bool o2]) (if xP0 d su x u f3 f4 f5 rd=0 then⟨#[116,32,79,75,13,10]⟩ else⟨#[116,32,78,79,13,10]⟩) w):=by
 rw[yCt]
 have hone:∀v∈[d0,d1,.string su,.string sp,.string so,.int .i64 se,bv,sv,.int .i64 x.given,.string bx,.bool o1,.bool o2],v.oneCell'=true:=by
  obtain⟨A1,c1,A2,c2,rfl,rfl⟩:=xX hD;obtain⟨Ab,cb,rfl,_⟩:=hx.boxes;obtain⟨As,cs,rfl,_⟩:=hx.subs;intro v hv;simp only[List.mem_cons,List.not_mem_nil,or_false] at hv;rcases hv with rfl|rfl|rfl|rfl|rfl|rfl|rfl|rfl|rfl|rfl|rfl|rfl<;>rfl
 have hlen:(tJ [[116],[88,82,79,84,65,84,69],u.data.toList]).length<=1000000:=by
  have h1:=ho.2.2;simp only[tJ,List.length_append,List.length_cons,List.length_nil];omega
 refine Calls.mono (xCt (KyK (uY d (xR7 d su x u f3 f4 f5 rd)) (xP0 d su x u f3 f4 f5 rd) [.string su,.string f5,.string sp,.int .i64 (xKj (zQ d su) u f3 f4 f5 rd).vQ,bv,sv,.int .i64 x.given,.string bx,.bool o1,.bool o2] []) (xP0 d su x u f3 f4 f5 rd≠0) False d0 d1 _ _ _ _ _ _ _ _ _ _ _ _ _ _ _ _ [116] _ w (λvs l=>KyK.stb _ _ _ _ vs l) hone (λW xv hb hx2=>?_)) ?_
 ·refine xQg _ _ _ d0 d1 _ _ _ _ _ _ _ _ _ _ _ _ _ _ _ _ xv (.slice none 0 0) [tJ [[116],[88,82,79,84,65,84,69],u.data.toList]] [] [116] [88,82,79,84,65,84,69] [88,82,79,84,65,84,69] [(0,u.data.toList)] 2 129 true W (λvs l=>KyK.stb _ _ _ _ vs l) hx2 (VB.xEy W _)
   (λx hx=>by rw[List.mem_singleton.1 hx];exact hlen) σ σ hone
   (xBw [[116],[88,82,79,84,65,84,69],u.data.toList]
    (by
     intro x hx;simp only[List.mem_cons,List.not_mem_nil,or_false] at hx;rcases hx with rfl|rfl|rfl
     ·decide
     ·decide
     ·exact ho.1)
    (by
     intro x hx;simp only[List.mem_cons,List.not_mem_nil,or_false] at hx;rcases hx with rfl|rfl|rfl
     ·decide
     ·decide
     ·exact ho.2.1) σ) δ δ δ δ δ
   (List.mem_of_getElem? (i:=26) rfl) (λv hv=>by simpa[uX] using hv) (λargs W=>enters_of func129 κ rfl args W)
   (λb sl W h=>xJr b su W (xA h 2) hs) (λh=>by cases h) (λ_ b sl W2 hb2 hle hC hA=>?_)
  have hbw:=hb.trans (hb2.mono hb.size);have hxw:=(hx.below hbw ν).more (Nat.le_trans hb.size hle);obtain⟨Ab,cb,rfl,_⟩:=hx.boxes;obtain⟨As,cs,rfl,_⟩:=hx.subs
  exact xRq b d0 d1 _ _ _ _ _ sl d su sp so u f3 f4 f5 se rd Ab As cb cs x W2 hC (by intro v hv;simp at hv;rcases hv with rfl|rfl|rfl<;>rfl) ((hD.below hbw ν).more (Nat.le_trans hb.size hle)) hxw hxl hxm hxs hA hu (by have:=ho.2.2;simp at this;omega) hc (hT.below hbw)
 ·intro e w' h;obtain⟨A1,c1,A2,c2,rfl,rfl⟩:=xX hD;exact yBy.of rfl h
theorem yE8 (d0 d1 bv sv:Value) (su sp so bx f1 f2 f3 f4 f5:ByteArray) (se rd:Int) (x:uQ) (o1 o2:Bool) (d:Dk) (w:World) (hD:RdD w w.heap.size d0 d1 d) (hx:xKp w w.heap.size bv sv x) (hs:(su.toList==[])=false) (hu:su.size<=1000) (hc:d.cache.length<=10000) (hT:VaT w):
  Calls prog 9 #[.agg #[d0,d1],.agg #[.string su,.string sp,.string so,.int .i64 se,bv,sv,.int .i64 x.given,.string bx,.bool o1,.bool o2],.string ⟨#[116,32,88,83,84,69,80]⟩,.agg #[.string f1,.string f2,.string f3,.string f4,.string f5,.int .i64 rd]] w
   (yBy (xR6 d su sp so f2 se) (xIy d su sp so f2 se) d0 d1 (if xIy d su sp so f2 se=0 then[.string su,.string sp,.string (xU7 d su so se),.int .i64 se,bv,sv,.int .i64 x.given,.string bx,.bool o1,.bool o2] else[.string su,.string sp,.string so,.int .i64 se,bv,sv,.int .i64 x.given,.string bx,.bool o1,.bool o2]) (if xIy d su sp so f2 se=0 then⟨(xOg (xOz d su so se)++[116]++[32,79,75]++[13,10]).toArray⟩ else⟨#[116,32,78,79,13,10]⟩) w):=by
 have hone:∀v∈[d0,d1,.string su,.string sp,.string so,.int .i64 se,bv,sv,.int .i64 x.given,.string bx,.bool o1,.bool o2],v.oneCell'=true:=by
  obtain⟨A1,c1,A2,c2,rfl,rfl⟩:=xX hD;obtain⟨Ab,cb,rfl,_⟩:=hx.boxes;obtain⟨As,cs,rfl,_⟩:=hx.subs;intro v hv;simp only[List.mem_cons,List.not_mem_nil,or_false] at hv;rcases hv with rfl|rfl|rfl|rfl|rfl|rfl|rfl|rfl|rfl|rfl|rfl|rfl<;>rfl
 refine Calls.mono (xCt (KyK (xR6 d su sp so f2 se) (xIy d su sp so f2 se) [.string su,.string sp,.string (xU7 d su so se),.int .i64 se,bv,sv,.int .i64 x.given,.string bx,.bool o1,.bool o2] (xOg (xOz d su so se))) (xIy d su sp so f2 se≠0) False d0 d1 _ _ _ _ _ _ _ _ _ _ _ _ _ _ _ _ [116] [116,32,88,83,84,69,80] w (λvs l=>KyK.stb _ _ _ _ vs l) hone (λW xv hb hx2=>?_)) ?_
 ·refine xQg _ _ _ d0 d1 _ _ _ _ _ _ _ _ _ _ _ _ _ _ _ _ xv (.slice none 0 0) [[116,32,88,83,84,69,80]] [] [116] [88,83,84,69,80] [88,83,84,69,80] [] 2 130 true W (λvs l=>KyK.stb _ _ _ _ vs l) hx2 (VB.xEy W _)
   (λx hx=>by rw[List.mem_singleton.1 hx];decide) σ σ hone
   (xBw [[116],[88,83,84,69,80]]
    (by
     intro x hx;simp only[List.mem_cons,List.not_mem_nil,or_false] at hx;rcases hx with rfl|rfl<;>decide)
    (by
     intro x hx;simp only[List.mem_cons,List.not_mem_nil,or_false] at hx;rcases hx with rfl|rfl<;>decide) σ) δ δ δ δ δ
   (List.mem_of_getElem? (i:=27) rfl) (λv hv=>by simpa[uX] using hv) (λargs W=>enters_of func130 κ rfl args W)
   (λb sl W h=>xJr b su W (xA h 2) hs) (λh=>by cases h) (λ_ b sl W2 hb2 hle hC hA=>?_)
  have hbw:=hb.trans (hb2.mono hb.size);obtain⟨Ab,cb,rfl,_⟩:=hx.boxes;obtain⟨As,cs,rfl,_⟩:=hx.subs;obtain⟨A9,c9,rfl,_⟩:=hA
  exact xYx b d0 d1 _ _ _ _ _ _ _ _ d su sp so f2 se x.given Ab As A9 x.boxes.length cb x.subs.length cs c9 W2 hC (by intro v hv;simp at hv;rcases hv with rfl|rfl|rfl<;>rfl) ((hD.below hbw ν).more (Nat.le_trans hb.size hle)) hu hc (hT.below hbw)
 ·intro e w' h;obtain⟨A1,c1,A2,c2,rfl,rfl⟩:=xX hD;exact yBy.of rfl h
end Go.Proofs.IM
namespace Go.Proofs.IM
open Go.RowKit MM BU Mailsack SV RK DS IX BK Go.Proofs.VA
structure KyE where
 D:Dk
 e:Int
 R:DkR
 f:Bool
def KyL (d0 d1:Value) (T:List KyE) (W:World):Prop:=∀t∈T,(t.e=0->RdD W W.heap.size (.slice t.R.A5 t.R.m5 t.R.k5) (.slice t.R.A6 t.R.m6 t.R.k6) t.D/\xTq t.D)/\(t.f=true->t.e≠0->t.R.ls=[d0,d1])
structure Bt (w:World) (L:List (Nat×Obj)) (d0 d1:Value) (T:List KyE) (W:World):Prop where
 b:Bk w L W
 t:KyL d0 d1 T W
section
variable {w W W':World} {L:List (Nat×Obj)} {d0 d1:Value} {T:List KyE}
theorem KyL.below (h:KyL d0 d1 T W) (hb:ψ W W'):KyL d0 d1 T W':=λt ht=>
 ⟨λh0=>⟨(((h t ht).1 h0).1.below hb ν).more hb.size,((h t ht).1 h0).2⟩,(h t ht).2⟩
theorem Bt.k (h:Bt w L d0 d1 T W) (i:Nat) (p:Nat×Obj) (hp:L[i]?=some p):W.heap[p.1]?=some p.2:=h.b.k i p hp
theorem st10 {W:World} {b:Nat} {t:TypeId} {c0 c1 c2 c3 c4 c5 c6 c7 c8 c9:Value} (h:W.heap[b]?=some (.cells #[c0,c1,c2,c3,c4,c5,c6,c7,c8,c9] t (0,0))):(W.cell? ⟨b,0,none⟩=some c0/\W.frozen? ⟨b,0,none⟩=false)/\(W.cell? ⟨b,1,none⟩=some c1/\W.frozen? ⟨b,1,none⟩=false)/\(W.cell? ⟨b,2,none⟩=some c2/\W.frozen? ⟨b,2,none⟩=false)/\(W.cell? ⟨b,3,none⟩=some c3/\W.frozen? ⟨b,3,none⟩=false)/\(W.cell? ⟨b,4,none⟩=some c4/\W.frozen? ⟨b,4,none⟩=false)/\(W.cell? ⟨b,5,none⟩=some c5/\W.frozen? ⟨b,5,none⟩=false)/\(W.cell? ⟨b,6,none⟩=some c6/\W.frozen? ⟨b,6,none⟩=false)/\(W.cell? ⟨b,7,none⟩=some c7/\W.frozen? ⟨b,7,none⟩=false)/\(W.cell? ⟨b,8,none⟩=some c8/\W.frozen? ⟨b,8,none⟩=false)/\(W.cell? ⟨b,9,none⟩=some c9/\W.frozen? ⟨b,9,none⟩=false):=
 ⟨⟨xA h 0,xB h 0⟩,⟨xA h 1,xB h 1⟩,⟨xA h 2,xB h 2⟩,⟨xA h 3,xB h 3⟩,⟨xA h 4,xB h 4⟩,⟨xA h 5,xB h 5⟩,⟨xA h 6,xB h 6⟩,⟨xA h 7,xB h 7⟩,⟨xA h 8,xB h 8⟩,⟨xA h 9,xB h 9⟩⟩
theorem Bt.lt (h:Bt w L d0 d1 T W):∀p∈L,p.1<W.heap.size:=λp hp=>by
 obtain⟨i,hi⟩:=List.getElem?_of_mem hp;exact xH (h.k i p hi)
theorem Bt.bel (h:Bt w L d0 d1 T W):ψ w W:=h.b.bel
theorem Bt.of (h:Bk w L W):Bt w L d0 d1 [] W:=⟨h,λt ht=>by cases ht⟩
theorem Bt.below (h:Bt w L d0 d1 T W) (hb:ψ W W'):Bt w L d0 d1 T W':=⟨h.b.below hb,h.t.below hb⟩
theorem Bt.two (h:Bt w L d0 d1 T W) (o o':Obj):Bt w (L++[(W.heap.size,o),(W.heap.size+1,o')]) d0 d1 T ((W.alloc o).alloc o'):=
 ⟨h.b.two o o',h.t.below ((φ W o).alloc σ o')⟩
theorem Bt.alloc (h:Bt w L d0 d1 T W) (o:Obj):Bt w (L++[(W.heap.size,o)]) d0 d1 T (W.alloc o):=⟨h.b.alloc o,h.t.below (φ W o)⟩
theorem Bt.cons (h:Bt w L d0 d1 T W) (E:KyE) (h1:E.e=0->RdD W W.heap.size (.slice E.R.A5 E.R.m5 E.R.k5) (.slice E.R.A6 E.R.m6 E.R.k6) E.D/\xTq E.D) (h2:E.f=true->E.e≠0->E.R.ls=[d0,d1]):Bt w L d0 d1 (E::T) W:=
 ⟨h.b,λt ht=>by
  rcases List.mem_cons.1 ht with rfl|ht
  ·exact⟨h1,h2⟩
  ·exact h.t t ht⟩
theorem KyL.over (h:KyL d0 d1 T W) {g:Nat} {cs:Array Value} {t:TypeId} (hg:W.heap[g]?=some (.cells cs t (0,0))) (hs:cs.size<=30) (l:List Value) (i:Nat):KyL d0 d1 T (xU g i l W):=λt ht=>
 ⟨λh0=>⟨RdD.over ((h t ht).1 h0).1 ((h t ht).1 h0).2 hg hs l i,((h t ht).1 h0).2⟩,(h t ht).2⟩
theorem Bt.part (h:Bt w L d0 d1 T W) {i g:Nat} {cs:Array Value} {t:TypeId} (hi:L[i]?=some (g,.cells cs t (0,0))) (j:Nat) (l:List Value) (hl:j+l.length<=cs.size) (hs:cs.size<=30:=by exact Nat.le_of_ble_eq_true rfl):Bt w (L.set i (g,.cells (cs.toList.take j++l++cs.toList.drop (j+l.length)).toArray t (0,0))) d0 d1 T (xU g j l W):=
 ⟨h.b.turn hi (kQ l j W cs (h.k i _ hi) hl) (λb x hb hx=>yX hb l j W hx) (yZ (h.b.lo _ (List.mem_of_getElem? hi)) l j W h.b.bel),h.t.over (h.k i _ hi) hs l j⟩
theorem Bt.add (h:Bt w L d0 d1 T W) {g:Nat} {o:Obj} (hg:W.heap[g]?=some o) (hl:w.heap.size<=g) (hn:∀p∈L,p.1≠g):Bt w (L++[(g,o)]) d0 d1 T W:=⟨h.b.add hg hl hn,h.t⟩
theorem KyL.rd {d:Dk} (h:KyL d0 d1 T W) (hd:RdD W W.heap.size d0 d1 d) {t:KyE} (ht:t∈T) (hf:t.f=true):RdD W W.heap.size (.slice t.R.A5 t.R.m5 t.R.k5) (.slice t.R.A6 t.R.m6 t.R.k6) (if t.e=0 then t.D else d):=by
 by_cases h0:t.e=0
 ·rw[if_pos h0];exact((h t ht).1 h0).1
 ·rw[if_neg h0];have:=(h t ht).2 hf h0;unfold DkR.ls at this;injection this with e1 this;injection this with e2 _;rw[e1,e2];exact hd
end
theorem Bt.wr {w W:World} {L:List (Nat×Obj)} {d0 d1:Value} {T:List KyE} (h:Bt w L d0 d1 T W) {i g:Nat} {o o':Obj} {cs:Array Value} {t:TypeId} (hi:L[i]?=some (g,o)) (ho:o=.cells cs t (0,0)) (j:Nat) (l:List Value) (hl:j+l.length<=cs.size) (hs:cs.size<=30) (ho':o'=.cells (cs.toList.take j++l++cs.toList.drop (j+l.length)).toArray t (0,0)):Bt w (L.set i (g,o')) d0 d1 T (xU g j l W):=by
 subst ho ho';exact h.part hi j l hl hs
abbrev kyB (h g3 g3' g5 g5' g7 g7' g9 g10 qF g12 qE g14 g15 g16 g17:Nat) (od os ow oa ob ou oc ov om on p q r k l o:Obj):List (Nat×Obj):=
 [(h,od),(h+1,os),(h+1+1,ow),(g3,oa),(g3',os),(g5,ob),(g5',ou),(g7,oc),(g7',ov),(g9,p),(g10,om),(qF,q),(g12,on),(qE,r),(g14,os),(g15,k),(g16,l),(g17,o)]
structure Tri (w8:World) (so:Obj) (L:Nat->Bool) (α:Nat->Value) (W:World):Prop where
 b:ψ w8 W
 n:∀j,j<3->L (3+j)=true->∃g,α (3+j)=.pointer (some ⟨g,0,none⟩)/\w8.heap.size<=g/\W.heap[g]?=some (if L (6+j) then so else xHu)
 f:∀j,j<3->L (6+j)=true->L (3+j)=true
 d:∀i j,i<3->j<3->i≠j->L (3+i)=true->L (3+j)=true->α (3+i)≠α (3+j)
section
variable {w8 W:World} {so:Obj} {L L':Nat->Bool} {α α':Nat->Value}
theorem Tri.congr (h:Tri w8 so L α W) (hl:∀i,3<=i->i<9->L i=L' i) (ha:∀i,3<=i->i<6->L i=true->α i=α' i):Tri w8 so L' α' W:=by
 refine⟨h.b,λj hj e=>?_,λj hj e=>?_,λi j hi hj hne e1 e2=>?_⟩
 ·have e:=(hl (3+j) ω ω).trans e;rw[<-ha (3+j) ω ω e,<-hl (6+j) ω ω];exact h.n j hj e
 ·rw[<-hl (3+j) ω ω];exact h.f j hj ((hl (6+j) ω ω).trans e)
 ·have e1:=(hl (3+i) ω ω).trans e1;have e2:=(hl (3+j) ω ω).trans e2;rw[<-ha (3+i) ω ω e1,<-ha (3+j) ω ω e2];exact h.d i j hi hj hne e1 e2
theorem Tri.new (h:Tri w8 so L α W) {i j:Nat} (hj:j<3) (hi:i=3+j) (hs:L (6+j)=false):Tri w8 so (λn=>n==i||L n) (RG.wO α i (.pointer (some ⟨W.heap.size,0,none⟩))) (W.alloc xHu):=by
 subst hi
 have hlt:∀k g,k<3->k≠j->L (3+k)=true->α (3+k)=.pointer (some ⟨g,0,none⟩)->g<W.heap.size:=λk g hk hne e hg=>by
  obtain⟨g',q1,q2,q3⟩:=h.n k hk e;rw[q1] at hg;injection hg with hg;injection hg with hg;injection hg with hg;subst hg;exact xH q3
 refine⟨h.b.alloc h.b.size _,λk hk e=>?_,λk hk e=>?_,λk l hk hl hne e1 e2=>?_⟩
 ·by_cases e2:k=j
  ·subst e2;exact⟨W.heap.size,RG.uV _ _ _,h.b.size,by rw[show(6+k==3+k||L (6+k))=false from by rw[hs,Bool.or_false];simp,if_neg σ];exact xM _ _⟩
  ·rw[CJ.yG ω] at e;obtain⟨g,q1,q2,q3⟩:=h.n k hk e;refine⟨g,by rw[RG.zS _ _ _ ω];exact q1,q2,?_⟩;rw[show(6+k==3+j||L (6+k))=L (6+k) from by rw[show(6+k==3+j)=false from by simp;omega,Bool.false_or]];exact xO q3 _
 ·rw[CJ.yG ω] at e;have:=h.f k hk e;simp[this]
 ·by_cases e3:k=j
  ·subst e3;rw[CJ.yG ω] at e2;rw[RG.uV,RG.zS _ _ _ ω];obtain⟨g,q1,q2,q3⟩:=h.n l hl e2;rw[q1];intro e;injection e with e;injection e with e;injection e with e;have:=xH q3;omega
  ·by_cases e4:l=j
   ·subst e4;rw[CJ.yG ω] at e1;rw[RG.uV,RG.zS _ _ _ ω];obtain⟨g,q1,q2,q3⟩:=h.n k hk e1;rw[q1];intro e;injection e with e;injection e with e;injection e with e;have:=xH q3;omega
   ·rw[CJ.yG ω] at e1 e2;rw[RG.zS _ _ _ ω,RG.zS _ _ _ ω];exact h.d k l hk hl hne e1 e2
theorem Tri.set (h:Tri w8 so L α W) {i j:Nat} (hj:j<3) (hi:i=6+j) (h0:L i=false) (hp:L (3+j)=true) {l:List Value} (hso:so=.cells l.toArray 32) (hll:l.length=10):
  ∃g,α (3+j)=.pointer (some ⟨g,0,none⟩)/\W.heap[g]?=some xHu/\w8.heap.size<=g/\Tri w8 so (λn=>n==i||L n) α (xU g 0 l W):=by
 subst hi;obtain⟨g,q1,q2,q3⟩:=h.n j hj hp;rw[h0,if_neg σ] at q3;have hs:=uI (b:=g) (l:=l) q3 (by rw[hll];rfl);refine⟨g,q1,q3,q2,yZ q2 _ 0 _ h.b,λk hk e=>?_,λk hk e=>?_,λk m hk hm hne e1 e2=>?_⟩
 ·rw[CJ.yG ω] at e
  by_cases e2:k=j
  ·subst e2;refine⟨g,q1,q2,?_⟩;rw[show(6+k==6+k||L (6+k))=true from by simp,if_pos rfl,hso];exact hs
  ·obtain⟨g',k1,k2,k3⟩:=h.n k hk e;refine⟨g',k1,k2,?_⟩;rw[show(6+k==6+j||L (6+k))=L (6+k) from by rw[show(6+k==6+j)=false from by simp;omega,Bool.false_or]];exact yX (λe3=>h.d k j hk hj e2 e hp (by rw[k1,q1,e3])) _ 0 _ k3
 ·by_cases e2:k=j
  ·subst e2;simp[hp]
  ·rw[CJ.yG ω] at e;have:=h.f k hk e;simp[this]
 ·rw[CJ.yG ω] at e1 e2;exact h.d k m hk hm hne e1 e2
end
end Go.Proofs.IM
namespace Mailsack
def xO5 (C:List Wr) (i:Nat):Nat->Option Bs
 |0=>none
 |m+1=>if (C.getD m ⟨0,[]⟩).at_=(i:Int) then some (C.getD m ⟨0,[]⟩).data else xO5 C i m
def xJc (d:Dk) (i:Nat):Bs:=match xO5 d.cache i d.cache.length with
 |some x=>x
 |none=>d.secs.getD i []
end Mailsack
namespace Go.Proofs.VA
open Go.RowKit Mailsack MM BB SH SV RK DS IX Go.Proofs.ST
theorem xZ5 (va vb:Value) (d:Dk) (i:Nat) (w:World) (h:RdD w w.heap.size va vb d) (hr:zD d=true) (hi:i<d.secs.length):
  Calls prog 28 #[.agg #[va,vb],.int .i64 i] w λe w'=>e=.returned (.tuple #[xR (xJc d i),.int .i64 0])/\ψ w w':=by
 obtain⟨A1,c1,A2,c2,rfl,rfl⟩:=xX h;have HR:=ι (λW (hb:ψ w W)=>kD (.slice A1 d.secs.length c1) (.slice A2 d.cache.length c2) d W ((h.below hb ν).more hb.size));rw[hr] at HR
 have HD:Hid (∀W,ψ w W->RdD W w.heap.size (.slice A1 d.secs.length c1) (.slice A2 d.cache.length c2) d):=ι (λW hb=>h.below hb ν);have HE:Hid (∀x,xO5 d.cache i d.cache.length=x->xJc d i=match x with|some x=>x|none=>d.secs.getD i []):=ι (λx e=>by rw[<-e];rfl)
 generalize xJc d i=rp at HE⊢;have hi1:¬(d.secs.length<=i):=ω;have hi2:¬((d.secs.length:Int)<=(i:Int)):=ω;have hi3:¬((i:Int)<0):=ω;clear h hr;go_enter func28,ntmps28;go_upto_region 1 with fail
 have H1:=ι (And.intro (xM w (xW (.slice A1 d.secs.length c1) (.slice A2 d.cache.length c2))) (φ w (xW (.slice A1 d.secs.length c1) (.slice A2 d.cache.length c2))));obtain⟨w1,hw1⟩:∃w1,w.alloc (xW (.slice A1 d.secs.length c1) (.slice A2 d.cache.length c2))=w1:=⟨_,rfl⟩
 rw[hw1] at H1;rw[hw1];clear hw1;have hb:=H1.o.1;obtain⟨e0,e1⟩:=zG hb;clear hb;go_wp2_with fail
 refine(HR.o _ H1.o.2).mono ?_;rintro e w2 ⟨rfl,hb2⟩;have H2:=ι (And.intro (xD H1.o.1 hb2 (xH H1.o.1)) (H1.o.2.trans (hb2.mono H1.o.2.size)));clear H1 HR hb2 e0 e1;have hb:=H2.o.1;obtain⟨e0,e1⟩:=zG hb;clear hb;have hlc:d.cache.length<=1000000:=(HD.o _ H2.o.2).lc;go_wp2_with fail
 clear e0 e1
 go_loopw [6] (λiv wr=>∃m:Nat,m<=d.cache.length/\iv=.int .i64 ((m:Int)-1)/\Hid (xO5 d.cache i d.cache.length=xO5 d.cache i m/\wr.heap[w.heap.size]?=some (xW (.slice A1 d.secs.length c1) (.slice A2 d.cache.length c2))/\ψ w wr)) (λiv _=>(intOf iv+1).toNat)
 case atStart=>exact⟨_,Nat.le_refl _,rfl,ι ⟨rfl,H2.o.1,H2.o.2⟩⟩
 case round=>
  obtain⟨m,hm,rfl,HI⟩:=hrel;rcases m with _|k
  ·rw[show(((0:Nat):Int)-1)=-1 from rfl];have HE2:=ι (HE.o _ HI.o.1);simp only[xO5] at HE2
   obtain⟨b,off,rfl,hbw,hcs⟩:∃b off,A1=some ⟨b,off,none⟩/\b<w.heap.size/\wr.cell? ⟨b,off+i,none⟩=some (xR (d.secs.getD i [])):=by
    obtain⟨A,c,e1,_,h3⟩:=(HD.o _ HI.o.2.2).s;obtain⟨b,off,h4,h5,h6⟩:=h3 ω;injection e1 with e1 _ e3;subst e1 e3;exact⟨b,off,h4,h5,by rw[List.getD_eq_getElem?_getD,List.getElem?_eq_getElem hi];exact h6 i _ (List.getElem?_eq_getElem hi)⟩
   have hb:=HI.o.2.1;obtain⟨e0,e1⟩:=zG hb;have HB:=ι HI.o.2.2;clear hb HI;rw[<-HE2.o] at hcs;go_wp2;go_ret2;exact⟨rfl,HB.o⟩
  ·rw[show(((k+1:Nat):Int)-1)=(k:Int) by omega];have hx:d.cache[k]?=some d.cache[k]:=List.getElem?_eq_getElem ω;have HI3:=HI.o.1;simp only[xO5] at HI3;rw[show d.cache.getD k ⟨0,[]⟩=d.cache[k] by rw[List.getD_eq_getElem?_getD,hx];rfl] at HI3;generalize d.cache[k]=x at hx HI3
   obtain⟨b,off,rfl,hbw,hc1,hc2⟩:∃b off,A2=some ⟨b,off,none⟩/\b<w.heap.size/\wr.cell? ⟨b,off+k*2,none⟩=some (.int .i64 x.at_)/\wr.cell? ⟨b,off+k*2+1,none⟩=some (xR x.data):=by
    obtain⟨A,c,e1,_,h3⟩:=(HD.o _ HI.o.2.2).c;obtain⟨b,off,h4,h5,h6⟩:=h3 ω;injection e1 with e1 _ e3;subst e1 e3;exact⟨b,off,h4,h5,(h6 k x hx).1,(h6 k x hx).2⟩
   have hb:=HI.o.2.1;obtain⟨e0,e1⟩:=zG hb;have HB:=ι HI.o.2.2;have HBK:=ι HI.o.2.1;have hk1:k<d.cache.length:=ω;clear hb HI hx
   by_cases hxi:x.at_=(i:Int)
   ·rw[if_pos hxi] at HI3;have HE2:=ι (HE.o _ HI3);have hxe:(x.at_==(i:Int))=true:=by simpa using hxi
    have HXD:Hid (rp=x.data):=ι HE2.o;rw[<-HXD.o] at hc2;clear HE2 HXD HI3 hxi;go_wp2;go_ret2;exact⟨rfl,HB.o⟩
   ·rw[if_neg hxi] at HI3;have hxe:(x.at_==(i:Int))=false:=by simpa using hxi
    have HI4:=ι HI3;clear HI3;go_wp2;exact⟨⟨k,ω,rfl,ι ⟨HI4.o,HBK.o,HB.o⟩⟩,by simp only[intOf];omega⟩
end Go.Proofs.VA
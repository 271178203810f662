/- Contracts of functions. Conditions: as stated. -/
import Derived.Test.YtnafbinmecekeaaGreatDoorImapSearchesProofB16
import Derived.HandedShaped
import Derived.Deep.DeepHandedRow
import Derived.Lib.SmallJoins
import GoSem.ClaimGoes
open Go.Proofs.Tryz
set_option maxHeartbeats 8000000
set_option maxRecDepth 100000
namespace Go.Proofs.IM
open Go.RowKit MM BU Mailsack SV RK DS IX BK QU VB MP Go.Proofs.VA
theorem xJa (d0 d1:Value) (d:Dk) (su sp so bx f1 f2 f3 f4 f5:ByteArray) (se rd m:Int) (bv sv lv:Value) (x:zO) (o1 o2 ub:Bool) (ws:List Bs) (w:World) (hs:RdS w w.heap.size d0 d.secs) (hcw:RdW w w.heap.size d1 d.cache)
  (hx:xIn w w.heap.size bv sv x) (hm:∀b∈x.boxes,b.xU.length<=9223372036854775807) (hl:x.boxes.length<=9223372036854775807) (hl2:x.subs.length<=9223372036854775807) (hlv:RdS w w.heap.size lv ws) (hwl:ws.length<=9223372036854775807) (hwx:∀y∈ws,y.length<=9223372036854775807) (hmx:w.cell? ⟨2,0,none⟩=some (.int .i64 m)) (hT:VaT w):
  Calls prog 3 #[.agg #[d0,d1],.agg #[.string su,.string sp,.string so,.int .i64 se,bv,sv,.int .i64 x.given,.string bx,.bool o1,.bool o2],lv,.bool ub,.agg #[.string f1,.string f2,.string f3,.string f4,.string f5,.int .i64 rd]] w λe w'=>e=.returned (.bool true)/\ψ w w':=by
 have HS0:=ι (And.intro hs hcw);have HT:=ι hT;have HLV:=ι (And.intro hlv (And.intro hwl hwx));have HMX:=ι hmx;have HHE:=ι (λW (hb:ψ w W)=>xY7 su sp so bx se bv sv x o1 o2 W ((hx.below hb ν).more hb.size) hl);obtain⟨A1,c1,rfl,_,_⟩:=hs;obtain⟨A2,c2,rfl,_,_⟩:=hcw
 obtain⟨Ab,cb,rfl,_⟩:=hx.boxes;obtain⟨As,cs,rfl,_⟩:=hx.subs;obtain⟨Al,cl,rfl,_,_⟩:=id hlv;obtain⟨nb,hnb⟩:∃n,x.boxes.length=n:=⟨_,rfl⟩;obtain⟨ns,hns⟩:∃n,x.subs.length=n:=⟨_,rfl⟩;obtain⟨n1,hn1⟩:∃n,d.secs.length=n:=⟨_,rfl⟩;obtain⟨n2,hn2⟩:∃n,d.cache.length=n:=⟨_,rfl⟩
 obtain⟨nw,hnw⟩:∃n,ws.length=n:=⟨_,rfl⟩;have hx':=hx;rw[hnb,hns] at hx' HHE;have HX:=ι (And.intro hx' (And.intro hm (And.intro hl hl2)));rw[hnb,hns,hnw];rw[hnw] at HLV;rw[hn1,hn2] at HS0⊢;have HN:=ι (And.intro hn1 (And.intro hn2 hnw))
 clear hn1 hn2 hnb hns hx hx' hm hl hl2 hT hlv hwl hwx hmx hnw;have HSM:=ι (λW (hb:ψ w W)=>xLh A1 A2 n1 c1 n2 c2 su sp so bx f1 f2 f3 f4 f5 se rd (.slice Ab nb cb) (.slice As ns cs) x o1 o2 W ((HX.o.1.below hb ν).more hb.size) HX.o.2.1 HX.o.2.2.1 HX.o.2.2.2)
 have HWD:Hid (∀W,ψ w W->Calls prog 7 #[.slice Al nw cl] W λe w'=>xZw ws e/\w'=W):=ι (λW hb=>xRr _ ws W ((HLV.o.1.below hb ν).more hb.size) (by rw[HN.o.2.2];exact HLV.o.2.1) HLV.o.2.2)
 have HP0:Hid (Sb w [(w.heap.size,.cells #[.slice A1 n1 c1,.slice A2 n2 c2] 25),(w.heap.size+1,.cells #[.string su,.string sp,.string so,.int .i64 se,.slice Ab nb cb,.slice As ns cs,.int .i64 x.given,.string bx,.bool o1,.bool o2] 32),(w.heap.size+1+1,.cells #[.string f1,.string f2,.string f3,.string f4,.string f5,.int .i64 rd] 36)] _):=ι ⟨(bk3 w (.cells #[.slice A1 n1 c1,.slice A2 n2 c2] 25) (.cells #[.string su,.string sp,.string so,.int .i64 se,.slice Ab nb cb,.slice As ns cs,.int .i64 x.given,.string bx,.bool o1,.bool o2] 32) (.cells #[.string f1,.string f2,.string f3,.string f4,.string f5,.int .i64 rd] 36)).k,(bk3 w (.cells #[.slice A1 n1 c1,.slice A2 n2 c2] 25) (.cells #[.string su,.string sp,.string so,.int .i64 se,.slice Ab nb cb,.slice As ns cs,.int .i64 x.given,.string bx,.bool o1,.bool o2] 32) (.cells #[.string f1,.string f2,.string f3,.string f4,.string f5,.int .i64 rd] 36)).bel⟩
 obtain⟨bo,hbo⟩:∃bo,xQ9 su bx x=bo:=⟨_,rfl⟩;obtain⟨hp,hhp⟩:∃hp,xK4 su bx x=hp:=⟨_,rfl⟩;have HBO:=ι (And.intro hbo hhp);rw[hbo,hhp] at HHE;obtain⟨nm,hnm⟩:∃nm:ByteArray,(⟨bo.name.toArray⟩:ByteArray)=nm:=⟨_,rfl⟩;have HNM:=ι hnm;simp only[bxT,xK,hnm] at HHE;clear hbo hhp hnm
 have hnw:nw<=9223372036854775807:=HLV.o.2.1;go_enter func3,ntmps3;go_upto_region 1 with fail
 obtain⟨w1,hw1⟩:∃w1,((w.alloc (.cells #[.slice A1 n1 c1,.slice A2 n2 c2] 25)).alloc (.cells #[.string su,.string sp,.string so,.int .i64 se,.slice Ab nb cb,.slice As ns cs,.int .i64 x.given,.string bx,.bool o1,.bool o2] 32)).alloc (.cells #[.string f1,.string f2,.string f3,.string f4,.string f5,.int .i64 rd] 36)=w1:=⟨_,rfl⟩
 rw[hw1] at HP0;rw[hw1];clear hw1;obtain⟨s0,s1,s2,s3,s4,s5,s6,s7,s8,s9⟩:=pX (HP0.o.k 1 _ rfl);go_wp2_with fail
 refine(HHE.o _ HP0.o.bel).mono ?_;rintro e w2 ⟨mv,rfl,hmm,hb2⟩;obtain⟨Am,cm,rfl,_,_⟩:=id hmm;have HP2:=ι ((HP0.o.below hb2).new (.cells #[.string nm,.int .i64 bo.validity,.int .i64 bo.next,.slice Am bo.xU.length cm] 39))
 have HMM:=ι ((hmm.below (φ w2 (.cells #[.string nm,.int .i64 bo.validity,.int .i64 bo.next,.slice Am bo.xU.length cm] 39)) ν).more (φ w2 (.cells #[.string nm,.int .i64 bo.validity,.int .i64 bo.next,.slice Am bo.xU.length cm] 39)).size)
 simp only[List.cons_append,List.nil_append] at HP2;clear s0 s1 s2 s3 s4 s5 s6 s7 s8 s9 hb2 hmm HP0 HHE;go_upto_region 2 with fail
 obtain⟨w3,hw3⟩:∃w3,w2.alloc (.cells #[.string nm,.int .i64 bo.validity,.int .i64 bo.next,.slice Am bo.xU.length cm] 39)=w3:=⟨_,rfl⟩;rw[hw3] at HP2 HMM⊢;clear hw3;generalize w2.heap.size=g11 at HP2⊢;have HPR:=HP2;clear HP2;obtain⟨d0,d1⟩:=xFa (HPR.o.k 0 _ rfl)
 obtain⟨s0,s1,s2,s3,s4,s5,s6,s7,s8,s9⟩:=pX (HPR.o.k 1 _ rfl);obtain⟨r0,r1,r2,r3,r4,r5⟩:=cbl6 (HPR.o.k 2 _ rfl);go_wp2_with fail
 refine(HSM.o _ HPR.o.bel).mono ?_;rintro e w4 ⟨⟨r,rfl,hr⟩,hb4⟩;have HP4:=ι (HPR.o.below hb4);have HM4:=ι ((HMM.o.below hb4 ν).more hb4.size);have HR:=ι hr;clear d0 d1 s0 s1 s2 s3 s4 s5 s6 s7 s8 s9 r0 r1 r2 r3 r4 r5 hb4 hr HSM HPR HMM;have HPR:=HP4;clear HP4;cases r with
 |false=>
  go_wp2_with fail
  refine(qF _).mono ?_;rintro e w9 ⟨rfl,hb9⟩;have HB:=ι (HPR.o.bel.trans (hb9.mono HPR.o.bel.size));clear hb9;go_wp2;go_ret;exact⟨rfl,HB.o⟩
 |true=>
  have HBD:=ι (HR.o rfl);clear HR;go_wp2_with fail
  refine(HWD.o _ HPR.o.bel).mono ?_;rintro e w5 ⟨⟨r,rfl,hr⟩,hw5⟩;subst hw5;have HR:=ι hr;clear hr HWD;cases r with
  |false=>
   go_wp2_with fail
   refine(qF _).mono ?_;rintro e w9 ⟨rfl,hb9⟩;have HB:=ι (HPR.o.bel.trans (hb9.mono HPR.o.bel.size));clear hb9;go_wp2;go_ret;exact⟨rfl,HB.o⟩
  |true=>
   by_cases h10:(10:Int)<(nw:Int)
   case pos=>
    go_wp2_with fail
    refine(qF _).mono ?_;rintro e w9 ⟨rfl,hb9⟩;have HB:=ι (HPR.o.bel.trans (hb9.mono HPR.o.bel.size));clear hb9;go_wp2;go_ret;exact⟨rfl,HB.o⟩
   case neg=>
    cases hp with
    |false=>
     go_wp2_with fail
     refine(qF _).mono ?_;rintro e w9 ⟨rfl,hb9⟩;have HB:=ι (HPR.o.bel.trans (hb9.mono HPR.o.bel.size));clear hb9;go_wp2;go_ret;exact⟨rfl,HB.o⟩
    |true=>
     have HD:Hid (RdD w w.heap.size (.slice A1 n1 c1) (.slice A2 n2 c2) d):=ι ⟨HS0.o.1,HS0.o.2,by rw[HN.o.1];have:=HBD.o.1;omega,by rw[HN.o.2.1];have:=HBD.o.2.1;omega⟩;have hh:=HBO.o.2;simp only[xK4,Bool.and_eq_true,Bool.not_eq_true',decide_eq_true_eq] at hh
     obtain⟨⟨hsu,hbx⟩,hfi⟩:=hh;have hir:=HBD.o.2.2.2 hsu;have hsz:su.size<=1000:=by have:=HBD.o.2.2.1;omega
     have HWO:=ι (HR.o rfl)
     have hboo:bo=xWb x bx.data.toList:=by
      rw[<-HBO.o.1];unfold xQ9;rw[HBO.o.2,if_pos rfl]
     have HMQ:Hid (zF x bx.data.toList=bo.xU):=ι (by rw[hboo];rfl);have HRM:=ι (xEi hir bx.data.toList);rw[HMQ.o] at HRM;have hL30:=HRM.o.1;have h10n:nw<=10:=ω;have hws10:ws.length<=10:=by rw[HN.o.2.2];exact h10n
     have HTXL:=ι (xN1 d su sp so se bo.xU);obtain⟨bt,hbt⟩:∃bt:ByteArray,(if ub=true then(⟨#[85,73,68,32]⟩:ByteArray) else⟨#[]⟩)=bt:=⟨_,rfl⟩;have HBY:=ι (λW=>by_any ub W);rw[hbt] at HBY;have hbsz:bt.size<=4:=by rw[<-hbt];split<;>decide
     have HT1:Hid ((bt++(⟨#[83,69,65,82,67,72]⟩:ByteArray)).data.toList=(if ub=true then[85,73,68,32] else[])++[83,69,65,82,67,72]):=ι (by rw[<-hbt,ByteArray.data_append,Array.toList_append];cases ub<;>rfl)
     obtain⟨ln,hln⟩:∃ln:ByteArray,(⟨(vI ([116]::(if ub=true then[85,73,68]::[83,69,65,82,67,72]::ws else[83,69,65,82,67,72]::ws))).toArray⟩:ByteArray)=ln:=⟨_,rfl⟩
     obtain⟨tb,htb⟩:∃tb:ByteArray,(⟨(yAr ub (zW ws) (xIq d su sp so se bo.xU) bo.xU (xG2 d su sp so se bo.xU)).toArray⟩:ByteArray)=tb:=⟨_,rfl⟩
     have HDO:Hid (∀W,ψ w W->Calls prog 9 #[.agg #[.slice A1 n1 c1,.slice A2 n2 c2],.agg #[.string su,.string sp,.string so,.int .i64 se,.slice Ab nb cb,.slice As ns cs,.int .i64 x.given,.string bx,.bool o1,.bool o2],.string ln,.agg #[.string f1,.string f2,.string f3,.string f4,.string f5,.int .i64 rd]] W λe w'=>e=.returned (.tuple #[.agg #[.slice A1 n1 c1,.slice A2 n2 c2],.agg #[.string su,.string sp,.string so,.int .i64 se,.slice Ab nb cb,.slice As ns cs,.int .i64 x.given,.string bx,.bool o1,.bool o2],.string tb])/\ψ W w'):=ι (λW hb=>by
      have hq:=xV3 ub (.slice A1 n1 c1) (.slice A2 n2 c2) (.slice Ab nb cb) (.slice As ns cs) su sp so bx f1 f2 f3 f4 f5 se rd m x o1 o2 d ws W ((HD.o.below hb ν).more hb.size) ((HX.o.1.below hb ν).more hb.size) hir hsu hbx HWO.o hws10 hsz ((hb.cell (p:=⟨2,0,none⟩) (World.block_lt_of_cell? w _ HMX.o)).trans HMX.o) (HT.o.below hb)
      rw[HMQ.o] at hq;rw[<-hln,<-htb];exact hq.mono (λe w' h=>se_of h))
     have HJN:Hid (∀W v,ψ w W->RdR 1 txF W W.heap.size v ([[116],(bt++(⟨#[83,69,65,82,67,72]⟩:ByteArray)).data.toList]++ws)->Calls prog 10 #[v,.string ⟨#[32]⟩] W λe w'=>e=.returned (.string ln)/\ψ W w'):=ι (λW v hb hv=>by
      rw[HT1.o] at hv
      have hx60:∀y∈([[116],(if ub=true then[85,73,68,32] else[])++[83,69,65,82,67,72]]++ws:List Bs),y.length<=60:=by
       intro y hy;simp only[List.cons_append,List.nil_append,List.mem_cons] at hy;rcases hy with rfl|rfl|hy
       ·decide
       ·cases ub<;>decide
       ·exact(HWO.o y hy).2.2
      have hlen:([[116],(if ub=true then[85,73,68,32] else[])++[83,69,65,82,67,72]]++ws:List Bs).length<=12:=by simp;omega
      have hq:=xSt v _ [32] W (xDi hv) (λy hy=>by have:=hx60 y hy;omega) δ ω (λk hk=>by have:=xGu _ hx60 k;omega);rw[xEs] at hq;rw[<-hln,<-xLn];exact hq)
     have HPA:Hid (∀W,ψ w W->Calls prog 12 #[.slice Al nw cl] W (yCh W (zW ws))):=ι (λW hb=>xBs _ ws m W ((HLV.o.1.below hb ν).more hb.size) ⟨ω,λy hy=>by have:=(HWO.o y hy).2.2;omega⟩ ((hb.cell (p:=⟨2,0,none⟩) (World.block_lt_of_cell? w _ HMX.o)).trans HMX.o))
     have HTX:Hid (∀W n,ψ w W->-9223372036854775808<=n/\n<=9223372036854775807->Calls prog 15 #[.agg #[.slice A1 n1 c1,.slice A2 n2 c2],.agg #[.string su,.string sp,.string so,.int .i64 se,.slice Ab nb cb,.slice As ns cs,.int .i64 x.given],.int .i64 n] W λe w'=>e=.returned (.tuple #[.string (kN d su sp so se n),.int .i64 (xGk d su sp so se n)])/\ψ W w'):=ι (λW n hb hn=>xBi (.slice A1 n1 c1) (.slice A2 n2 c2) d su sp so se x.given n Ab As nb cb ns cs W ((HD.o.below hb ν).more hb.size) ω hn (HT.o.below hb))
     have HNU:Hid (∀W,ψ w5 W->Calls prog 18 #[.agg #[.string nm,.int .i64 bo.validity,.int .i64 bo.next,.slice Am bo.xU.length cm],.bool ub] W λe w'=>∃v,e=.returned v/\zP 3 1 xRa w' W.heap.size v ((List.range bo.xU.length).map (vH ub bo.xU))/\ψ W w'):=ι (λW hb=>by
      have hq:=xLw ub bo (.slice Am bo.xU.length cm) W ((HM4.o.below hb ν).more hb.size) hL30;simp only[bxT,xK,HNM.o] at hq;exact hq)
     have yCs:Hid (∀W,ψ w W->Calls prog 13 #[.agg #[.slice A1 n1 c1,.slice A2 n2 c2],.agg #[.slice A1 n1 c1,.slice A2 n2 c2]] W λe w'=>e=.returned (.bool true)/\ψ W w'):=ι (λW hb=>xPf _ _ _ _ d W ((HD.o.below hb ν).more hb.size) ((HD.o.below hb ν).more hb.size))
     have HEQ:Hid (∀W,ψ w W->Calls prog 14 #[.agg #[.string su,.string sp,.string so,.int .i64 se,.slice Ab nb cb,.slice As ns cs,.int .i64 x.given,.string bx,.bool o1,.bool o2],.agg #[.string su,.string sp,.string so,.int .i64 se,.slice Ab nb cb,.slice As ns cs,.int .i64 x.given,.string bx,.bool o1,.bool o2]] W λe w'=>e=.returned (.bool true)/\ψ W w'):=ι (λW hb=>xUx su sp so bx se (.slice Ab nb cb) (.slice As ns cs) (.slice Ab nb cb) (.slice As ns cs) x o1 o2 W ((HX.o.1.below hb ν).more hb.size) ((HX.o.1.below hb ν).more hb.size) HX.o.2.1 HX.o.2.2.1 HX.o.2.2.2)
     have HTB:=ι htb;have big4:¬9223372036854775807<bt.size+6:=ω;have HLT:Hid ((xG2 d su sp so se bo.xU).length=bo.xU.length):=ι (by simp[xG2]);have HOP:Hid (xIq d su sp so se bo.xU=bo.xU.all λm=>decide (xGk d su sp so se m.object=0)):=ι rfl
     have HTP:Hid (∀(k:Nat) m,bo.xU[k]?=some m->(xG2 d su sp so se bo.xU)[k]?=some (kN d su sp so se m.object).data.toList):=ι (λk m h=>by unfold xG2;rw[List.getElem?_map,h];rfl);have HQL:Hid (∀K,zW ws=some K->K.length<=1000000):=ι (λK h=>by have:=xGd h;omega)
     have HLVW:=ι (tx_of HLV.o.1);generalize zW ws=qp at HPA HTB HQL;generalize xG2 d su sp so se bo.xU=tx at HTB HLT HTP HTXL;generalize xIq d su sp so se bo.xU=op at HTB HOP;clear hbt hln htb hboo hsu hbx hfi hir hsz HBD HR HWO HBO HMQ HNM HX HS0 HT HD
     generalize bo.xU=L at HPR HM4 HNU HTB HLT HTP HTXL HOP HRM hL30⊢;generalize bo.validity=vl at HPR HNU⊢;generalize bo.next=nx at HPR HNU⊢;obtain⟨ml,hml⟩:∃n,L.length=n:=⟨_,rfl⟩;have HML:=ι hml;rw[hml] at HPR HNU hL30 HM4⊢;clear hml;obtain⟨w6,hw6⟩:∃w6,w6=w5:=⟨_,rfl⟩
     rw[<-hw6] at HPR HNU HM4⊢;clear hw6;have hwt:=λW (hb:ψ w6 W)=>HPR.o.far hb;have HFA:=ι hwt;clear hwt;have HRD:=ι (λW (hb:ψ w6 W)=>((HLVW.o.below (HPR.o.bel.trans (hb.mono HPR.o.bel.size)) ν).more (HPR.o.bel.trans (hb.mono HPR.o.bel.size)).size))
     go_upto_region 4 with fail
     refine RG.qR [8,17,18] [5,7,15,16] (λL α W=>Hid (SeJ w6 [[116],(bt++(⟨#[83,69,65,82,67,72]⟩:ByteArray)).data.toList] ws [.slice A1 n1 c1,.slice A2 n2 c2] [.string su,.string sp,.string so,.int .i64 se,.slice Ab nb cb,.slice As ns cs,.int .i64 x.given,.string bx,.bool o1,.bool o2] L α W)) (λL L' α α' W hl ha h=>ι (h.o.congr (λi hi=>hl i (by simp;omega)) (λi hi=>ha i (by simp;omega)))) κ κ κ (ι ⟨(Below.refl _ _).drew,λe=>(by cases e),λe=>(by cases e),λe=>(by cases e),λe=>(by cases e)⟩) ?_
     refine RG.vF (λα L w9 h0 hcl xP hw9=>have hb:=(HFA.o _ hw9.o.b).k 0 _ rfl;xFa hb) ?_;refine RG.vF (λα L w9 h0 hcl xP hw9=>have hb:=(HFA.o _ hw9.o.b).k 1 _ rfl;pX hb) ?_;refine RG.vS ?_;apply RG.qZ (v:=.string bt)
     ·rfl
     ·rfl
     ·intro α L w9 h0 hcl xP hw9;repeat go_step
      refine(HBY.o w9).mono ?_;rintro e w10 ⟨rfl,rfl⟩;simp only[];repeat go_step
      exact RG.xB hw9
     ·intro α;rfl
     refine RG.vS ?_;apply RG.xH9
     ·rfl
     ·intro α L w9 h0 hcl xP hw9;have e7:L 7=false:=hcl.not 30 (i:=7) h0 κ;refine⟨.slice (some ⟨w9.heap.size,0,none⟩) 2 2,λbv hbv=>?_⟩;have HJ:=ι (hw9.o.lit e7);rw[xJ8 (bt++(⟨#[83,69,65,82,67,72]⟩:ByteArray)),show xK [116]=.string ⟨#[116]⟩ from rfl,<-hbv] at HJ;clear hw9
      repeat go_step
      rw[<-hbv];refine RG.xB ?_;exact HJ
     ·intro b α;rfl
     refine RG.vS ?_;apply RG.xBb
     ·rfl
     ·intro α L w9 h0 hcl xP hw9
      have f5:L 5=true:=by
       have:=xP.yes 30 (i:=7) (j:=5) σ κ;simpa using this
      obtain⟨gs,n1',n2',n3'⟩:=hw9.o.app f5 h0;have hsz9:=hw9.o.b.size;refine kW tyTx rfl _ _ rfl n1' rfl n2' (HRD.o _ hw9.o.b) (by simp;omega) hsz9 ?_;intro v' w10 h8;exact⟨rfl,_,rfl,ι (n3' v' w10 h8)⟩
     ·intro b α;rfl
     apply RG.xDg (v:=.string ln)
     ·rfl
     ·rfl
     ·intro α L w9 h0 hcl xP hw9
      have f7:L 7=true:=by
       have:=xP.yes 30 (i:=8) (j:=7) σ κ;simpa using this
      have hrd:=hw9.o.p f7 h0;have hbw:=HPR.o.bel.trans (hw9.o.b.mono HPR.o.bel.size);repeat go_step
      refine(HJN.o w9 (α 7) hbw hrd).mono ?_;rintro e w10 ⟨rfl,hb⟩;have HJ:=ι (hw9.o.joined hb);clear hw9 hrd hbw hb;simp only[];repeat go_step
      refine RG.xB ?_;exact HJ
     ·intro α;rfl
     refine RG.vF (λα L w9 h0 hcl xP hw9=>have hb:=(HFA.o _ hw9.o.b).k 2 _ rfl;cbl6 hb) ?_
     apply RG.qZ (v:=.tuple #[.agg #[.slice A1 n1 c1,.slice A2 n2 c2],.agg #[.string su,.string sp,.string so,.int .i64 se,.slice Ab nb cb,.slice As ns cs,.int .i64 x.given,.string bx,.bool o1,.bool o2],.string tb])
     ·rfl
     ·rfl
     ·intro α L w9 h0 hcl xP hw9;have hbw:=HPR.o.bel.trans (hw9.o.b.mono HPR.o.bel.size);repeat go_step
      refine(HDO.o w9 hbw).mono ?_;rintro e w10 ⟨rfl,hb⟩;have HJ:=ι (hw9.o.below hb);clear hw9 hbw hb;simp only[];repeat go_step
      refine RG.xB ?_;exact HJ
     ·intro α;rfl
     iterate 4 refine RG.vS ?_
     apply RG.xH9
     ·rfl
     ·intro α L w9 h0 hcl xP hw9;have e17:L 17=false:=hcl.not 30 (i:=17) h0 κ;refine⟨.pointer (some ⟨w9.heap.size,0,none⟩),λbv hbv=>?_⟩;have HJ:=ι (hw9.o.newd e17);rw[<-hbv] at HJ;clear hw9;repeat go_step
      rw[<-hbv];refine RG.xB ?_;exact HJ
     ·intro b α;rfl
     apply RG.xH9
     ·rfl
     ·intro α L w9 h0 hcl xP hw9;have e18:L 18=false:=hcl.not 30 (i:=18) h0 κ;refine⟨.pointer (some ⟨w9.heap.size,0,none⟩),λbv hbv=>?_⟩;have HJ:=ι (hw9.o.newt e18);rw[<-hbv] at HJ;clear hw9;repeat go_step
      rw[<-hbv];refine RG.xB ?_;exact HJ
     ·intro b α;rfl
     apply RG.xDg (v:=undef)
     ·rfl
     ·rfl
     ·intro α L w9 h0 hcl xP hw9
      have f15:L 15=true:=by
       have:=xP.yes 30 (i:=17) (j:=15) σ κ;simpa using this
      have f7:L 7=true:=by
       have:=xP.yes 30 (i:=17) (j:=7) σ κ;simpa using this
      have f8:L 8=true:=by
       have:=xP.yes 30 (i:=17) (j:=8) σ κ;simpa using this
      obtain⟨g,q1,hx,q3⟩:=hw9.o.setd h0 f15 f7 f8 rfl;have N1:Hid (α 15=.pointer (some ⟨g,0,none⟩)):=ι q1;simp only[yX,Nat.reduceAdd] at q3;have HJ:=ι q3;have hx2:w9.heap[g]?=some (.cells #[.slice none 0 0,.slice none 0 0] 25 (0,0)):=hx;have j0:=xA hx2 0;have j1:=xA hx2 1
      have y0:=xD hx2 0;have y1:=xD hx2 1;simp only[gA,gB,gC] at j0 j1;rw[show α (0+1+1+1+1+1+1+1+1+1+1+1+1+1+1+1)=_ from N1.o];clear hx hx2 q1 q3 hw9;repeat go_step
      rw[<-show α (0+1+1+1+1+1+1+1+1+1+1+1+1+1+1+1)=_ from N1.o];refine RG.xB ?_;exact HJ
     ·intro α;rfl
     apply RG.xDg (v:=undef)
     ·rfl
     ·rfl
     ·intro α L w9 h0 hcl xP hw9
      have f16:L 16=true:=by
       have:=xP.yes 30 (i:=18) (j:=16) σ κ;simpa using this
      have f7:L 7=true:=by
       have:=xP.yes 30 (i:=18) (j:=7) σ κ;simpa using this
      have f8:L 8=true:=by
       have:=xP.yes 30 (i:=18) (j:=8) σ κ;simpa using this
      obtain⟨g,q1,hx,q3⟩:=hw9.o.sett h0 f16 f7 f8 rfl;have N1:Hid (α 16=.pointer (some ⟨g,0,none⟩)):=ι q1;simp only[yX,Nat.reduceAdd] at q3;have HJ:=ι q3
      have hx2:w9.heap[g]?=some (.cells #[.string ⟨#[]⟩,.string ⟨#[]⟩,.string ⟨#[]⟩,.int .i64 0,.slice none 0 0,.slice none 0 0,.int .i64 0,.string ⟨#[]⟩,.bool false,.bool false] 32 (0,0)):=hx;obtain⟨j0,j1,j2,j3,j4,j5,j6,j7,j8,j9⟩:=pX hx2;have y0:=xD hx2 0;have y1:=xD hx2 1
      have y2:=xD hx2 2;have y3:=xD hx2 3;have y4:=xD hx2 4;have y5:=xD hx2 5;have y6:=xD hx2 6;have y7:=xD hx2 7;have y8:=xD hx2 8;have y9:=xD hx2 9;rw[show α (0+1+1+1+1+1+1+1+1+1+1+1+1+1+1+1+1)=_ from N1.o];clear hx hx2 q1 q3 hw9;repeat go_step
      rw[<-show α (0+1+1+1+1+1+1+1+1+1+1+1+1+1+1+1+1)=_ from N1.o];refine RG.xB ?_;exact HJ
     ·intro α;rfl
     refine RG.vS ?_;refine RG.xL0 (λα w7 hw7=>?_);obtain⟨g13,q1,_,q3⟩:=hw7.o.d rfl;obtain⟨g14,q4,_,q6⟩:=hw7.o.t rfl;rw[if_pos rfl] at q3 q6;have HPS:=ι (((HFA.o _ hw7.o.b).add q3).add q6);simp only[List.cons_append,List.nil_append] at HPS
     have HNU7:=ι (λW (hb:ψ w7 W)=>HNU.o W (hw7.o.b.trans (hb.mono hw7.o.b.size)));have HM7:=ι ((HM4.o.below hw7.o.b ν).more hw7.o.b.size)
     try simp only[Nat.zero_add,Nat.reduceAdd]
     rw[show α 15=_ from q1,show α 16=_ from q4];generalize α 5=va5;generalize α 7=va7;clear q1 q3 q4 q6 hw7 HNU HM4 HFA HRD HJN HDO HBY HLVW HLV HPR big4 HT1 hbsz HMX;go_wp2_with fail
     refine(HPA.o w7 HPS.o.bel).mono ?_;rintro e w8 ⟨hb8,hq⟩;have HPB:=ι (HPS.o.below hb8);have HNU8:=ι (λW (hb:ψ w8 W)=>HNU7.o W (hb8.trans (hb.mono hb8.size)));have HM8:=ι ((HM7.o.below hb8 ν).more hb8.size);clear HPA hb8 HPS HNU7 HM7;cases qp with
     |none=>
      obtain rfl:=hq;have HF:=ι (HPB.o.new (.cells #[.slice none 0 0] 51));simp only[List.cons_append,List.nil_append] at HF;have etb:(tb.toList==[116,32,66,65,68,13,10])=true:=by rw[<-HTB.o,ByteArray.toList_eq];rfl
      clear HPB HTB HNU8 HM8 HQL HTX HOP HTP HLT HTXL HRM HML;go_upto_region 6 with fail
      obtain⟨w9,hw9⟩:∃w9,w8.alloc (.cells #[.slice none 0 0] 51)=w9:=⟨_,rfl⟩;rw[hw9] at HF⊢;clear hw9;have hd:=HF.o.k 0 _ rfl;have hs:=HF.o.k 1 _ rfl;have hg:=HF.o.k 4 _ rfl;have ht:=HF.o.k 5 _ rfl;obtain⟨d0,d1⟩:=xFa hd;obtain⟨s0,s1,s2,s3,s4,s5,s6,s7,s8,s9⟩:=pX hs
      obtain⟨g0,g1⟩:=xFa hg;obtain⟨t0,t1,t2,t3,t4,t5,t6,t7,t8,t9⟩:=pX ht;clear hd hs hg ht;go_wp2_with fail
      refine(yCs.o _ HF.o.bel).mono ?_;rintro e w13 ⟨rfl,xZp⟩;have xH6:=ι (HF.o.below xZp);clear xZp d0 d1 s0 s1 s2 s3 s4 s5 s6 s7 s8 s9 g0 g1 t0 t1 t2 t3 t4 t5 t6 t7 t8 t9 HF;have hs:=xH6.o.k 1 _ rfl;have ht:=xH6.o.k 5 _ rfl;obtain⟨s0,s1,s2,s3,s4,s5,s6,s7,s8,s9⟩:=pX hs
      obtain⟨t0,t1,t2,t3,t4,t5,t6,t7,t8,t9⟩:=pX ht;clear hs ht;go_wp2_with fail
      refine(HEQ.o _ xH6.o.bel).mono ?_;rintro e w14 ⟨rfl,xZn⟩;have H14:=ι (xH6.o.bel.trans (xZn.mono xH6.o.bel.size));clear xZn s0 s1 s2 s3 s4 s5 s6 s7 s8 s9 t0 t1 t2 t3 t4 t5 t6 t7 t8 t9 xH6;go_wp2_with fail
      refine(qF _).mono ?_;rintro e w15 ⟨rfl,xZm⟩;have HB:=ι (H14.o.trans (xZm.mono H14.o.size));clear xZm H14;go_wp2;go_ret;exact⟨rfl,HB.o⟩
     |some K=>
      obtain⟨v,kvs,rfl,hk⟩:=hq;have hv1:v.oneCell'=true:=by obtain⟨A,c,rfl,_⟩:=hk.form;rfl
      have V0:=λ(W:World) (a:Addr)=>run_store prog W a v .plain hv1;have HKL:=HQL.o K rfl;have hba:=φ w8 (.cells #[v] 51);have HPQ:=ι (HPB.o.new (.cells #[v] 51));simp only[List.cons_append,List.nil_append] at HPQ;have HK:=ι (hk.below hba)
      have HNU:=ι (λW (hb:Below (w8.alloc (.cells #[v] 51)).heap.size (w8.alloc (.cells #[v] 51)) W)=>HNU8.o W (hba.trans (hb.mono hba.size)));have HM:=ι ((HM8.o.below hba ν).more hba.size);clear hk hba HPB HNU8 HM8 hv1 HQL;go_upto_region 6 with fail
      clear V0;obtain⟨w9,hw9⟩:∃w9,w8.alloc (.cells #[v] 51)=w9:=⟨_,rfl⟩;rw[hw9] at HPQ HK HNU HM⊢;clear hw9;generalize w8.heap.size=gq at HPQ⊢;obtain⟨Am',cm',eM,_,hmc⟩:=HM.o;rw[HML.o] at eM;injection eM with eM1 _ eM3;subst eM1 eM3;have HMC:=ι hmc;rw[HML.o] at HMC
      clear hmc HM;obtain⟨b0,b1,b2,b3⟩:=cbl4 (HPQ.o.k 3 _ rfl);go_wp2_with fail
      clear b0 b1 b2 b3
      go_loopw [18,89] (λtv iv wr=>∃(k:Nat) (lb:ByteArray),k<=ml/\tv=.string lb/\iv=.int .i64 k/\Hid (lb=⟨([42,32]++uY ub K L tx k).toArray⟩)/\Hid (∀m∈L.take k,xGk d su sp so se m.object=0)/\Hid (ψ w9 wr)) (λ_ iv _=>ml- (intOf iv).toNat)
      case atStart=>exact⟨0,⟨#[42,32,83,69,65,82,67,72]⟩,Nat.zero_le _,rfl,rfl,ι rfl,ι (λm hm=>by simp at hm),ι (Below.refl _ _)⟩
      case round=>
       obtain⟨k,lb,hk,rfl,rfl,HLB,HE,HI⟩:=hrel
       have hls:(uY ub K L tx k).length<=906:=by
        have:=xC1 (ub:=ub) (K:=K) (T:=tx) (λm hm=>(HRM.o.2 m hm).1) HRM.o.1 k (by rw[HML.o];exact hk);omega
       have hlb:lb.size<=908:=by
        rw[HLB.o];show([42,32]++uY ub K L tx k).length<=908;simp only[List.length_append,List.length_cons,List.length_nil];omega
       by_cases hlt:k<ml
       ·obtain⟨mm,hmm⟩:∃mm,L[k]?=some mm:=⟨_,List.getElem?_eq_getElem (by rw[HML.o];exact hlt)⟩;obtain⟨nl,hnl⟩:∃nl,ml=nl+1:=⟨ml-1,ω⟩;obtain⟨mz,hmz⟩:∃mz,L[nl]?=some mz:=⟨_,List.getElem?_eq_getElem (by rw[HML.o];omega)⟩;obtain⟨g,off,rfl,hg,hcs⟩:=HMC.o ω
        obtain⟨e0,e1,e2,e3⟩:=hcs k mm hmm;obtain⟨e4,_⟩:=hcs nl mz hmz;have htk:=HTP.o k mm hmm;have hmo:=(HRM.o.2 mm (List.mem_of_getElem? hmm)).2.1;have HTM:=ι (λW hb=>HTX.o W mm.object hb ⟨ω,ω⟩)
        have HE2:Hid (xGk d su sp so se mm.object=0->∀y∈L.take (k+1),xGk d su sp so se y.object=0):=ι (λh0 y hy=>by
         rw[List.take_add_one,hmm] at hy;rcases List.mem_append.1 hy with hy|hy
         ·exact HE.o y hy
         ·simp only[Option.toList_some,List.mem_singleton] at hy;rw[hy];exact h0)
        have HNO:Hid (xGk d su sp so se mm.object≠0->op=false):=ι (λh0=>by
         rw[HOP.o];exact List.all_eq_false.2 ⟨mm,List.mem_of_getElem? hmm,by simpa using h0⟩)
        have HV:Hid (rH L tx k=⟨(k:Int)+1,mm.uid,mm.flags,mm.size,(kN d su sp so se mm.object).data.toList,ml,mz.uid⟩):=ι (by
         unfold rH;simp only[List.getD_eq_getElem?_getD,hmm,htk,HML.o,hnl,Nat.add_sub_cancel,hmz,Option.getD_some])
        have HGV:Hid (xKq (rH L tx k)):=ι (by
         rw[HV.o];exact⟨(HRM.o.2 mm (List.mem_of_getElem? hmm)).2.2.1,(HRM.o.2 mm (List.mem_of_getElem? hmm)).2.2.2,HTXL.o _ (List.mem_of_getElem? htk)⟩)
        have HLS:Hid (uY ub K L tx (k+1)=if xVv K (rH L tx k)=true then uY ub K L tx k++([32]++Lib.itoa (vH ub L k)) else uY ub K L tx k):=ι rfl
        have HHO:Hid (∀W2,ψ w9 W2->Calls prog 16 #[.agg #[v],uL (rH L tx k)] W2 λe W'=>e=.returned (.bool (xVv K (rH L tx k)))/\ψ W2 W'):=ι (λW2 hb=>xK3 _ v kvs K (rH L tx k) W2 HGV.o (HK.o.below hb) HKL);obtain⟨hit,hhit⟩:∃h,xVv K (rH L tx k)=h:=⟨_,rfl⟩
        rw[hhit] at HHO HLS;rw[HV.o] at HHO;have hnm:=xLy (ub:=ub) (λm hm=>(HRM.o.2 m hm).1) HRM.o.1 (i:=k) (by rw[HML.o];exact hlt)
        have HNK:Hid (((List.range ml).map (vH ub L)).length=ml/\((List.range ml).map (vH ub L))[k]?=some (vH ub L k)):=ι ⟨by rw[List.length_map,List.length_range],by rw[List.getElem?_map,List.getElem?_range hlt];rfl⟩;have HIT:=ι (λW=>yB4 (vH ub L k) W hnm.1 hnm.2)
        have hdl:(⟨(Lib.itoa (vH ub L k)).toArray⟩:ByteArray).size<=100:=by
         have:=Lib.itoa_length_le (vH ub L k) ω ω;show(Lib.itoa (vH ub L k)).length<=100;omega
        generalize (List.range ml).map (vH ub L)=NL at HNU HNK;generalize vH ub L k=nk at HNK HIT HLS hdl;obtain⟨db,hdb⟩:∃db:ByteArray,(⟨(Lib.itoa nk).toArray⟩:ByteArray)=db:=⟨_,rfl⟩;simp only[xK,hdb] at HIT;rw[hdb] at hdl;have HDB:=ι hdb
        generalize xGk d su sp so se mm.object=me at HTM HE2 HNO;have eM:xK (kN d su sp so se mm.object).data.toList=.string (kN d su sp so se mm.object):=xJ8 _;simp only[uL] at HHO;rw[eM] at HHO;clear eM htk HV HGV;generalize kN d su sp so se mm.object=mt at HTM HHO
        have q0:=(HI.o.cell (p:=⟨g,off+k*4,none⟩) hg).trans e0;have q1:=(HI.o.cell (p:=⟨g,off+k*4+1,none⟩) hg).trans e1;have q2:=(HI.o.cell (p:=⟨g,off+k*4+2,none⟩) hg).trans e2;have q3:=(HI.o.cell (p:=⟨g,off+k*4+3,none⟩) hg).trans e3
        have hal:=φ wr (.cells #[.int .i64 mm.uid,.int .i64 mm.flags,.int .i64 mm.object,.int .i64 mm.size] 58);have HA:=ι (And.intro (HI.o.trans (hal.mono HI.o.size)) (xI wr (.cells #[.int .i64 mm.uid,.int .i64 mm.flags,.int .i64 mm.object,.int .i64 mm.size] 58)))
        have HG:=ι (And.intro hg e4);have hm1:(ml:Int)-1=(nl:Int):=ω;have hnlt:nl<ml:=ω;clear hmm hmz hcs e0 e1 e2 e3 e4 HI hal hhit hdb hnm hg HMC HTP HTX hmo HE hnl hls;go_upto_region 12 with fail
        clear q0 q1 q2 q3;obtain⟨g9,hg9⟩:∃g,wr.heap.size=g:=⟨_,rfl⟩;obtain⟨wa,hwa⟩:∃w6,wr.alloc (.cells #[.int .i64 mm.uid,.int .i64 mm.flags,.int .i64 mm.object,.int .i64 mm.size] 58)=w6:=⟨_,rfl⟩;rw[hwa] at HA⊢;rw[hg9] at HA⊢;clear hwa hg9;have HPA:=ι (HPQ.o.far HA.o.1)
        obtain⟨d0,d1⟩:=xFa (HPA.o.k 0 _ rfl);obtain⟨s0,s1,s2,s3,s4,s5,s6,s7,s8,s9⟩:=pX (HPA.o.k 1 _ rfl);have hz:=HA.o.2;obtain⟨y0,y1,y2,y3⟩:=cbl4 hz;clear hz;go_wp2_with fail
        refine(HTM.o _ HPA.o.bel).mono ?_;rintro e wb ⟨rfl,hbb⟩;have HPB:=ι (HPA.o.below hbb);have HB:=ι (And.intro (HA.o.1.trans (hbb.mono HA.o.1.size)) (xC HA.o.2 hbb (xJ HA.o.2)));clear d0 d1 s0 s1 s2 s3 s4 s5 s6 s7 s8 s9 y0 y1 y2 y3 hbb HPA HA HTM
        by_cases hme:me=0
        case neg=>
         have hop:=HNO.o hme;subst hop;have etb:(tb.toList==[116,32,78,79,13,10])=true:=by rw[<-HTB.o,ByteArray.toList_eq];rfl
         have i1:(me==0)=false:=by simpa using hme
         have HF:=HPB;clear HPB HB HTB HNO HE2 HNU HHO HIT HLS HLB HNK HOP HLT HTXL HRM HML HK HDB HG HPQ;have hd:=HF.o.k 0 _ rfl;have hs:=HF.o.k 1 _ rfl;have hg:=HF.o.k 4 _ rfl;have ht:=HF.o.k 5 _ rfl;obtain⟨d0,d1⟩:=xFa hd;obtain⟨s0,s1,s2,s3,s4,s5,s6,s7,s8,s9⟩:=pX hs
         obtain⟨g0,g1⟩:=xFa hg;obtain⟨t0,t1,t2,t3,t4,t5,t6,t7,t8,t9⟩:=pX ht;clear hd hs hg ht;go_wp2_with fail
         refine(yCs.o _ HF.o.bel).mono ?_;rintro e w13 ⟨rfl,xZp⟩;have xH6:=ι (HF.o.below xZp);clear xZp d0 d1 s0 s1 s2 s3 s4 s5 s6 s7 s8 s9 g0 g1 t0 t1 t2 t3 t4 t5 t6 t7 t8 t9 HF;have hs:=xH6.o.k 1 _ rfl;have ht:=xH6.o.k 5 _ rfl
         obtain⟨s0,s1,s2,s3,s4,s5,s6,s7,s8,s9⟩:=pX hs;obtain⟨t0,t1,t2,t3,t4,t5,t6,t7,t8,t9⟩:=pX ht;clear hs ht;go_wp2_with fail
         refine(HEQ.o _ xH6.o.bel).mono ?_;rintro e w14 ⟨rfl,xZn⟩;have H14:=ι (xH6.o.bel.trans (xZn.mono xH6.o.bel.size));clear xZn s0 s1 s2 s3 s4 s5 s6 s7 s8 s9 t0 t1 t2 t3 t4 t5 t6 t7 t8 t9 xH6;go_wp2_with fail
         refine(qF _).mono ?_;rintro e w15 ⟨rfl,xZm⟩;have HB:=ι (H14.o.trans (xZm.mono H14.o.size));clear xZm H14;go_wp2;go_ret;exact⟨rfl,HB.o⟩
        subst hme;have HEN:=ι (HE2.o (by first|rfl|trivial));clear HE2 HNO;go_upto_region 15 with fail
        refine RG.yI [22,23] (λL9 W9=>Hid (VwS wb [.int .i64 ((k:Int)+1),.int .i64 mm.uid,.int .i64 mm.flags,.int .i64 mm.size,.string mt,.int .i64 (ml:Int),.int .i64 mz.uid] (L9 22) (L9 23) W9)) (λL9 L' W9 hl h=>by rw[<-hl 22 σ,<-hl 23 σ];exact h) κ κ κ (ι (VwS.start wb _)) ?_
        iterate 22
         apply RG.qH
         ·rfl
         ·intro L w9 hw9;have hb9:=HB.o.1.trans (hw9.o.bel.mono HB.o.1.size);have c9':=xC HB.o.2 hw9.o.bel (xJ HB.o.2);have c0:=xA c9' 0;have c1:=xA c9' 1;have c2:=xA c9' 2;have c3:=xA c9' 3;have hx3:=(HPB.o.below hw9.o.bel).k 3 _ rfl;have x3:=xA hx3 3
          simp only[gA,gB,gC] at c0 c1 c2 c3 x3;have x4:=(hb9.cell (p:=⟨g,off+nl*4,none⟩) HG.o.1).trans HG.o.2;clear hb9 c9' hx3;repeat go_step
          exact RG.xB hw9
         ·rfl
        apply RG.xV
        ·rfl
        ·intro L9 w9' h0 _ hw9;have hh:=hw9.o;rw[h0] at hh;have hsz:=hh.size rfl;have HN2:=ι hh.new;clear hw9 hh;repeat go_step
         try rw[hsz]
         refine RG.xB ?_;show Hid (VwS wb _ true (L9 23) _);exact HN2
        ·rfl
        apply RG.xV
        ·rfl
        ·intro L9 w9' h0 hdp hw9;have hh:=hw9.o;rw[h0,hdp 22 δ] at hh;have hz:w9'.heap[wb.heap.size]?=some (.cells #[.int .i64 0,.int .i64 0,.int .i64 0,.int .i64 0,.string ⟨#[]⟩,.int .i64 0,.int .i64 0] 62 (0,0)):=hh.z rfl rfl;have hn:=hh.set rfl
         simp only[yX,Nat.reduceAdd] at hn;have hbz:=hh.bel;have HN2:=ι hn
         obtain⟨o0,y0,f0,o1,y1,f1,o2,y2,f2,o3,y3,f3,o4,y4,f4,o5,y5,f5,o6,y6,f6,HB⟩:=cpl7 hz hbz ω (.int .i64 ((k:Int)+1)) (.int .i64 mm.uid) (.int .i64 mm.flags) (.int .i64 mm.size) (.string mt) (.int .i64 (ml:Int)) (.int .i64 mz.uid) _ rfl;clear hw9 hh hn hz hbz
         repeat go_step
         refine RG.xB ?_;show Hid (VwS wb _ (L9 22) true _);rw[hdp 22 δ];with_reducible exact HN2
        ·rfl
        refine RG.xY (λwc hwc=>?_);have HC:=ι (And.intro (HB.o.1.trans (hwc.o.bel.mono HB.o.1.size)) (hwc.o.f rfl));have HPC:=ι (HPB.o.below hwc.o.bel);clear hwc HB HPB;generalize wb.heap.size=g6 at HC⊢;have z0:=cbl1 (HPC.o.k 6 _ rfl);have hz:=HC.o.2
        obtain⟨v0,v1,v2,v3,v4,v5,v6⟩:=cbl7 hz;clear hz;go_wp2_with fail
        refine(HHO.o wc HC.o.1).mono ?_;rintro e wd ⟨rfl,hbd⟩;have HPD:=ι (HPC.o.below hbd);have HD:=ι (HC.o.1.trans (hbd.mono HC.o.1.size));clear HC HPC HHO hbd z0 v0 v1 v2 v3 v4 v5 v6;cases hit with
        |false=>
         have HL9:Hid (lb=⟨([42,32]++uY ub K L tx (k+1)).toArray⟩):=ι (by rw[HLS.o,HLB.o];rfl);clear HLS HLB HIT HNU HNK HPD HG HDB;go_wp2
         go_roundw
         case rel=>exact⟨k+1,lb,ω,rfl,by go_num,HL9,HEN,HD⟩
         case measure=>simp[intOf];omega
        |true=>
         have HL9:Hid (∀b9:ByteArray,b9=lb++(⟨#[32]⟩++db)->b9=⟨([42,32]++uY ub K L tx (k+1)).toArray⟩):=ι (by
          intro b9 h9;rw[h9,HLS.o,HLB.o,<-HDB.o];apply ByteArray.ext;simp)
         have xVp:¬9223372036854775807<1+db.size:=ω;have xVn:¬9223372036854775807<lb.size+(1+db.size):=ω;have big3:¬9223372036854775807<lb.size+((⟨#[32]⟩:ByteArray)++db).size:=by rw[ByteArray.size_append];show ¬_<lb.size+(1+db.size);omega
         obtain⟨b0,b1,b2,b3⟩:=cbl4 (HPD.o.k 3 _ rfl);clear HLS HLB HDB;go_wp2_with fail
         refine(HNU.o wd HD.o).mono ?_;rintro e we ⟨nv,rfl,hown,hbe⟩;have hrd:=hown.rd xDq;obtain⟨An,cn,rfl,hcn,hnc⟩:=hrd;rw[HNK.o.1] at hcn hnc⊢;obtain⟨gn,offn,rfl,hgn,hnc⟩:=hnc ω;have qn:=hnc k _ HNK.o.2 0 (.int .i64 nk) rfl;rw[Nat.mul_one,Nat.add_zero] at qn
         have HE5:=ι (HD.o.trans (hbe.mono HD.o.size));clear hown hnc hcn hgn hbe HD HPD HNU HNK b0 b1 b2 b3;go_wp2_with fail
         refine(HIT.o _).mono ?_;rintro e wf ⟨rfl,hbf⟩;have HF5:=ι (HE5.o.trans (hbf.mono HE5.o.size));clear hbf HE5 HIT qn;go_wp2
         go_roundw
         case rel=>exact⟨k+1,_,ω,rfl,by go_num,ι (HL9.o _ rfl),HEN,HF5⟩
         case measure=>simp[intOf];omega
       ·obtain rfl:k=ml:=ω
        have hop:op=true:=by
         rw[HOP.o];refine List.all_eq_true.2 (λm hm=>?_);have:=HE.o m (by rw[<-HML.o,List.take_length];exact hm);simpa using this
        subst hop
        have etb0:tb=lb++⟨#[13,10,116,32,79,75,13,10]⟩:=by
         rw[<-HTB.o,HLB.o];apply ByteArray.ext;simp[yAr,HML.o]
        have etb:(tb.toList==(lb++(⟨#[13,10,116,32,79,75,13,10]⟩:ByteArray)).toList)=true:=by rw[etb0];simp
        have big5:¬9223372036854775807<lb.size+8:=ω;have HF:=ι (HPQ.o.far HI.o);clear etb0 HTB HLB HE HI HOP HLT HTXL HRM HML HK HNU HMC HTP HTX HPQ;have hd:=HF.o.k 0 _ rfl;have hs:=HF.o.k 1 _ rfl;have hg:=HF.o.k 4 _ rfl;have ht:=HF.o.k 5 _ rfl;obtain⟨d0,d1⟩:=xFa hd
        obtain⟨s0,s1,s2,s3,s4,s5,s6,s7,s8,s9⟩:=pX hs;obtain⟨g0,g1⟩:=xFa hg;obtain⟨t0,t1,t2,t3,t4,t5,t6,t7,t8,t9⟩:=pX ht;clear hd hs hg ht;go_wp2_with fail
        refine(yCs.o _ HF.o.bel).mono ?_;rintro e w13 ⟨rfl,xZp⟩;have xH6:=ι (HF.o.below xZp);clear xZp d0 d1 s0 s1 s2 s3 s4 s5 s6 s7 s8 s9 g0 g1 t0 t1 t2 t3 t4 t5 t6 t7 t8 t9 HF;have hs:=xH6.o.k 1 _ rfl;have ht:=xH6.o.k 5 _ rfl;obtain⟨s0,s1,s2,s3,s4,s5,s6,s7,s8,s9⟩:=pX hs
        obtain⟨t0,t1,t2,t3,t4,t5,t6,t7,t8,t9⟩:=pX ht;clear hs ht;go_wp2_with fail
        refine(HEQ.o _ xH6.o.bel).mono ?_;rintro e w14 ⟨rfl,xZn⟩;have H14:=ι (xH6.o.bel.trans (xZn.mono xH6.o.bel.size));clear xZn s0 s1 s2 s3 s4 s5 s6 s7 s8 s9 t0 t1 t2 t3 t4 t5 t6 t7 t8 t9 xH6;go_wp2_with fail
        refine(qF _).mono ?_;rintro e w15 ⟨rfl,xZm⟩;have HB:=ι (H14.o.trans (xZm.mono H14.o.size));clear xZm H14;go_wp2;go_ret;exact⟨rfl,HB.o⟩
end Go.Proofs.IM
namespace Go.Proofs.LE
open Go.ChangeShapes Go.WideShapes Go.ChangeAt Go.RowKit
section
variable {H:Type} {enc:TypeId×Value->H} {P:Program}
theorem xBf (hl:laidOutB P=true) {W W':World} (hb:ψ W W') {sp:Nat->Bool}:∀{ts:List TypeId} {vs:List Value} {ds:List (DataW H)} {ps:List MemPlace},
  (∀t∈ts,P.readableRec t=true/\t<P.types.size)->DataW.TrodAll enc P W 0 (λ_=>true) true ts vs ds ps->(∀x∈ps,x.block<W.heap.size)->(∀x∈ps,sp x.block=true)->
  DataW.TrodAll enc P W' 0 sp true ts vs ds ps
 |[],[],[],ps,_,h,_,_=>h
 |t::ts,v::vs,d::ds,ps,hr,h,hlt,hsp=>by
  obtain⟨p,q,h1,h2,rfl⟩:=h
  exact⟨p,q,WideElems.Trod_stays hl (hr t σ).1 (hr t σ).2 h1 (λx hx=>hb.same (hlt x (by simp[hx]))) (λx hx=>hsp x (by simp[hx])),
   xBf hl hb (λt ht=>hr t (by simp[ht])) h2 (λx hx=>hlt x (by simp[hx])) (λx hx=>hsp x (by simp[hx])),rfl⟩
 |[],[],_::_,_,_,h,_,_=>h.elim
 |[],_::_,_,_,_,h,_,_=>h.elim
 |_::_,[],_,_,_,h,_,_=>h.elim
 |_::_,_::_,[],_,_,h,_,_=>h.elim
theorem xNt {f:Func} {s:ChangeSpec} {apart fresh handsOn again:Bool} {W W':World} {args:Array Value} {ds gs:List (DataW H)} {before:List MemPlace} {tb:TypeId}
  (hl:laidOutB P=true) (hr:∀t∈f.params.toList,P.readableRec t=true/\t<P.types.size) (hrt:f.resultTypes=#[tb]) (htb:P.underlying tb=some .bool)
  (hW:DataW.Whole enc P f.params.toList s.vars apart W args.toList ds gs before) (hv:s.vars=[])
  (hfn:s.fn H ds={results:=[.lit (.bool true)],args:=ds}) (hb:ψ W W'):
  s.post enc P f apart fresh handsOn again W args (.bool true) W':=by
 have hlt:∀p∈before,p.block<W.heap.size:=λp hp=>hW.lt p hp;have hold:∀p∈before,(λb=>decide (b<W.heap.size)) p.block=true:=λp hp=>by simpa using hlt p hp
 have hW':=hW;obtain⟨p,q,hA,hV,rfl,hz,hn⟩:=hW;rw[hv] at hV;obtain⟨rfl,rfl⟩:=trodVars_none hV;simp only[List.append_nil] at*
 have hres:∀(b:Nat) (sp:Nat->Bool) (hd:Bool),DataW.TrodAll enc P W' b sp hd f.resultTypes.toList ((Value.bool true).resultList f.resultTypes.size) [.lit (.bool true)] []:=by
  intro b sp hd;rw[hrt];exact trodAll_mk1 (shut_bool htb _)
 have hargs:∀sp:Nat->Bool,(∀x∈p,sp x.block=true)->DataW.TrodAll enc P W' 0 sp true f.params.toList args.toList ds p:=λsp hsp=>xBf hl hb hr hA hlt hsp;refine⟨ds,[],p,[],p,[],hW',?_,?_,?_,World.keptBut_mono (λx hx=>⟨hx,?_⟩) (hb.frame (·∈p)),λ_=>?_⟩
 ·rw[List.append_nil,hfn];exact hres _ _ _
 ·rw[List.append_nil,hfn];exact hargs _ hold
 ·rw[List.append_nil,hfn,hv];rfl
 ·simp[hx]
 ·refine⟨?_,_,[],([]++p)++[],⟨[]++p,[],trodAll_append (hargs _ (λ_ _=>rfl)) (hres _ _ _),?_,rfl,?_,?_⟩,?_⟩
  ·exact ok_one hrt rfl (okWide_bool_mk htb _)
  ·rw[hv];rfl
  ·intro b off hp;have hin:MemPlace.cell b off∈p:=by simpa using hp
   rw[hb.frozen (hlt _ hin)];exact hz b off hin
  ·intro ha;simpa using hn ha
  ·intro x hx _;simpa using hx
theorem trodAll_length {W:World} {sp:Nat->Bool} {held:Bool} {base:Nat}:∀{ts:List TypeId} {vs:List Value} {ds:List (DataW H)} {ps:List MemPlace},DataW.TrodAll enc P W base sp held ts vs ds ps->ds.length=ts.length
 |[],[],[],_,_=>rfl
 |_::_,_::_,_::_,_,h=>by
  obtain⟨_,_,_,h2,_⟩:=h;simp[trodAll_length h2]
 |[],[],_::_,_,h=>h.elim
 |[],_::_,_,_,h=>h.elim
 |_::_,[],_,_,h=>h.elim
 |_::_,_::_,[],_,h=>h.elim
theorem law_lifted {C:Checked} {os:Os} {f:FuncId} {fn:Func} {s:ChangeSpec} {conds:List PathCond} {apart fresh handsOn again:Bool} {tb:TypeId}
  (own:ownKnob C.prog.godebug=none) (started:os.Started) (noInit:C.prog.inits.idxOf? f=none) (hfn:C.prog.funcs[f]?=some fn)
  (witness:∃(w:World) (tape:Tape) (i:Input),w.os=os/\(w.forCall tape i).Shaped C.prog/\i.vars=[]/\Input.okWide C.prog (w.forCall tape i) .any w.heap.size f i/\
   s.pre6 enc C.prog fn conds apart (w.forCall tape i).memory i.args/\Assume.holds {} C.prog (lone (Frame.enter C.prog f i.args .normal) [] (w.forCall tape i)))
  (hl:laidOutB C.prog=true) (hr:∀t∈fn.params.toList,C.prog.readableRec t=true/\t<C.prog.types.size) (hrt:fn.resultTypes=#[tb]) (htb:C.prog.underlying tb=some .bool)
  (hv:s.vars=[]) (hs:∀ds:List (DataW H),ds.length=fn.params.toList.length->s.fn H ds={results:=[.lit (.bool true)],args:=ds})
  (walk:∀(W:World) (base:Nat) (args:Array Value) (ds:List (DataW H)) (p:List MemPlace),
   (∀(j:Nat) t v,fn.params[j]?=some t->args[j]?=some v->Value.okWide C.prog W .any base t v)->
   DataW.TrodAll enc C.prog W 0 (λ_=>true) true fn.params.toList args.toList ds p->
   (DataW.weightsEach C.prog (fn.params.toList++s.plain.varTypes C.prog) (ds++[])).all (·<=reachBytes)=true->
   W.ShapedOpen C.prog->Calls C.prog f args W λe w'=>e=.returned (.bool true)/\ψ W w'):
  ReturnsInHanded {} C os f .any (s.pre6 enc C.prog fn conds apart) (s.post enc C.prog fn apart fresh handsOn again):=by
 refine returnsInHanded_of_change_shaped own started noInit hfn witness ?_;intro W base args ds gs before hval hW _ hwt hsh _;have hW':=hW;obtain⟨p,q,hA,hV,rfl,_,_⟩:=hW;rw[hv] at hV;obtain⟨rfl,rfl⟩:=trodVars_none hV
 refine(walk W base args ds p hval hA hwt hsh).mono λe W' ⟨he,hb⟩=>?_;subst he;exact⟨_,rfl,xNt hl hr hrt htb hW' hv (hs ds (trodAll_length hA)) hb⟩
end
end Go.Proofs.LE
namespace Go.Proofs.LE
open Go.ChangeShapes Go.WideShapes Go.ChangeAt Go.RowKit
section
variable {H:Type} {enc:TypeId×Value->H}
theorem yBc {C:Checked} {os:Os} {f:FuncId} {fn:Func} {s:ChangeSpec} {F:Stop.Interp} {conds:List PathCond} {apart fresh handsOn again:Bool} {laid:List (String×DataW Unit)} {tb:TypeId}
  (own:ownKnob C.prog.godebug=none) (started:os.Started) (noInit:C.prog.inits.idxOf? f=none) (hfn:C.prog.funcs[f]?=some fn)
  (witness:∃(w:World) (tape:Tape) (i:Input),w.os=os/\(w.forCall tape i).Shaped C.prog/\i.vars=[]/\Input.okWide C.prog (w.forCall tape i) .any w.heap.size f i/\
   (OpenSpec.ofChange s).preRow enc C.prog fn conds apart laid (w.forCall tape i).memory i.args/\({}:Assume).holds C.prog (lone (Frame.enter C.prog f i.args .normal) [] (w.forCall tape i)))
  (hl:laidOutB C.prog=true) (hr:∀t∈fn.params.toList,C.prog.readableRec t=true/\t<C.prog.types.size) (hrt:fn.resultTypes=#[tb]) (htb:C.prog.underlying tb=some .bool)
  (hv:s.vars=[]) (hs:∀ds:List (DataW H),ds.length=fn.params.toList.length->s.fn H ds={results:=[.lit (.bool true)],args:=ds})
  (walk:∀(W:World) (base:Nat) (args:Array Value) (ds:List (DataW H)) (p:List MemPlace),
   (∀(j:Nat) t v,fn.params[j]?=some t->args[j]?=some v->Value.okWide C.prog W .any base t v)->
   DataW.TrodAll enc C.prog W 0 (λ_=>true) true fn.params.toList args.toList ds p->
   W.ShapedOpen C.prog->laidMetH C.prog laid W->Calls C.prog f args W λe w'=>e=.returned (.bool true)/\ψ W w'):
  ReturnsInHanded {} C os f .any ((OpenSpec.ofChange s).preRow enc C.prog fn conds apart laid) (((OpenSpec.ofChange s).at F).post enc C.prog fn apart fresh handsOn again):=by
 refine returnsInHanded_of_row own started noInit hfn witness ?_;intro W base args ds gs before hval hW _ _ _ hL hsh _;have hW':DataW.Whole enc C.prog fn.params.toList s.vars apart W args.toList ds gs before:=hW;have hW2:=hW';obtain⟨p,q,hA,hV,rfl,_,_⟩:=hW2;rw[hv] at hV
 obtain⟨rfl,rfl⟩:=trodVars_none hV;refine(walk W base args ds p hval hA hsh hL).mono λe W' ⟨he,hb⟩=>?_;subst he;exact⟨_,rfl,xNt hl hr hrt htb hW' hv (hs ds (trodAll_length hA)) hb⟩
end
def xD7:DataW Unit->List Value
 |.agg l=>l.map λd=>match d with
  |.lit (.int k n)=>.int k n
  |_=>.bool false
 |_=>[]
def cells2:DataW Unit->List Value
 |.agg l=>l.flatMap xD7
 |_=>[]
def put (l:List Value):Obj->Obj
 |.cells _ t frozen=>.cells l.toArray t frozen
 |o=>o
end Go.Proofs.LE
namespace Go.Proofs.SV
open Go.Joins Go.ChangeShapes Go.WideShapes Go.RowKit Go.Deep MM Mailsack
theorem xAe {W:World} {name:String} {g:Nat} {cs:Array Value} (hg:prog.globalNamed name=some g) (h:W.var? prog name=some cs):∃t fr,W.heap[g]?=some (.cells cs t fr):=by
 unfold World.var? at h;rw[hg] at h;simp only[Option.bind_some] at h;split at h
 ·rename_i c t fr hw
  injection h with h;subst h;exact⟨t,fr,hw⟩
 ·cases h
theorem xEf {W:World} {a b:String} (ha:prog.globalNamed a=some 1) (hb:prog.globalNamed b=some 4) (h1:Lib.TabIs prog W a .u32 xQ7) (h2:Lib.TabIs prog W b .u32 tK):SH.xFg W:=
 ⟨xAe ha h1,xAe hb h2⟩
theorem xJ1 {H:Type} {enc:TypeId×Value->H} {P:Program} {w:World} {base:Nat} {spare:Nat->Bool} {held:Bool} {t t1 t2 t3 t4:TypeId} {args:Array Value} {ds:List (DataW H)} {ps:List MemPlace} (h:DataW.TrodAll enc P w base spare held [t,t1,t2,t3,t4] args.toList ds ps):
  ∃v v1 v2 v3 v4 d d1 d2 d3 d4 p p1 p2 p3 p4,args=#[v,v1,v2,v3,v4]/\ds=[d,d1,d2,d3,d4]/\ps=p++p1++p2++p3++p4/\DataW.Trod enc P w base spare held t v d p/\DataW.Trod enc P w base spare held t1 v1 d1 p1/\DataW.Trod enc P w base spare held t2 v2 d2 p2/\DataW.Trod enc P w base spare held t3 v3 d3 p3/\DataW.Trod enc P w base spare held t4 v4 d4 p4:=by
 obtain⟨v,vs,d,ds',p,q,hargs,rfl,rfl,hd,hrest⟩:=trodAll_cons h;obtain⟨v',vs',d',ds'',p',q',rfl,rfl,rfl,hd',hrest'⟩:=trodAll_cons hrest;obtain⟨v2,vs2,d2,ds2,p2,q2,rfl,rfl,rfl,hd2,hrest2⟩:=trodAll_cons hrest';obtain⟨v3,vs3,d3,ds3,p3,q3,rfl,rfl,rfl,hd3,hrest3⟩:=trodAll_cons hrest2
 obtain⟨v4,vs4,d4,ds4,p4,q4,rfl,rfl,rfl,hd4,hrest4⟩:=trodAll_cons hrest3;obtain⟨rfl,rfl,rfl⟩:=trodAll_nil hrest4;exact⟨v,v',v2,v3,v4,d,d',d2,d3,d4,p,p',p2,p3,p4,by cases args;simp_all,rfl,σ,hd,hd',hd2,hd3,hd4⟩
theorem xRy {W w':World} {name:String} {g:Nat} {cs:Array Value} (hg:prog.globalNamed name=some g) (h:W.var? prog name=some cs) (hb:ψ W w'):w'.var? prog name=some cs:=by
 obtain⟨t,fr,h1⟩:=xAe hg h;have h2:=xC h1 hb (xJ h1);unfold World.var?;rw[hg];simp only[Option.bind_some,h2]
theorem xL5 {W : World} {a b c : String} (ha : prog.globalNamed a = some 1) (hb : prog.globalNamed b = some 4) (hc : prog.globalNamed c = some 0) (he : prog.globalNamed "internal/strconv.uint64pow10" = some 3)
  (h1 : Lib.TabIs prog W a .u32 xQ7) (h2 : Lib.TabIs prog W b .u32 tK) (h3 : Lib.TabIs prog W c .i64 [128,256,512,704]) (h4 : Lib.TabIs prog W "internal/strconv.uint64pow10" .u64 Lib.pow10Tab) : Go.Proofs.VA.VaT W :=
 ⟨⟨xEf ha hb h1 h2,⟨xAe hc h3⟩⟩,λ_ hb=>xRy he h4 hb⟩
end Go.Proofs.SV
namespace Go.Proofs.MM
open Go.ChangeShapes Go.WideShapes Go.ChangeAt Go.RowKit
theorem xAx {H:Type} {enc:TypeId×Value->H} {P:Program} {w:World} {t e:TypeId} {v:Value} {fuel:Nat} {x:DataW H×List MemPlace}
  (ht:P.underlying t=some (.slice e)) (he:P.underlying e=some .string) (hc:P.cellsOf e=1) (hf:DataW.trod enc P w 0 (λ_=>true) true fuel t [v]=some x):
  ∃xs:List (List UInt8),RdS w w.heap.size v xs/\(∀x∈xs,x.length<=9223372036854775807)/\xs.length<=9223372036854775807:=by
 rcases open_strings ht he hc hf with ⟨hcs,_⟩|⟨a,len',cap',ss,hcs,_,hl,hm,hz,_,hcell,hws⟩
 ·have hcs':v=.slice none 0 0:=by simpa using hcs
  rw[hcs'];exact⟨[],⟨none,0,rfl,Nat.le_refl _,λh=>absurd h (Nat.lt_irrefl _)⟩,σ,σ⟩
 ·have hcs':v=.slice (some a) len' cap':=by simpa using hcs
  rw[hcs'];unfold maxLen at hm hws;have hss:ss.length=cap':=by simpa using hz
  have hlen:((ss.take len').map λs=>s.data.toList).length=len':=by simp;omega
  refine⟨(ss.take len').map λs=>s.data.toList,⟨some a,cap',by rw[hlen],ω,λhn=>?_⟩,?_,ω⟩
  ·obtain⟨b,off,spot⟩:=a;have h0:=hcell 0 ω;have hspot:spot=none:=by simpa[Addr.add] using World.cell?_spot h0
   subst hspot;refine⟨b,off,rfl,World.block_lt_of_cell? w _ (by simpa[Addr.add] using h0),λj x hx=>?_⟩;rw[List.getElem?_map,List.getElem?_take] at hx;split at hx
   ·rename_i hj
    have hjs:j<ss.length:=ω;have h1:=hcell j hjs;rw[List.getElem?_eq_getElem hjs] at hx;simp only[Option.map_some,Option.some.injEq] at hx;have hadd:(⟨b,off,none⟩:Addr).add j=⟨b,off+j,none⟩:=by unfold Addr.add;split<;>simp_all
    rw[hadd] at h1;rw[h1,<-hx,List.getD_eq_getElem?_getD,List.getElem?_eq_getElem hjs]
    rfl
   ·simp at hx
  ·intro x hx;obtain⟨s,hs,rfl⟩:=List.mem_map.1 hx;have:=hws s (List.mem_of_mem_take hs);rw[Array.length_toList];exact this
theorem xXj {H:Type} {enc:TypeId×Value->H} {P:Program} {w:World} {base:Nat} {t e:TypeId} {v:Value} {d:DataW H} {p:List MemPlace}
  (ht:P.underlying t=some (.slice e)) (he:P.underlying e=some .string) (hc:P.cellsOf e=1) (hv:Value.okWide P w .any base t v) (h:DataW.Trod enc P w 0 (λ_=>true) true t v d p):
  ∃xs:List (List UInt8),RdS w w.heap.size v xs/\(∀x∈xs,x.length<=9223372036854775807)/\xs.length<=9223372036854775807:=by
 obtain⟨a0,len,cap,rfl⟩:=okWide_slice ht hv;obtain⟨fuel,hf⟩:=h;exact xAx ht he hc (by simpa[Value.cells] using hf)
end Go.Proofs.MM
namespace Go.Proofs.IX
open Go.Joins Go.ChangeShapes Go.WideShapes Go.RowKit Go.Deep MM Mailsack
theorem xQu {w:World} {a:Addr} {k:Nat} {cs:List Value} (h:w.cells? 0 a k=some cs):cs.length=k/\∀j,j<k->w.cell? (a.add j)=cs[j]?:=by
 unfold World.cells? at h;rw[if_pos (Nat.zero_le _)] at h;refine⟨by simpa using mapM_some_length h,λj hj=>?_⟩;exact mapM_some_get h j j (by rw[List.getElem?_range hj])
theorem xOr (b o i:Nat):(⟨b,o,none⟩:Addr).add i=⟨b,o+i,none⟩:=by unfold Addr.add;split<;>simp_all
theorem pI {H:Type} {enc:TypeId×Value->H} {P:Program} {w:World} {t e:TypeId} {k fuel:Nat} {v:Value} {x:DataW H×List MemPlace} (ht:P.underlying t=some (.slice e)) (hc:P.cellsOf e=k) (hk:0<k)
  (hf:DataW.trod enc P w 0 (λ_=>true) true fuel t [v]=some x):
  ∃A len c,v=.slice A len c/\len<=c/\len<=9223372036854775807/\(0<len->∃b off,A=some ⟨b,off,none⟩/\b<w.heap.size/\∀i,i<len->∃cs n y,cs.length=k/\(∀j,j<k->w.cell? ⟨b,off+i*k+j,none⟩=cs[j]?)/\DataW.trod enc P w 0 (λ_=>true) true n e cs=some y):=by
 rcases DataW.trod_slice ht hf with ⟨hcs,_⟩|⟨a,len',cap',elems,rest,n,_,hcs,_,_,hl,hm,hlen,hel,_⟩
 ·exact⟨none,0,0,by simpa using hcs,Nat.le_refl _,ω,λh=>absurd h (Nat.lt_irrefl _)⟩
 ·unfold maxLen at hm;rw[hc] at hel
  have each:∀i,i<len'->∃cs y,cs.length=k/\(∀j,j<k->w.cell? ((a.add (i*k)).add j)=cs[j]?)/\DataW.trod enc P w 0 (λ_=>true) true n e cs=some y:=by
   intro i hi;have h1:=hel i hi;rw[List.getElem?_eq_getElem ω] at h1;obtain⟨cs,hc1,ht1⟩:=Option.bind_eq_some_iff.1 h1;obtain⟨h2,h3⟩:=xQu hc1;exact⟨cs,_,h2,h3,ht1⟩
  refine⟨some a,len',cap',by simpa using hcs,hl,ω,λhn=>?_⟩;obtain⟨cs0,y0,hz0,hc0,_⟩:=each 0 hn;have h0:=hc0 0 hk;rw[List.getElem?_eq_getElem ω] at h0;obtain⟨b,off,spot⟩:=a;have hspot:spot=none:=by simpa[Addr.add] using World.cell?_spot h0
  subst hspot;refine⟨b,off,rfl,World.block_lt_of_cell? w _ (by simpa[Addr.add] using h0),λi hi=>?_⟩;obtain⟨cs,y,hz,hcs',hy⟩:=each i hi;refine⟨cs,n,y,hz,λj hj=>?_,hy⟩;have:=hcs' j hj;rw[xOr,xOr] at this;exact this
theorem xM4 {α:Type} {p:Nat->α->Prop} {n:Nat} (h:∀i,i<n->∃x,p i x):∃L:List α,L.length=n/\∀(i:Nat) x,L[i]?=some x->p i x:=by
 induction n with
 |zero=>exact⟨[],rfl,λi x hx=>by simp at hx⟩
 |succ n ih=>
  obtain⟨L,hl,hp⟩:=ih (λi hi=>h i ω);obtain⟨x,hx⟩:=h n ω;refine⟨L++[x],by simp[hl],λi y hy=>?_⟩
  by_cases hi:i<n
  ·rw[List.getElem?_append_left ω] at hy;exact hp i y hy
  ·rw[List.getElem?_append_right ω] at hy
   have:i-L.length=0:=by
    have:=(List.getElem?_eq_some_iff.1 hy).1;simp at this;omega
   rw[this] at hy;simp at hy;subst hy;obtain rfl:i=n:=ω;exact hx
theorem xPt {H:Type} {enc:TypeId×Value->H} {w:World} {fuel:Nat} {v:Value} {x:DataW H×List MemPlace} (hf:DataW.trod enc prog w 0 (λ_=>true) true fuel 37 [v]=some x):
  ∃L:List uT,uN w w.heap.size v L/\L.length<=9223372036854775807:=by
 obtain⟨A,len,c,rfl,hlc,hlm,hrow⟩:=pI underlying37 (show prog.cellsOf 58=4 by kernel_rfl) ω hf
 by_cases hn:0<len
 ·obtain⟨b,off,rfl,hb,hi⟩:=hrow hn
  obtain⟨L,hL,hp⟩:=xM4 (α:=uT) (p:=λj m=>w.cell? ⟨b,off+j*4,none⟩=some (.int .i64 m.uid)/\w.cell? ⟨b,off+j*4+1,none⟩=some (.int .i64 m.flags)/\w.cell? ⟨b,off+j*4+2,none⟩=some (.int .i64 m.object)/\w.cell? ⟨b,off+j*4+3,none⟩=some (.int .i64 m.size)) (n:=len) (λi h=>by
   obtain⟨cs,n,y,hz,hcell,ht1⟩:=hi i h
   obtain⟨c0,c1,c2,c3,rfl⟩:∃c0 c1 c2 c3,cs=[c0,c1,c2,c3]:=by
    match cs,hz with
    |[c0,c1,c2,c3],_=>exact⟨c0,c1,c2,c3,rfl⟩
   obtain⟨xs,n',_,_,_,hlen,hg⟩:=DataW.trod_struct underlying58 ht1;have yBq:xs.length=4:=hlen;have g0:DataW.trod enc prog w 0 (λ_=>true) true n' 3 ((([c0,c1,c2,c3]:List Value).drop 0).take (prog.cellsOf 3))=xs[0]?:=hg 0 _ rfl
   have g1:DataW.trod enc prog w 0 (λ_=>true) true n' 3 ((([c0,c1,c2,c3]:List Value).drop 1).take (prog.cellsOf 3))=xs[1]?:=hg 1 _ rfl
   have g2:DataW.trod enc prog w 0 (λ_=>true) true n' 3 ((([c0,c1,c2,c3]:List Value).drop 2).take (prog.cellsOf 3))=xs[2]?:=hg 2 _ rfl
   have g3:DataW.trod enc prog w 0 (λ_=>true) true n' 3 ((([c0,c1,c2,c3]:List Value).drop 3).take (prog.cellsOf 3))=xs[3]?:=hg 3 _ rfl;rw[show prog.cellsOf 3=1 by kernel_rfl,List.getElem?_eq_getElem ω] at g0 g1 g2 g3
   obtain⟨m0,r0,_⟩:=DataW.trod_int underlying3 g0;obtain⟨m1,r1,_⟩:=DataW.trod_int underlying3 g1;obtain⟨m2,r2,_⟩:=DataW.trod_int underlying3 g2;obtain⟨m3,r3,_⟩:=DataW.trod_int underlying3 g3
   injection r0 with r0;injection r1 with r1;injection r2 with r2;injection r3 with r3;subst r0 r1 r2 r3;exact⟨⟨m0,m1,m2,m3⟩,hcell 0 ω,hcell 1 ω,hcell 2 ω,hcell 3 ω⟩)
  subst hL;exact⟨L,⟨_,c,rfl,hlc,λ_=>⟨b,off,rfl,hb,hp⟩⟩,hlm⟩
 ·obtain rfl:len=0:=ω;exact⟨[],⟨A,c,rfl,Nat.zero_le _,λh=>absurd h (Nat.lt_irrefl _)⟩,σ⟩
theorem xPv {H:Type} {enc:TypeId×Value->H} {w:World} {fuel:Nat} {v:Value} {x:DataW H×List MemPlace} (hf:DataW.trod enc prog w 0 (λ_=>true) true fuel 26 [v]=some x):
  ∃L:List wN,jP w w.heap.size v L/\(∀b∈L,b.xU.length<=9223372036854775807)/\L.length<=9223372036854775807:=by
 obtain⟨A,len,c,rfl,hlc,hlm,hrow⟩:=pI underlying26 (show prog.cellsOf 39=4 by kernel_rfl) ω hf
 by_cases hn:0<len
 ·obtain⟨b,off,rfl,hb,hi⟩:=hrow hn
  obtain⟨L,hL,hp⟩:=xM4 (α:=wN) (p:=λj x=>(∃mv,w.cell? ⟨b,off+j*4,none⟩=some (xK x.name)/\w.cell? ⟨b,off+j*4+1,none⟩=some (.int .i64 x.validity)/\w.cell? ⟨b,off+j*4+2,none⟩=some (.int .i64 x.next)/\w.cell? ⟨b,off+j*4+3,none⟩=some mv/\uN w w.heap.size mv x.xU)/\x.xU.length<=9223372036854775807) (n:=len) (λi h=>by
   obtain⟨cs,n,y,hz,hcell,ht1⟩:=hi i h
   obtain⟨c0,c1,c2,c3,rfl⟩:∃c0 c1 c2 c3,cs=[c0,c1,c2,c3]:=by
    match cs,hz with
    |[c0,c1,c2,c3],_=>exact⟨c0,c1,c2,c3,rfl⟩
   obtain⟨xs,n',_,_,_,hlen,hg⟩:=DataW.trod_struct underlying39 ht1;have yBq:xs.length=4:=hlen;have g0:DataW.trod enc prog w 0 (λ_=>true) true n' 9 ((([c0,c1,c2,c3]:List Value).drop 0).take (prog.cellsOf 9))=xs[0]?:=hg 0 _ rfl
   have g1:DataW.trod enc prog w 0 (λ_=>true) true n' 3 ((([c0,c1,c2,c3]:List Value).drop 1).take (prog.cellsOf 3))=xs[1]?:=hg 1 _ rfl
   have g2:DataW.trod enc prog w 0 (λ_=>true) true n' 3 ((([c0,c1,c2,c3]:List Value).drop 2).take (prog.cellsOf 3))=xs[2]?:=hg 2 _ rfl
   have g3:DataW.trod enc prog w 0 (λ_=>true) true n' 37 ((([c0,c1,c2,c3]:List Value).drop 3).take (prog.cellsOf 37))=xs[3]?:=hg 3 _ rfl;rw[show prog.cellsOf 9=1 by kernel_rfl,List.getElem?_eq_getElem ω] at g0
   rw[show prog.cellsOf 3=1 by kernel_rfl,List.getElem?_eq_getElem ω] at g1 g2;rw[show prog.cellsOf 37=1 by kernel_rfl,List.getElem?_eq_getElem ω] at g3;obtain⟨m0,r0,_⟩:=DataW.trod_string underlying9 g0;obtain⟨m1,r1,_⟩:=DataW.trod_int underlying3 g1
   obtain⟨m2,r2,_⟩:=DataW.trod_int underlying3 g2;injection r0 with r0;injection r1 with r1;injection r2 with r2;subst r0 r1 r2;have g3':DataW.trod enc prog w 0 (λ_=>true) true n' 37 [c3]=some (xs[3]'ω):=g3;obtain⟨M,hM,hMl⟩:=xPt g3'
   exact⟨⟨m0.data.toList,m1,m2,M⟩,⟨c3,hcell 0 ω,hcell 1 ω,hcell 2 ω,hcell 3 ω,hM⟩,hMl⟩)
  subst hL;refine⟨L,⟨_,c,rfl,hlc,λ_=>⟨b,off,rfl,hb,λj x hx=>(hp j x hx).1⟩⟩,λx hx=>?_,hlm⟩;obtain⟨j,hj⟩:=List.mem_iff_getElem?.1 hx;exact(hp j x hj).2
 ·obtain rfl:len=0:=ω;exact⟨[],⟨A,c,rfl,Nat.zero_le _,λh=>absurd h (Nat.lt_irrefl _)⟩,σ,σ⟩
theorem xPr {H:Type} {enc:TypeId×Value->H} {w:World} {base:Nat} {v:Value} {d:DataW H} {p:List MemPlace}
  (hv:Value.okWide prog w .any base 32 v) (h:DataW.Trod enc prog w 0 (λ_=>true) true 32 v d p):
  ∃(a b c bx:ByteArray) (ep:Int) (bv sv:Value) (x:zO) (o1 o2:Bool),v=.agg #[.string a,.string b,.string c,.int .i64 ep,bv,sv,.int .i64 x.given,.string bx,.bool o1,.bool o2]/\
   xIn w w.heap.size bv sv x/\(∀b∈x.boxes,b.xU.length<=9223372036854775807)/\x.boxes.length<=9223372036854775807/\x.subs.length<=9223372036854775807:=by
 obtain⟨cs,rfl,hsz⟩:=okWide_struct underlying32 hv;have hsz10:cs.size=10:=hsz.trans κ;obtain⟨l⟩:=cs;obtain⟨fuel,hf⟩:=h
 obtain⟨v0,v1,v2,v3,v4,v5,v6,v7,v8,v9,rfl⟩:∃v0 v1 v2 v3 v4 v5 v6 v7 v8 v9,l=[v0,v1,v2,v3,v4,v5,v6,v7,v8,v9]:=by
  match l,hsz10 with
  |[v0,v1,v2,v3,v4,v5,v6,v7,v8,v9],_=>exact⟨v0,v1,v2,v3,v4,v5,v6,v7,v8,v9,rfl⟩
 have hf':DataW.trod enc prog w 0 (λ_=>true) true fuel 32 [v0,v1,v2,v3,v4,v5,v6,v7,v8,v9]=some (d,p):=hf;obtain⟨xs,n,_,_,_,hlen,hg⟩:=DataW.trod_struct underlying32 hf';have yBq:xs.length=4:=hlen
 have g0:DataW.trod enc prog w 0 (λ_=>true) true n 30 ((([v0,v1,v2,v3,v4,v5,v6,v7,v8,v9]:List Value).drop 0).take (prog.cellsOf 30))=xs[0]?:=hg 0 _ rfl
 have g1:DataW.trod enc prog w 0 (λ_=>true) true n 9 ((([v0,v1,v2,v3,v4,v5,v6,v7,v8,v9]:List Value).drop 7).take (prog.cellsOf 9))=xs[1]?:=hg 1 _ rfl
 have g2:DataW.trod enc prog w 0 (λ_=>true) true n 4 ((([v0,v1,v2,v3,v4,v5,v6,v7,v8,v9]:List Value).drop 8).take (prog.cellsOf 4))=xs[2]?:=hg 2 _ rfl
 have g3:DataW.trod enc prog w 0 (λ_=>true) true n 4 ((([v0,v1,v2,v3,v4,v5,v6,v7,v8,v9]:List Value).drop 9).take (prog.cellsOf 4))=xs[3]?:=hg 3 _ rfl;rw[show prog.cellsOf 30=7 by kernel_rfl,List.getElem?_eq_getElem ω] at g0
 rw[show prog.cellsOf 9=1 by kernel_rfl,List.getElem?_eq_getElem ω] at g1;rw[show prog.cellsOf 4=1 by kernel_rfl,List.getElem?_eq_getElem ω] at g2 g3;have g0':DataW.trod enc prog w 0 (λ_=>true) true n 30 [v0,v1,v2,v3,v4,v5,v6]=some (xs[0]'ω):=g0
 obtain⟨ys,n2,_,_,_,xU6,hg2⟩:=DataW.trod_struct underlying30 g0';have hlen5:ys.length=5:=xU6;have k0:DataW.trod enc prog w 0 (λ_=>true) true n2 9 ((([v0,v1,v2,v3,v4,v5,v6]:List Value).drop 0).take (prog.cellsOf 9))=ys[0]?:=hg2 0 _ rfl
 have k1:DataW.trod enc prog w 0 (λ_=>true) true n2 9 ((([v0,v1,v2,v3,v4,v5,v6]:List Value).drop 1).take (prog.cellsOf 9))=ys[1]?:=hg2 1 _ rfl
 have k2:DataW.trod enc prog w 0 (λ_=>true) true n2 9 ((([v0,v1,v2,v3,v4,v5,v6]:List Value).drop 2).take (prog.cellsOf 9))=ys[2]?:=hg2 2 _ rfl
 have k3:DataW.trod enc prog w 0 (λ_=>true) true n2 3 ((([v0,v1,v2,v3,v4,v5,v6]:List Value).drop 3).take (prog.cellsOf 3))=ys[3]?:=hg2 3 _ rfl
 have k4:DataW.trod enc prog w 0 (λ_=>true) true n2 28 ((([v0,v1,v2,v3,v4,v5,v6]:List Value).drop 4).take (prog.cellsOf 28))=ys[4]?:=hg2 4 _ rfl;rw[show prog.cellsOf 9=1 by kernel_rfl,List.getElem?_eq_getElem ω] at k0 k1 k2
 rw[show prog.cellsOf 3=1 by kernel_rfl,List.getElem?_eq_getElem ω] at k3;rw[show prog.cellsOf 28=3 by kernel_rfl,List.getElem?_eq_getElem ω] at k4;have k4':DataW.trod enc prog w 0 (λ_=>true) true n2 28 [v4,v5,v6]=some (ys[4]'ω):=k4
 obtain⟨zs,n3,_,_,_,hlen3,hg3⟩:=DataW.trod_struct underlying28 k4';have hlen3':zs.length=3:=hlen3;have j0:DataW.trod enc prog w 0 (λ_=>true) true n3 26 ((([v4,v5,v6]:List Value).drop 0).take (prog.cellsOf 26))=zs[0]?:=hg3 0 _ rfl
 have j1:DataW.trod enc prog w 0 (λ_=>true) true n3 22 ((([v4,v5,v6]:List Value).drop 1).take (prog.cellsOf 22))=zs[1]?:=hg3 1 _ rfl
 have j2:DataW.trod enc prog w 0 (λ_=>true) true n3 3 ((([v4,v5,v6]:List Value).drop 2).take (prog.cellsOf 3))=zs[2]?:=hg3 2 _ rfl;rw[show prog.cellsOf 26=1 by kernel_rfl,List.getElem?_eq_getElem ω] at j0
 rw[show prog.cellsOf 22=1 by kernel_rfl,List.getElem?_eq_getElem ω] at j1;rw[show prog.cellsOf 3=1 by kernel_rfl,List.getElem?_eq_getElem ω] at j2;have j0':DataW.trod enc prog w 0 (λ_=>true) true n3 26 [v4]=some (zs[0]'ω):=j0
 have j1':DataW.trod enc prog w 0 (λ_=>true) true n3 22 [v5]=some (zs[1]'ω):=j1;obtain⟨BL,hB,hBm,hBl⟩:=xPv j0';obtain⟨SL,hS,_,hSl⟩:=MM.xAx underlying22 underlying9 κ j1';obtain⟨gv,r6,_⟩:=DataW.trod_int underlying3 j2
 obtain⟨a,r0,_⟩:=DataW.trod_string underlying9 k0;obtain⟨b,r1,_⟩:=DataW.trod_string underlying9 k1;obtain⟨c,r2,_⟩:=DataW.trod_string underlying9 k2;obtain⟨ep,r3,_⟩:=DataW.trod_int underlying3 k3;obtain⟨bx,r7,_⟩:=DataW.trod_string underlying9 g1
 obtain⟨o1,r8,_⟩:=DataW.trod_bool underlying4 g2;obtain⟨o2,r9,_⟩:=DataW.trod_bool underlying4 g3;injection r0 with r0;injection r1 with r1;injection r2 with r2;injection r3 with r3;injection r6 with r6;injection r7 with r7;injection r8 with r8;injection r9 with r9
 subst r0 r1 r2 r3 r6 r7 r8 r9;exact⟨a,b,c,bx,ep,v4,v5,⟨BL,SL,gv⟩,o1,o2,rfl,⟨hB,hS⟩,hBm,hBl,hSl⟩
theorem xPu {H:Type} {enc:TypeId×Value->H} {w:World} {base:Nat} {v:Value} {d:DataW H} {p:List MemPlace}
  (hv:Value.okWide prog w .any base 36 v) (h:DataW.Trod enc prog w 0 (λ_=>true) true 36 v d p):
  ∃(f1 f2 f3 f4 f5:ByteArray) (rd:Int),v=.agg #[.string f1,.string f2,.string f3,.string f4,.string f5,.int .i64 rd]:=by
 obtain⟨cs,rfl,hsz⟩:=okWide_struct underlying36 hv;have hsz6:cs.size=6:=hsz.trans κ;obtain⟨l⟩:=cs;obtain⟨fuel,hf⟩:=h
 obtain⟨v0,v1,v2,v3,v4,v5,rfl⟩:∃v0 v1 v2 v3 v4 v5,l=[v0,v1,v2,v3,v4,v5]:=by
  match l,hsz6 with
  |[v0,v1,v2,v3,v4,v5],_=>exact⟨v0,v1,v2,v3,v4,v5,rfl⟩
 have hf':DataW.trod enc prog w 0 (λ_=>true) true fuel 36 [v0,v1,v2,v3,v4,v5]=some (d,p):=hf;obtain⟨xs,n,_,_,_,hlen,hg⟩:=DataW.trod_struct underlying36 hf';have hlen3:xs.length=3:=hlen
 have g0:DataW.trod enc prog w 0 (λ_=>true) true n 9 ((([v0,v1,v2,v3,v4,v5]:List Value).drop 0).take (prog.cellsOf 9))=xs[0]?:=hg 0 _ rfl
 have g1:DataW.trod enc prog w 0 (λ_=>true) true n 9 ((([v0,v1,v2,v3,v4,v5]:List Value).drop 1).take (prog.cellsOf 9))=xs[1]?:=hg 1 _ rfl
 have g2:DataW.trod enc prog w 0 (λ_=>true) true n 34 ((([v0,v1,v2,v3,v4,v5]:List Value).drop 2).take (prog.cellsOf 34))=xs[2]?:=hg 2 _ rfl;rw[show prog.cellsOf 9=1 by kernel_rfl,List.getElem?_eq_getElem ω] at g0 g1
 rw[show prog.cellsOf 34=4 by kernel_rfl,List.getElem?_eq_getElem ω] at g2;have g2':DataW.trod enc prog w 0 (λ_=>true) true n 34 [v2,v3,v4,v5]=some (xs[2]'ω):=g2;obtain⟨ys,n2,_,_,_,xU6,hg2⟩:=DataW.trod_struct underlying34 g2';have yBq:ys.length=4:=xU6
 have k0:DataW.trod enc prog w 0 (λ_=>true) true n2 9 ((([v2,v3,v4,v5]:List Value).drop 0).take (prog.cellsOf 9))=ys[0]?:=hg2 0 _ rfl
 have k1:DataW.trod enc prog w 0 (λ_=>true) true n2 9 ((([v2,v3,v4,v5]:List Value).drop 1).take (prog.cellsOf 9))=ys[1]?:=hg2 1 _ rfl
 have k2:DataW.trod enc prog w 0 (λ_=>true) true n2 9 ((([v2,v3,v4,v5]:List Value).drop 2).take (prog.cellsOf 9))=ys[2]?:=hg2 2 _ rfl
 have k3:DataW.trod enc prog w 0 (λ_=>true) true n2 3 ((([v2,v3,v4,v5]:List Value).drop 3).take (prog.cellsOf 3))=ys[3]?:=hg2 3 _ rfl;rw[show prog.cellsOf 9=1 by kernel_rfl,List.getElem?_eq_getElem ω] at k0 k1 k2
 rw[show prog.cellsOf 3=1 by kernel_rfl,List.getElem?_eq_getElem ω] at k3;obtain⟨f1,r0,_⟩:=DataW.trod_string underlying9 g0;obtain⟨f2,r1,_⟩:=DataW.trod_string underlying9 g1;obtain⟨f3,r2,_⟩:=DataW.trod_string underlying9 k0
 obtain⟨f4,r3,_⟩:=DataW.trod_string underlying9 k1;obtain⟨f5,r4,_⟩:=DataW.trod_string underlying9 k2;obtain⟨rd,r5,_⟩:=DataW.trod_int underlying3 k3
 injection r0 with r0;injection r1 with r1;injection r2 with r2;injection r3 with r3;injection r4 with r4;injection r5 with r5;subst r0 r1 r2 r3 r4 r5;exact⟨f1,f2,f3,f4,f5,rd,rfl⟩
end Go.Proofs.IX
namespace Go.Proofs.IX
open Go.Joins Go.ChangeShapes Go.WideShapes Go.RowKit Go.Deep MM Mailsack Go.Proofs.DS
theorem xLv {H:Type} {enc:TypeId×Value->H} {w:World} {fuel:Nat} {v:Value} {x:DataW H×List MemPlace} (hf:DataW.trod enc prog w 0 (λ_=>true) true fuel 23 [v]=some x):
  ∃L:List Wr,RdW w w.heap.size v L/\L.length<=9223372036854775807:=by
 obtain⟨A,len,c,rfl,hlc,hlm,hrow⟩:=pI underlying23 (show prog.cellsOf 154=2 by kernel_rfl) ω hf
 by_cases hn:0<len
 ·obtain⟨b,off,rfl,hb,hi⟩:=hrow hn
  obtain⟨L,hL,hp⟩:=xM4 (α:=Wr) (p:=λj m=>w.cell? ⟨b,off+j*2,none⟩=some (.int .i64 m.at_)/\w.cell? ⟨b,off+j*2+1,none⟩=some (xK m.data)) (n:=len) (λi h=>by
   obtain⟨cs,n,y,hz,hcell,ht1⟩:=hi i h
   obtain⟨c0,c1,rfl⟩:∃c0 c1,cs=[c0,c1]:=by
    match cs,hz with
    |[c0,c1],_=>exact⟨c0,c1,rfl⟩
   obtain⟨xs,n',_,_,_,hlen,hg⟩:=DataW.trod_struct underlying154 ht1;have xU6:xs.length=2:=hlen;have g0:DataW.trod enc prog w 0 (λ_=>true) true n' 3 ((([c0,c1]:List Value).drop 0).take (prog.cellsOf 3))=xs[0]?:=hg 0 _ rfl
   have g1:DataW.trod enc prog w 0 (λ_=>true) true n' 9 ((([c0,c1]:List Value).drop 1).take (prog.cellsOf 9))=xs[1]?:=hg 1 _ rfl;rw[show prog.cellsOf 3=1 by kernel_rfl,List.getElem?_eq_getElem ω] at g0
   rw[show prog.cellsOf 9=1 by kernel_rfl,List.getElem?_eq_getElem ω] at g1;obtain⟨m0,r0,_⟩:=DataW.trod_int underlying3 g0;obtain⟨m1,r1,_⟩:=DataW.trod_string underlying9 g1;injection r0 with r0;injection r1 with r1;subst r0 r1
   exact⟨⟨m0,m1.data.toList⟩,hcell 0 ω,hcell 1 ω⟩)
  subst hL;exact⟨L,⟨_,c,rfl,hlc,λ_=>⟨b,off,rfl,hb,hp⟩⟩,hlm⟩
 ·obtain rfl:len=0:=ω;exact⟨[],⟨A,c,rfl,Nat.zero_le _,λh=>absurd h (Nat.lt_irrefl _)⟩,σ⟩
theorem xT5 {H:Type} {enc:TypeId×Value->H} {w:World} {base:Nat} {v:Value} {d:DataW H} {p:List MemPlace}
  (hv:Value.okWide prog w .any base 25 v) (h:DataW.Trod enc prog w 0 (λ_=>true) true 25 v d p):
  ∃(a b:Value) (D:Dk),v=.agg #[a,b]/\RdS w w.heap.size a D.secs/\RdW w w.heap.size b D.cache:=by
 obtain⟨cs,rfl,hsz⟩:=okWide_struct underlying25 hv;have hsz2:cs.size=2:=hsz.trans κ;obtain⟨l⟩:=cs;obtain⟨fuel,hf⟩:=h
 obtain⟨v0,v1,rfl⟩:∃v0 v1,l=[v0,v1]:=by
  match l,hsz2 with
  |[v0,v1],_=>exact⟨v0,v1,rfl⟩
 have hf':DataW.trod enc prog w 0 (λ_=>true) true fuel 25 [v0,v1]=some (d,p):=hf;obtain⟨xs,n,_,_,_,hlen,hg⟩:=DataW.trod_struct underlying25 hf';have xU6:xs.length=2:=hlen
 have g0:DataW.trod enc prog w 0 (λ_=>true) true n 22 ((([v0,v1]:List Value).drop 0).take (prog.cellsOf 22))=xs[0]?:=hg 0 _ rfl;have g1:DataW.trod enc prog w 0 (λ_=>true) true n 23 ((([v0,v1]:List Value).drop 1).take (prog.cellsOf 23))=xs[1]?:=hg 1 _ rfl
 rw[show prog.cellsOf 22=1 by kernel_rfl,List.getElem?_eq_getElem ω] at g0;rw[show prog.cellsOf 23=1 by kernel_rfl,List.getElem?_eq_getElem ω] at g1;have g0':DataW.trod enc prog w 0 (λ_=>true) true n 22 [v0]=some (xs[0]'ω):=g0
 have g1':DataW.trod enc prog w 0 (λ_=>true) true n 23 [v1]=some (xs[1]'ω):=g1;obtain⟨SL,hS,_,hSl⟩:=MM.xAx underlying22 underlying9 κ g0';obtain⟨CL,hC,hCl⟩:=xLv g1';exact⟨v0,v1,⟨SL,CL⟩,rfl,hS,hC⟩
end Go.Proofs.IX
namespace Go.Proofs.NG
theorem xUg:(prog.funcs.toList.any Func.goes)=false:=κ
theorem yBu {P:Program} (h:(P.funcs.toList.any Func.goes)=false) (f:FuncId):P.goes f=false:=by
 have h1:∀g:FuncId,(P.funcs[g]?).any Func.goes=false:=by
  intro g;cases hg:P.funcs[g]? with
  |none=>rfl
  |some fn=>
   have hm:fn∈P.funcs.toList:=Array.mem_toList_iff.2 (Array.mem_of_getElem? hg);simpa using List.any_eq_false.1 h fn hm
 have h2:P.funcs.any Func.goes=false:=by rw[<-Array.any_toList];exact h
 unfold Program.goes;rw[h2,Bool.and_false,Bool.or_false];exact List.any_eq_false.2 λg _=>by rw[h1 g];simp
theorem xUh {P:Program} (h:(P.funcs.toList.any Func.goes)=false) {c:OpenClaim} (hc:c.start=.entering):false=c.goesBy P:=by
 unfold OpenClaim.goesBy Program.goesAt Program.goesFrom;rw[hc]
 have h1:∀o:Option FuncId,o.any P.goes=false:=λo=>by
  cases o with
  |none=>rfl
  |some f=>exact yBu h f
 rw[h1]
 rfl
theorem goesBy {c:OpenClaim} (hc:c.start=.entering):false=c.goesBy prog:=xUh xUg hc
end Go.Proofs.NG
/- Contracts of functions. Conditions: as stated. -/
import Derived.Test.YtnafbinmecekeaaGreatDoorImapSearchesProofB14
open Go.Proofs.Tryz
set_option maxHeartbeats 8000000
set_option maxRecDepth 100000
namespace Go.Proofs.IM
open Go.RowKit MM BU Mailsack SV RK DS IX BK QU Go.Proofs.VA
def vwZ:List Value:=[.int .i64 0,.int .i64 0,.int .i64 0,.int .i64 0,.string ⟨#[]⟩,.int .i64 0,.int .i64 0]
structure VwS (w1:World) (fs:List Value) (a s:Bool) (W:World):Prop where
 bel:ψ w1 W
 size:a=false->W.heap.size=w1.heap.size
 z:a=true->s=false->W.heap[w1.heap.size]?=some (.cells vwZ.toArray 62 (0,0))
 f:s=true->W.heap[w1.heap.size]?=some (.cells fs.toArray 62 (0,0))
theorem VwS.start (w1:World) (fs:List Value):VwS w1 fs false false w1.drew:=⟨(Below.refl _ _).drew,λ_=>rfl,λe=>(by cases e),λe=>(by cases e)⟩
theorem VwS.new {w1:World} {fs:List Value} {s:Bool} {W:World} (h:VwS w1 fs false s W):VwS w1 fs true s (W.alloc (.cells vwZ.toArray 62)):=by
 refine⟨h.bel.alloc (Nat.le_of_eq (h.size rfl).symm) _,λe=>(by cases e),λ_ _=>?_,λe=>?_⟩
 ·rw[<-h.size rfl];exact xI _ _
 ·have:=xJ (h.f e);rw[h.size rfl] at this;exact absurd this (Nat.lt_irrefl _)
theorem VwS.set {w1:World} {fs:List Value} {W:World} (h:VwS w1 fs true false W) (hl:fs.length=7):VwS w1 fs true true (yX w1.heap.size 0 fs W):=
 ⟨zU ν _ 0 _ h.bel,λe=>(by cases e),λ_ e=>(by cases e),λ_=>uU (h.z rfl rfl) (by simp[vwZ,hl])⟩
def SrK (S:List Value) (l0:Bs) (vs:List Value) (l:Bs) (_W:World):Prop:=vs=S/\l=l0
structure AlJ (w1:World) (n:Nat) (P:Option Addr->Nat->World->Prop) (L:Nat->Bool) (α:Nat->Value) (W:World):Prop where
 b:ψ w1 W
 c:L 9=true->∃A c,α 9=.tuple #[.slice A n c,.bool true]/\P A c W/\(L 10=true->α 10=.tuple #[.slice A n c,.bool true])/\(L 11=true->α 11=.slice A n c)/\(L 13=true->α 13=.slice A n c)
section
variable {w1 W W':World} {n:Nat} {P:Option Addr->Nat->World->Prop} {L L':Nat->Bool} {α α':Nat->Value}
theorem AlJ.start (w1:World) (n:Nat) (P:Option Addr->Nat->World->Prop) (α:Nat->Value):AlJ w1 n P (λ_=>false) α w1.drew:=⟨(Below.refl _ _).drew,λe=>(by cases e)⟩
theorem AlJ.congr (h:AlJ w1 n P L α W) (hl:∀i,i=9∨i=10∨i=11∨i=13->L i=L' i) (ha:∀i,i=9∨i=10∨i=11∨i=13->L i=true->α i=α' i):AlJ w1 n P L' α' W:=by
 refine⟨h.b,λe=>?_⟩;have e9:=(hl 9 σ).trans e;obtain⟨A,c,h1,h2,h3,h4,h5⟩:=h.c e9;refine⟨A,c,(ha 9 σ e9)▸h1,h2,λe=>?_,λe=>?_,λe=>?_⟩
 ·have e2:=(hl 10 σ).trans e;exact(ha 10 σ e2)▸h3 e2
 ·have e2:=(hl 11 σ).trans e;exact(ha 11 σ e2)▸h4 e2
 ·have e2:=(hl 13 σ).trans e;exact(ha 13 σ e2)▸h5 e2
theorem AlJ.call (h:AlJ w1 n P L α W) (h10:L 10=false) (h11:L 11=false) (h13:L 13=false) (hb:ψ W W') {A:Option Addr} {c:Nat} (hP:P A c W'):AlJ w1 n P (λj=>j==9||L j) (RG.xGf α 9 (.tuple #[.slice A n c,.bool true])) W':=by
 refine⟨h.b.trans (hb.mono h.b.size),λ_=>⟨A,c,RG.wP _ _ _,hP,λe=>?_,λe=>?_,λe=>?_⟩⟩
 ·simp[h10] at e
 ·simp[h11] at e
 ·simp[h13] at e
theorem AlJ.move (h:AlJ w1 n P L α W) (hc:L 9=true):∃A c,α 9=.tuple #[.slice A n c,.bool true]/\AlJ w1 n P (λi=>i==10||L i) (RG.xGf α 10 (.tuple #[.slice A n c,.bool true])) W:=by
 obtain⟨A,c,h1,h2,h3,h4,h5⟩:=h.c hc;refine⟨A,c,h1,h.b,λ_=>⟨A,c,by rw[RG.yY _ _ _ ω];exact h1,h2,λ_=>RG.wP _ _ _,λe=>?_,λe=>?_⟩⟩
 ·rw[RG.yY _ _ _ ω];exact h4 (by simpa using e)
 ·rw[RG.yY _ _ _ ω];exact h5 (by simpa using e)
theorem AlJ.take (h:AlJ w1 n P L α W) (hc:L 9=true) (hm:L 10=true):∃A c,α 10=.tuple #[.slice A n c,.bool true]/\AlJ w1 n P (λi=>i==11||L i) (RG.xGf α 11 (.slice A n c)) W:=by
 obtain⟨A,c,h1,h2,h3,h4,h5⟩:=h.c hc;refine⟨A,c,h3 hm,h.b,λ_=>⟨A,c,by rw[RG.yY _ _ _ ω];exact h1,h2,λ_=>by rw[RG.yY _ _ _ ω];exact h3 hm,λ_=>RG.wP _ _ _,λe=>?_⟩⟩;rw[RG.yY _ _ _ ω];exact h5 (by simpa using e)
theorem AlJ.name (h:AlJ w1 n P L α W) (hc:L 9=true) (hm:L 11=true):∃A c,α 11=.slice A n c/\AlJ w1 n P (λi=>i==13||L i) (RG.xGf α 13 (.slice A n c)) W:=by
 obtain⟨A,c,h1,h2,h3,h4,h5⟩:=h.c hc;refine⟨A,c,h4 hm,h.b,λ_=>⟨A,c,by rw[RG.yY _ _ _ ω];exact h1,h2,λe=>?_,λ_=>by rw[RG.yY _ _ _ ω];exact h4 hm,λ_=>RG.wP _ _ _⟩⟩;rw[RG.yY _ _ _ ω];exact h3 (by simpa using e)
end
theorem xPd (b:Nat) (d0 d1 bv sv sl n0 n1 n2 n3 n4 n5:Value) (d:Dk) (u xW old bx:ByteArray) (ep m:Int) (x:zO) (o1 o2 ub:Bool) (ws:List Bs) (W:World) (hC:Cmd b #[d0,d1,.string u,.string xW,.string old,.int .i64 ep,bv,sv,.int .i64 x.given,.string bx,.bool o1,.bool o2,n0,n1,n2,n3,n4,n5,sl,.bool ub,.pointer none,.slice none 0 0] [] W)
  (hD:RdD W W.heap.size d0 d1 d) (hx:xIn W W.heap.size bv sv x) (hr:uZ x=true)
  (hall:∀W2,ψ W W2->Calls prog 191 #[sl,.int .i64 (ws.length:Nat)] W2 λe w'=>∃A9 c9,e=.returned (.tuple #[.slice A9 ws.length c9,.bool true])/\RdS w' w'.heap.size (.slice A9 ws.length c9) ws/\ψ W2 w')
  (hsl:∃A c,sl=.slice A ws.length c) (hs:tZ ws) (hu:u.size<=1000000) (htx:∀t∈xG2 d u xW old ep (zF x bx.data.toList),t.length<=1000) (hm:W.cell? ⟨2,0,none⟩=some (.int .i64 m)) (hmb:2<W.heap.size) (hT:VaT W):
  Calls prog 124 #[xIs b] W (xOu ub (λvs l W'=>∃K,zW ws=some K/\xIq d u xW old ep (zF x bx.data.toList)=true/\SrK [d0,d1,.string u,.string xW,.string old,.int .i64 ep,bv,sv,.int .i64 x.given,.string bx,.bool o1,.bool o2] ([42,32]++uY ub K (zF x bx.data.toList) (xG2 d u xW old ep (zF x bx.data.toList)) (zF x bx.data.toList).length++[13,10]) vs l W')
   (zW ws≠none/\xIq d u xW old ep (zF x bx.data.toList)=false) (zW ws=none) b n0 n1 n2 n3 n4 n5 sl W):=by
 obtain⟨A8,c8,rfl⟩:=hsl;have HAL:=ι hall;have hbl:=xJ hC.blk;have HBL:=ι hbl;have hrm:=xEi hr bx.data.toList;have HLT:Hid ((xG2 d u xW old ep (zF x bx.data.toList)).length=(zF x bx.data.toList).length):=ι (by simp[xG2])
 have HMA:Hid (∀W2,ψ W W2->Calls prog 218 #[xIs b] W2 λe w'=>∃mv,e=.returned mv/\uN w' w'.heap.size mv (zF x bx.data.toList)/\ψ W2 w'):=ι (λW2 hb2=>by
  have c:=xC hC.blk hb2 hbl;have h9:W2.cell? ⟨b,9,none⟩=some (xK bx.data.toList):=by have h:=xA c 9;simpa[xK] using h
  exact xTj b bv sv x bx.data.toList W2 (xJ c) (xA c 6) (xA c 7) (xA c 8) h9 ((hx.below hb2 ν).more hb2.size) (by have:=(xEj hr).1;omega))
 have HTX:Hid (∀W2 mv,ψ W W2->uN W2 W2.heap.size mv (zF x bx.data.toList)->Calls prog 219 #[xIs b,mv] W2 λe w'=>∃A n c,e=.returned (.tuple #[.slice A n c,.bool (xIq d u xW old ep (zF x bx.data.toList))])/\(xIq d u xW old ep (zF x bx.data.toList)=true->RdS w' w'.heap.size (.slice A n c) (xG2 d u xW old ep (zF x bx.data.toList)))/\ψ W2 w'):=ι (λW2 mv hb2 hmv=>by
  have c:=xC hC.blk hb2 hbl
  refine xL9 b d0 d1 mv bv sv d u xW old ep x.given (zF x bx.data.toList) W2 (xJ c) (xA c 0) (xA c 1) (xA c 2) (xA c 3) (xA c 4) (xA c 5) (xA c 6) (xA c 7) (xA c 8) ?_ ?_ ((hD.below hb2 ν).more hb2.size) hmv ω (λm hm=>by have:=(hrm.2 m hm).2.1;omega) hu (hT.below hb2)
  ·obtain⟨Ab,cb,e,_⟩:=hx.boxes;exact⟨_,_,_,e⟩
  ·obtain⟨As,cs,e,_⟩:=hx.subs;exact⟨_,_,_,e⟩)
 have HPA:Hid (∀W2 v,ψ W W2->RdS W2 W2.heap.size v ws->Calls prog 12 #[v] W2 (yCh W2 (zW ws))):=ι (λW2 v hb2 hv=>xBs v ws m W2 hv hs ((hb2.cell (p:=⟨2,0,none⟩) hmb).trans hm))
 have hone:∀v∈[d0,d1,.string u,.string xW,.string old,.int .i64 ep,bv,sv,.int .i64 x.given,.string bx,.bool o1,.bool o2],v.oneCell'=true:=by
  obtain⟨A1,c1,A2,c2,rfl,rfl⟩:=vY hD;obtain⟨Ab,cb,rfl,_⟩:=hx.boxes;obtain⟨As,cs,rfl,_⟩:=hx.subs;intro v hv;simp only[List.mem_cons,List.not_mem_nil,or_false] at hv;rcases hv with rfl|rfl|rfl|rfl|rfl|rfl|rfl|rfl|rfl|rfl|rfl|rfl<;>rfl
 have jQ:=ι hone;have HC0:=ι hC;have HT:=ι hT;have HKL:Hid (∀K,zW ws=some K->K.length<=1000000):=ι (λK h=>by have:=xGd h;have:=hs.1;omega);have HRM:=ι hrm;have HTL:=ι htx;generalize zF x bx.data.toList=L at HMA HTX HRM HTL HLT hrm⊢
 generalize xG2 d u xW old ep L=tx at HTX HTL HLT⊢;generalize xIq d u xW old ep L=op at HTX⊢;generalize zW ws=qp at HPA HKL⊢;have hL30:=hrm.1;clear hall hC hD hx hr hs hu htx hm hmb hT hone hbl hrm;go_enter func124,ntmps124;go_upto_region 1 with fail
 refine RG.qR [] [9,10,11,13] (λL9 α W9=>Hid (AlJ W ws.length (λA c W'=>RdS W' W'.heap.size (.slice A ws.length c) ws) L9 α W9)) (λL9 L' α α' W9 hl ha h=>ι (h.o.congr (λi hi=>hl i (by simp;omega)) (λi hi=>ha i (by simp;omega)))) κ κ κ (ι (AlJ.start _ _ _ _)) ?_
 iterate 9
  apply RG.qZ
  ·rfl
  ·rfl
  ·intro α L w9 h0 hcl xP hw9;have hb:=xC HC0.o.blk hw9.o.b HBL.o;have k18:=xA hb 18;simp only[gA,gB,gC] at k18;clear hb;repeat go_step
   exact RG.xB hw9
  ·intro α;rfl
 apply RG.xBb
 ·rfl
 ·intro α L9 w9 h0 hcl xP hw9;have e10:L9 10=false:=hcl.not 30 (i:=10) h0 κ;have e11:L9 11=false:=hcl.not 30 (i:=11) h0 κ;have e13:L9 13=false:=hcl.not 30 (i:=13) h0 κ;repeat go_step
  refine(HAL.o w9 hw9.o.b).mono ?_;rintro e w10 ⟨A9,c9,rfl,hrd,hb⟩;have HJ:=ι (AlJ.call hw9.o e10 e11 e13 hb hrd);clear hrd hb hw9 e10 e11 e13;simp only[];repeat go_step
  exact⟨rfl,_,rfl,HJ⟩
 ·intro b α;rfl
 apply RG.xBb
 ·rfl
 ·intro α L9 w9 h0 hcl xP hw9
  have fc:L9 9=true:=by
    have:=xP.yes 30 (i:=10) (j:=9) σ κ;simpa using this
  obtain⟨A9,c9,q1,q2⟩:=AlJ.move hw9.o fc;have Q:Hid (α 9=.tuple #[.slice A9 ws.length c9,.bool true]):=ι q1;have HJ:=ι q2;rw[show α (0+1+1+1+1+1+1+1+1+1)=_ from Q.o];clear q1 q2 hw9;repeat go_step
  exact⟨rfl,_,rfl,HJ⟩
 ·intro b α;rfl
 apply RG.xBb
 ·rfl
 ·intro α L9 w9 h0 hcl xP hw9
  have fc:L9 9=true:=by
    have:=xP.yes 30 (i:=11) (j:=9) σ κ;simpa using this
  have fm:L9 10=true:=by
    have:=xP.yes 30 (i:=11) (j:=10) σ κ;simpa using this
  obtain⟨A9,c9,q1,q2⟩:=AlJ.take hw9.o fc fm;have Q:Hid (α 10=.tuple #[.slice A9 ws.length c9,.bool true]):=ι q1;have HJ:=ι q2;rw[show α (0+1+1+1+1+1+1+1+1+1+1)=_ from Q.o];clear q1 q2 hw9;repeat go_step
  exact⟨rfl,_,rfl,HJ⟩
 ·intro b α;rfl
 apply RG.qZ (v:=.bool true)
 ·rfl
 ·rfl
 ·intro α L9 w9 h0 hcl xP hw9
  have fc:L9 9=true:=by
    have:=xP.yes 30 (i:=12) (j:=9) σ κ;simpa using this
  have fm:L9 10=true:=by
    have:=xP.yes 30 (i:=12) (j:=10) σ κ;simpa using this
  obtain⟨A9,c9,q1,q2⟩:=AlJ.take hw9.o fc fm;have Q:Hid (α 10=.tuple #[.slice A9 ws.length c9,.bool true]):=ι q1;rw[show α (0+1+1+1+1+1+1+1+1+1+1)=_ from Q.o];clear q1 q2;repeat go_step
  rw[<-show α (0+1+1+1+1+1+1+1+1+1+1)=_ from Q.o];exact RG.xB hw9
 ·intro α;rfl
 apply RG.xBb
 ·rfl
 ·intro α L9 w9 h0 hcl xP hw9
  have fc:L9 9=true:=by
    have:=xP.yes 30 (i:=13) (j:=9) σ κ;simpa using this
  have fm:L9 11=true:=by
    have:=xP.yes 30 (i:=13) (j:=11) σ κ;simpa using this
  obtain⟨A9,c9,q1,q2⟩:=AlJ.name hw9.o fc fm;have Q:Hid (α 11=.slice A9 ws.length c9):=ι q1;have HJ:=ι q2;rw[show α (0+1+1+1+1+1+1+1+1+1+1+1)=_ from Q.o];clear q1 q2 hw9;repeat go_step
  exact⟨rfl,_,rfl,HJ⟩
 ·intro b α;rfl
 refine RG.vS ?_;refine RG.xL0 (λα w1 hw1=>?_);obtain⟨A9,c9,q1,q2,q3,q4,q5⟩:=hw1.o.c rfl;have H1:=ι (And.intro hw1.o.b q2)
 try simp only[Nat.zero_add,Nat.reduceAdd]
 rw[show α 9=_ from q1,show α 10=_ from q3 rfl,show α 11=_ from q4 rfl,show α 13=_ from q5 rfl];clear q1 q2 q3 q4 q5 hw1 HAL;go_wp2_with fail
 refine(HPA.o w1 _ H1.o.1 H1.o.2).mono ?_;rintro e w2 ⟨hb2,hq⟩;have H2:=ι (H1.o.1.trans (hb2.mono H1.o.1.size));clear H1 HPA hb2;cases qp with
 |none=>
  obtain rfl:=hq;go_wp2;go_ret;exact .inr (.inr ⟨rfl,by first|rfl|trivial,(H2.o.alloc H2.o.size _).mono (Nat.le_of_lt HBL.o)⟩)
 |some K=>
  obtain⟨v,kvs,rfl,hk⟩:=hq;have HK:=ι hk;have HB:=ι (H2.o.alloc H2.o.size (.cells #[v] 51));have HQ:=ι (And.intro (xI w2 (.cells #[v] 51)) (φ w2 (.cells #[v] 51)));have hv1:v.oneCell'=true:=by obtain⟨A,c,rfl,_⟩:=hk.form;rfl
  have V0:=λ(W:World) (a:Addr)=>run_store prog W a v .plain hv1;clear hk hv1;go_wp2_with fail
  refine(HMA.o _ HB.o).mono ?_;rintro e w4 ⟨mv,rfl,hmm,hb4⟩;have H4:=ι (HB.o.trans (hb4.mono HB.o.size));have HQ4:=ι (And.intro (xC HQ.o.1 hb4 (xJ HQ.o.1)) (HQ.o.2.trans (hb4.mono HQ.o.2.size)));have HM4:=ι hmm;clear hmm hb4 HB HMA HQ;clear V0;go_wp2_with fail
  refine(HTX.o w4 mv H4.o HM4.o).mono ?_;rintro e w5 ⟨A5,n5,c5,rfl,htx5,hb5⟩;have H5:=ι (H4.o.trans (hb5.mono H4.o.size));have HQ5:=ι (And.intro (xC HQ4.o.1 hb5 (xJ HQ4.o.1)) (HK.o.below ((HQ4.o.2.trans (hb5.mono HQ4.o.2.size)))));have HM5:=ι ((HM4.o.below hb5 ν).more hb5.size)
  clear H4 HQ4 HM4 HTX hb5 HK H2;cases op with
  |false=>
   clear htx5;go_wp2;go_ret;exact .inr (.inl ⟨rfl,σ,H5.o.mono (Nat.le_of_lt HBL.o)⟩)
  |true=>
   have HX5:=htx5 rfl;obtain⟨A6,c6,e6,hc6,hx6⟩:=id HX5;injection e6 with e6 e6' e6'';subst e6 e6' e6'';rw[HLT.o] at HX5 hx6 hc6;rw[HLT.o];obtain⟨Am,cm,rfl,hcm,hmc⟩:=HM5.o;have HMC:=ι hmc;have HXC:=ι hx6;have HC5:=ι (xC HC0.o.blk H5.o HBL.o);have HT5:=ι (HT.o.below H5.o)
   have HKL2:=HKL.o K rfl;clear HX5 hx6 hmc htx5 hcm hc6;obtain⟨ln,hln⟩:∃n,L.length=n:=⟨_,rfl⟩;have HLN:=ι hln;rw[hln] at hL30 HMC HXC;rw[hln];clear hln;go_wp2_with fail
   go_loopw [10,48] (λtv iv wr=>∃(k:Nat) (lb:ByteArray),k<=ln/\tv=.string lb/\iv=.int .i64 k/\Hid (lb=⟨(uY ub K L tx k).toArray⟩)/\Hid (ψ w5 wr)) (λ_ iv _=>ln- (intOf iv).toNat)
   case atStart=>exact⟨0,⟨#[83,69,65,82,67,72]⟩,Nat.zero_le _,rfl,rfl,ι rfl,ι (Below.refl _ _)⟩
   case round=>
    obtain⟨k,lb,hk,rfl,rfl,HLB,HI⟩:=hrel
    by_cases hlt:k<ln
    ·obtain⟨mm,hmm⟩:∃mm,L[k]?=some mm:=⟨_,List.getElem?_eq_getElem (by rw[HLN.o];exact hlt)⟩;obtain⟨nl,hnl⟩:∃nl,ln=nl+1:=⟨ln-1,ω⟩;obtain⟨ml,hml⟩:∃ml,L[nl]?=some ml:=⟨_,List.getElem?_eq_getElem (by rw[HLN.o];omega)⟩
     obtain⟨tk,htk⟩:∃tk,tx[k]?=some tk:=⟨_,List.getElem?_eq_getElem (by rw[HLT.o,HLN.o];exact hlt)⟩;obtain⟨g,off,rfl,hg,hcs⟩:=HMC.o ω;obtain⟨gx,offx,rfl,hgx,hcx⟩:=HXC.o ω;obtain⟨e0,e1,e2,e3⟩:=hcs k mm hmm;obtain⟨e4,_⟩:=hcs nl ml hml;have e5:=hcx k tk htk
     have HV:Hid (rH L tx k=⟨(k:Int)+1,mm.uid,mm.flags,mm.size,tk,ln,ml.uid⟩):=ι (by
      unfold rH;simp only[List.getD_eq_getElem?_getD,hmm,htk,HLN.o,hnl,Nat.add_sub_cancel,hml,Option.getD_some])
     have HNM:Hid (vH ub L k=if ub=true then mm.uid else(k:Int)+1):=ι (by
      unfold vH;simp only[List.getD_eq_getElem?_getD,hmm,Option.getD_some])
     have HGV:Hid (xKq (rH L tx k)):=ι (by
      rw[HV.o];exact⟨(HRM.o.2 mm (List.mem_of_getElem? hmm)).2.2.1,(HRM.o.2 mm (List.mem_of_getElem? hmm)).2.2.2,HTL.o tk (List.mem_of_getElem? htk)⟩)
     have hmu:=(HRM.o.2 mm (List.mem_of_getElem? hmm)).1;have HLS:Hid (uY ub K L tx (k+1)=if xVv K (rH L tx k)=true then uY ub K L tx k++([32]++Lib.itoa (vH ub L k)) else uY ub K L tx k):=ι rfl
     have hls:lb.size<=906:=by
      have:=xC1 (ub:=ub) (K:=K) (T:=tx) (λm hm=>(HRM.o.2 m hm).1) HRM.o.1 k (by rw[HLN.o];omega);rw[HLB.o];show(uY ub K L tx k).length<=906;omega
     have HHO:Hid (∀W2,ψ w5 W2->Calls prog 16 #[.agg #[v],uL (rH L tx k)] W2 λe W'=>e=.returned (.bool (xVv K (rH L tx k)))/\ψ W2 W'):=ι (λW2 hb=>xK3 _ v kvs K (rH L tx k) W2 HGV.o (HQ5.o.2.below hb) HKL2)
     have hnm:=xLy (ub:=ub) (λm hm=>(HRM.o.2 m hm).1) HRM.o.1 (i:=k) (by rw[HLN.o];exact hlt)
     have HIT:Hid (∀W2,ψ w5 W2->Calls prog 78 #[.int .i64 (vH ub L k)] W2 λe W'=>e=.returned (.string ⟨(Lib.itoa (vH ub L k)).toArray⟩)/\ψ W2 W'):=ι (λW2 hb=>by
      refine(Tryz.strconv_Itoa (vH ub L k) ω ω W2 (HT5.o.tab W2 hb)).mono ?_;rintro e W' ⟨rfl,k1,os1,hw1⟩;exact⟨rfl,by subst hw1;exact Lib.below_grow _ _ ν _ _⟩)
     have hdl:(⟨(Lib.itoa (vH ub L k)).toArray⟩:ByteArray).size<=100:=by
      have:=Lib.itoa_length_le (vH ub L k) ω ω;show(Lib.itoa (vH ub L k)).length<=100;omega
     obtain⟨hit,hhit⟩:∃h,xVv K (rH L tx k)=h:=⟨_,rfl⟩;rw[hhit] at HHO HLS;rw[HV.o] at HHO;rw[HNM.o] at HIT hdl;have HDB:Hid (Lib.itoa (vH ub L k)=Lib.itoa (if ub=true then mm.uid else(k:Int)+1)):=ι (by rw[HNM.o])
     obtain⟨db,hdb⟩:∃db:ByteArray,(⟨(Lib.itoa (if ub=true then mm.uid else(k:Int)+1)).toArray⟩:ByteArray)=db:=⟨_,rfl⟩;rw[hdb] at HIT hdl;have HDB2:=ι hdb;obtain⟨tb,htb⟩:∃tb:ByteArray,(⟨tk.toArray⟩:ByteArray)=tb:=⟨_,rfl⟩;simp only[uL,xK,htb] at HHO
     have q0:=(HI.o.cell (p:=⟨g,off+k*4,none⟩) hg).trans e0;have q1:=(HI.o.cell (p:=⟨g,off+k*4+1,none⟩) hg).trans e1;have q2:=(HI.o.cell (p:=⟨g,off+k*4+2,none⟩) hg).trans e2;have q3:=(HI.o.cell (p:=⟨g,off+k*4+3,none⟩) hg).trans e3
     have e6:w5.cell? ⟨gx,offx+k,none⟩=some (.string tb):=by rw[<-htb];exact e5
     have HE:=ι (And.intro hg (And.intro e4 (And.intro hgx e6)));have hal:=φ wr (.cells #[.int .i64 mm.uid,.int .i64 mm.flags,.int .i64 mm.object,.int .i64 mm.size] 58)
     have HA:=ι (And.intro (HI.o.trans (hal.mono HI.o.size)) (xI wr (.cells #[.int .i64 mm.uid,.int .i64 mm.flags,.int .i64 mm.object,.int .i64 mm.size] 58)));clear hmm hml htk hcs hcx e0 e1 e2 e3 e4 e5 e6 HI hal HV HNM HGV hhit htb hdb hnm hg hgx HMC HXC HRM HTL
     have hm1:(ln:Int)-1=(nl:Int):=ω;have hnlt:nl<ln:=ω;clear hnl;go_upto_region 15 with fail
     clear q0 q1 q2 q3;obtain⟨g9,hg9⟩:∃g,wr.heap.size=g:=⟨_,rfl⟩;obtain⟨w6,hw6⟩:∃w6,wr.alloc (.cells #[.int .i64 mm.uid,.int .i64 mm.flags,.int .i64 mm.object,.int .i64 mm.size] 58)=w6:=⟨_,rfl⟩;rw[hw6] at HA⊢;rw[hg9] at HA⊢;clear hw6 hg9
     refine RG.yI [22,23] (λL9 W9=>Hid (VwS w6 [.int .i64 ((k:Int)+1),.int .i64 mm.uid,.int .i64 mm.flags,.int .i64 mm.size,.string tb,.int .i64 (ln:Int),.int .i64 ml.uid] (L9 22) (L9 23) W9)) (λL9 L' W9 hl h=>by rw[<-hl 22 σ,<-hl 23 σ];exact h) κ κ κ (ι (VwS.start w6 _)) ?_
     iterate 22
      apply RG.qH
      ·rfl
      ·intro L w9 hw9;have hb9:=HA.o.1.trans (hw9.o.bel.mono HA.o.1.size);have c9':=xC HA.o.2 hw9.o.bel (xJ HA.o.2);obtain⟨c0,c1,c2,c3⟩:=cbl4 c9';have x4:=(hb9.cell (p:=⟨g,off+nl*4,none⟩) HE.o.1).trans HE.o.2.1
       have x5:=(hb9.cell (p:=⟨gx,offx+k,none⟩) HE.o.2.2.1).trans HE.o.2.2.2;clear hb9 c9';repeat go_step
       exact RG.xB hw9
      ·rfl
     apply RG.xV
     ·rfl
     ·intro L9 w9 h0 _ hw9;have hh:=hw9.o;rw[h0] at hh;have hsz:=hh.size rfl;have HN:=ι hh.new;clear hw9 hh;repeat go_step
      try rw[hsz]
      refine RG.xB ?_;show Hid (VwS w6 _ true (L9 23) _);exact HN
     ·rfl
     apply RG.xV
     ·rfl
     ·intro L9 w9 h0 hdp hw9;have hh:=hw9.o;rw[h0,hdp 22 δ] at hh;have hz:w9.heap[w6.heap.size]?=some (.cells #[.int .i64 0,.int .i64 0,.int .i64 0,.int .i64 0,.string ⟨#[]⟩,.int .i64 0,.int .i64 0] 62 (0,0)):=hh.z rfl rfl;have hn:=hh.set rfl
      simp only[yX,Nat.reduceAdd] at hn;have hbz:=hh.bel;have HN:=ι hn
      obtain⟨o0,y0,f0,o1,y1,f1,o2,y2,f2,o3,y3,f3,o4,y4,f4,o5,y5,f5,o6,y6,f6,HB⟩:=cpl7 hz hbz ω (.int .i64 ((k:Int)+1)) (.int .i64 mm.uid) (.int .i64 mm.flags) (.int .i64 mm.size) (.string tb) (.int .i64 (ln:Int)) (.int .i64 ml.uid) _ rfl;clear hw9 hh hn hz hbz;repeat go_step
      refine RG.xB ?_;show Hid (VwS w6 _ (L9 22) true _);rw[hdp 22 δ];with_reducible exact HN
     ·rfl
     refine RG.xY (λw7 hw7=>?_);have H7:=ι (And.intro (HA.o.1.trans (hw7.o.bel.mono HA.o.1.size)) (And.intro (hw7.o.f rfl) (xC HA.o.2 hw7.o.bel (xJ HA.o.2))));clear hw7;generalize w6.heap.size=g6 at H7⊢;clear HA;have y0:=xA (xC HQ5.o.1 H7.o.1 (xJ HQ5.o.1)) 0;have z7:=H7.o.2.1
     obtain⟨v0,v1,v2,v3,v4,v5,v6⟩:=cbl7 z7;clear z7;go_wp2_with fail
     refine(HHO.o w7 H7.o.1).mono ?_;rintro e w8 ⟨rfl,hb8⟩;have H8:=ι (And.intro (H7.o.1.trans (hb8.mono H7.o.1.size)) (xC H7.o.2.2 hb8 (xJ H7.o.2.2)));clear H7 HHO hb8 y0 v0 v1 v2 v3 v4 v5 v6;have yBn:=H8.o.1;cases hit with
     |false=>
      have HL9:Hid (lb=⟨(uY ub K L tx (k+1)).toArray⟩):=ι (by rw[HLS.o,HLB.o];rfl);have HB9:=ι yBn;clear HLS HLB yBn H8 HIT;go_wp2
      go_roundw
      case rel=>
       exact⟨k+1,lb,ω,rfl,by go_num,HL9,HB9⟩
      case measure=>simp[intOf];omega
     |true=>
      have y19:=xA (xC HC5.o yBn (xJ HC5.o)) 19;have m0:=xA H8.o.2 0;simp only[gA,gB,gC] at y19 m0
      have HL9:Hid (∀b9:ByteArray,b9=lb++(⟨#[32]⟩++db)->b9=⟨(uY ub K L tx (k+1)).toArray⟩):=ι (by
       intro b9 h9;rw[h9,HLS.o,HLB.o,<-HDB2.o,<-HDB.o];apply ByteArray.ext;simp)
      have xVp:¬9223372036854775807<1+db.size:=ω;have xVn:¬9223372036854775807<lb.size+(1+db.size):=ω;have big3:¬9223372036854775807<lb.size+((⟨#[32]⟩:ByteArray)++db).size:=by rw[ByteArray.size_append];show ¬_<lb.size+(1+db.size);omega
      have HB8:=ι yBn;clear HLS HLB H8 yBn HDB HDB2;cases ub with
      |true=>
       go_wp2_with fail
       refine(HIT.o _ HB8.o).mono ?_;rintro e wa ⟨rfl,hba⟩;have HBA:=ι (HB8.o.trans (hba.mono HB8.o.size));clear hba HB8;go_wp2
       go_roundw
       case rel=>exact⟨k+1,_,ω,rfl,by go_num,ι (HL9.o _ rfl),HBA⟩
       case measure=>simp[intOf];omega
      |false=>
       go_wp2_with fail
       refine(HIT.o _ HB8.o).mono ?_;rintro e wa ⟨rfl,hba⟩;have HBA:=ι (HB8.o.trans (hba.mono HB8.o.size));clear hba HB8;go_wp2
       go_roundw
       case rel=>exact⟨k+1,_,ω,rfl,by go_num,ι (HL9.o _ rfl),HBA⟩
       case measure=>simp[intOf];omega
    ·obtain rfl:k=ln:=ω
     have hls:(uY ub K L tx k).length<=906:=by
      have:=xC1 (ub:=ub) (K:=K) (T:=tx) (λm hm=>(HRM.o.2 m hm).1) HRM.o.1 k (by rw[HLN.o];omega);omega
     have hlb:lb.size<=906:=by rw[HLB.o];exact hls
     have hcw:=xC HC5.o HI.o (xJ HC5.o);have HTE:=ι (xHf b _ [] lb wr (xMq hcw rfl rfl rfl) (by simp;omega));have HBW:Hid (Below b W wr):=ι ((H5.o.trans (HI.o.mono H5.o.size)).mono (Nat.le_of_lt HBL.o));clear HMC HXC HRM HTL HQ5 hcw HI;go_wp2_with fail
     refine HTE.o.mono ?_;rintro e wt ⟨rfl,vq,hct,hbt⟩;have HCT:=ι hct;have HBT:=ι (HBW.o.trans hbt);clear hct hbt HTE;go_wp2;go_ret;refine .inl ⟨_,_,_,_,_,_,_,_,_,_,_,_,_,_,_,rfl,HCT.o,?_,jQ.o,?_,HBT.o⟩
     ·first
       |exact⟨K,rfl,rfl,rfl,by simp[HLB.o,HLN.o]⟩
       |exact⟨rfl,by simp[HLB.o,HLN.o]⟩
     ·simp[HLB.o];omega
end Go.Proofs.IM
namespace Go.Proofs.IM
open Go.RowKit MM BU Mailsack SV VB MP
theorem yC3 (ub:Bool) (K:List Value->Bs->World->Prop) (N1 N2:Prop) (d0 d1 s0 s1 s2 s3 s4 s5 s6 s7 s8 s9 n0 n1 n2 n3 n4 n5 xv lv:Value) (X L:List Bs) (tag unm nm NM:Bs) (rest:List Tok) (nd:Int) (fid:FuncId) (mt:Bool) (w:World)
  (hK:∀vs l,Stb (K vs l)) (hx:RdS w w.heap.size xv X) (hl:RdS w w.heap.size lv L) (hX:∀x∈X,x.length<=1000000) (hn:X.length<=1000) (hn2:L.length<=1000)
  (hone:∀v∈[d0,d1,s0,s1,s2,s3,s4,s5,s6,s7,s8,s9],v.oneCell'=true)
  (hT:qV X L=some ((0,tag)::(if ub=true then(0,unm)::(0,nm)::rest else(0,nm)::rest))) (hun:upP unm=[85,73,68]) (hul:unm.length<=1000000) (htag:tag≠[42]) (hnm:(if ub=true then[85,73,68]++[32]++upP nm else upP nm)=NM) (hid:upP nm≠[85,73,68]) (htl:tag.length<=1000000) (hnl:nm.length<=1000000)
  (hin:(NM,Value.agg #[.int .i64 nd,.func (.func fid) #[] #[]])∈uF) (huq:∀u,(NM,u)∈uF->u=Value.agg #[.int .i64 nd,.func (.func fid) #[] #[]]) (hE:∀args W,(callFunc fid args).run prog W=.ok (.enter fid args) W)
  (hme:∀b sl W,W.heap[b]?=some (.cells #[d0,d1,s0,s1,s2,s3,s4,s5,s6,s7,s8,s9,n0,n1,n2,n3,n4,n5,sl,.bool ub,.pointer none,.slice none 0 0] 129 (0,0))->Calls prog 52 #[xIs b,.int .i64 nd] W λe w'=>e=.returned (.bool mt)/\w'=W) (hmf:mt=false->N2)
  (hrun:mt=true->∀b sl W,ψ w W->w.heap.size<=b->Cmd b #[d0,d1,s0,s1,s2,s3,s4,s5,s6,s7,s8,s9,n0,n1,n2,n3,n4,n5,sl,.bool ub,.pointer none,.slice none 0 0] [] W->RK.RdR 2 tkF W W.heap.size sl rest->Calls prog fid #[xIs b] W (xOu ub K N1 N2 b n0 n1 n2 n3 n4 n5 sl W)):
  Calls prog 25 #[.agg #[d0,d1],.agg #[s0,s1,s2,s3,s4,s5,s6,s7,s8,s9],.agg #[xv,lv],.agg #[n0,n1,n2,n3,n4,n5]] w (rD K N1 N2 d0 d1 s0 s1 s2 s3 s4 s5 s6 s7 s8 s9 tag w):=by
 obtain⟨nm1,xHs,htk⟩:∃nm1 xHs,(if ub=true then((0,unm):Tok)::(0,nm)::rest else(0,nm)::rest)=(0,nm1)::xHs:=by cases ub<;>exact⟨_,_,rfl⟩
 have HN1U:Hid (nm1=if ub=true then unm else nm):=ι (by cases ub<;>(simp at htk;simp[htk.1]));have HR1U:Hid (xHs=if ub=true then(0,nm)::rest else rest):=ι (by cases ub<;>(simp at htk;simp[htk.2]));rw[htk] at hT;have hnl1:nm1.length<=1000000:=by rw[HN1U.o];split<;>assumption
 clear htk
 have HT:=ι (λW (h:ψ w W)=>by
  have:=VB.xG3 xv lv X L W ((hx.below h ν).more h.size) ((hl.below h ν).more h.size) hX hn hn2;rw[hT] at this;exact this)
 have jQ:=ι hone;have HK:=ι hK;have HME:=ι hme;have HMF:=ι hmf;have xW4:=ι hrun;have yCr:=ι (λW b (h:yB W b uF)=>h.hit kV underlying135 (s:=NM) (kV _ hin) hin huq);clear hx hl hX hn hn2 hT hone hK hme hmf hrun hin huq
 have H6:=ι (six w (yQ d0 d1) (uO s0 s1 s2 s3 s4 s5 s6 s7 s8 s9) (.cells #[xv,lv] 81) (drwO n0 n1 n2 n3 n4 n5) (yQ (.slice none 0 0) (.slice none 0 0)) xKs);obtain⟨tb,htb⟩:∃tb:ByteArray,(⟨tag.toArray⟩:ByteArray)=tb:=⟨_,rfl⟩;have hts:tb.size<=1000000:=by rw[<-htb];exact htl
 have hstar:(tb.toList==[42])=false:=by rw[<-htb,ByteArray.toList_eq];exact beq_eq_false_iff_ne.2 htag
 have HTB:=ι htb;have HU:=ι (λW=>VB.vV ⟨nm1.toArray⟩ W (by show nm1.length<_;omega));have HU2:=ι (λW=>VB.vV ⟨nm.toArray⟩ W (by show nm.length<_;omega));obtain⟨nb1,hnb1⟩:∃nb1:ByteArray,(⟨(upP nm1).toArray⟩:ByteArray)=nb1:=⟨_,rfl⟩
 have huid:(nb1.toList==[85,73,68])=ub:=by
  rw[<-hnb1,ByteArray.toList_eq,HN1U.o];cases ub
  ·exact beq_eq_false_iff_ne.2 hid
  ·show(upP unm==[85,73,68])=true;rw[hun];rfl
 obtain⟨nb2,hnb2⟩:∃nb2:ByteArray,(⟨(upP nm).toArray⟩:ByteArray)=nb2:=⟨_,rfl⟩
 have h2s:nb2.size<=1000000:=by
  rw[<-hnb2];show(upP nm).length<=1000000;unfold upP;rw[List.length_map];exact hnl
 obtain⟨nb,hnb⟩:∃nb:ByteArray,(⟨NM.toArray⟩:ByteArray)=nb:=⟨_,rfl⟩
 have HNB:Hid (nb=if ub=true then(⟨#[85,73,68]⟩++(⟨#[32]⟩++nb2):ByteArray) else nb2):=ι (by
  rw[<-hnb,<-hnm,<-hnb2];cases ub
  ·rfl
  ·apply ByteArray.ext;simp)
 have HNB1:Hid (nb1=if ub=true then(⟨#[85,73,68]⟩:ByteArray) else nb2):=ι (by
  rw[<-hnb1,HN1U.o,<-hnb2];cases ub
  ·rfl
  ·show(⟨(upP unm).toArray⟩:ByteArray)=_;rw[hun];rfl)
 simp only[xK,hnb] at yCr;simp only[xK,hnb1] at HU;simp only[xK,hnb2] at HU2;have T0:=λ(W:World) (a:Addr)=>run_store prog W a d0 .plain (jQ.o d0 σ);have T1:=λ(W:World) (a:Addr)=>run_store prog W a d1 .plain (jQ.o d1 σ)
 have U0:=λ(W:World) (a:Addr)=>run_store prog W a s0 .plain (jQ.o s0 σ);have U1:=λ(W:World) (a:Addr)=>run_store prog W a s1 .plain (jQ.o s1 σ);have U2:=λ(W:World) (a:Addr)=>run_store prog W a s2 .plain (jQ.o s2 σ)
 have U3:=λ(W:World) (a:Addr)=>run_store prog W a s3 .plain (jQ.o s3 σ);have U4:=λ(W:World) (a:Addr)=>run_store prog W a s4 .plain (jQ.o s4 σ);have U5:=λ(W:World) (a:Addr)=>run_store prog W a s5 .plain (jQ.o s5 σ)
 have U6:=λ(W:World) (a:Addr)=>run_store prog W a s6 .plain (jQ.o s6 σ);have U7:=λ(W:World) (a:Addr)=>run_store prog W a s7 .plain (jQ.o s7 σ);have U8:=λ(W:World) (a:Addr)=>run_store prog W a s8 .plain (jQ.o s8 σ)
 have U9:=λ(W:World) (a:Addr)=>run_store prog W a s9 .plain (jQ.o s9 σ);have HST:=ι (And.intro T0 (And.intro T1 (And.intro U0 (And.intro U1 (And.intro U2 (And.intro U3 (And.intro U4 (And.intro U5 (And.intro U6 (And.intro U7 (And.intro U8 U9)))))))))))
 clear T0 T1 U0 U1 U2 U3 U4 U5 U6 U7 U8 U9;clear htag hnm htl htb hnb hid hnb1 hnb2 hun hul hnl;go_enter func25,ntmps25;go_wp2_with fail
 refine(HT.o _ H6.o.bel).mono ?_;rintro e w1 ⟨v,rfl,hown,hb1⟩;obtain⟨g,cap,rfl,hcap,hg,hcl⟩:=VB.xNc hown σ;have k0:w1.cell? ⟨g,0,none⟩=some (.int .i64 0):=hcl 0 _ rfl;have k1:w1.cell? ⟨g,1,none⟩=some (.string tb):=by rw[<-HTB.o];exact hcl 1 _ rfl
 have k2:w1.cell? ⟨g,2,none⟩=some (.int .i64 0):=hcl 2 _ rfl;have k3:w1.cell? ⟨g,3,none⟩=some (.string ⟨nm1.toArray⟩):=hcl 3 _ rfl
 have HAR:=ι (And.intro hg (λj x (hj:xHs[j]?=some x) i u (hu:(tkF x)[i]?=some u)=>hcl (4+(j*2+i)) u (by rw[show 4+(j*2+i)=(j*2+i)+1+1+1+1 by omega];simpa[jH] using xL8 xHs j x i u hj hu)));have HB1:=ι (H6.o.bel.trans (hb1.mono H6.o.bel.size));have hz6:=H6.o.size
 have P0:=ι (xC H6.o.p0 hb1 ω);have P1:=ι (xC H6.o.p1 hb1 ω);have P3:Hid (w1.heap[w.heap.size+1+1+1]?=some (drwO n0 n1 n2 n3 n4 n5)):=ι (xC H6.o.p3 hb1 ω);have P4:Hid (w1.heap[w.heap.size+1+1+1+1]?=some (yQ (.slice none 0 0) (.slice none 0 0))):=ι (xC H6.o.p4 hb1 ω)
 have P5:Hid (w1.heap[w.heap.size+1+1+1+1+1]?=some xKs):=ι (xC H6.o.p5 hb1 ω);have hz1:w.heap.size+6<=w1.heap.size:=by have:=hb1.size;omega
 clear hown hb1 hcl hz6 H6 HT;simp only[List.length_cons] at hcap⊢;obtain⟨n9,hn9⟩:∃n9,xHs.length=n9:=⟨_,rfl⟩;have HN9:=ι hn9;rw[hn9] at hcap⊢;clear hn9;have hc2:2<=cap:=ω;have hc9:n9<=cap-2:=ω;go_upto_region 4 with fail
 go_cut [13,14,15] (λv13 v14 v15 wx=>Hid (v13=.string tb/\v14=.string nb1/\(∃A9 c9,v15=.slice A9 n9 c9/\n9<=c9/\(n9≠0->A9=some ⟨g,4,none⟩))/\ψ w1 wx))
 case first=>
  by_cases hc2:cap=2
  ·have hn0:n9=0:=ω;subst hn0;subst hc2;refine RG.xH (λW=>Hid (ψ w1 W)) κ κ (ι (Below.refl _ _).drew) ?_;iterate 8 refine RG.dF (λw9 hw9=>have q1:=(hw9.o.cell (p:=⟨g,1,none⟩) hg).trans k1;have q3:=(hw9.o.cell (p:=⟨g,3,none⟩) hg).trans k3;And.intro (q1) q3) ?_
   apply RG.xG
   ·intro w9 hw9;repeat go_step
    refine(HU.o w9).mono ?_;rintro e w10 ⟨rfl,yP⟩;simp only[];repeat go_step
    refine RG.xB ?_;exact ι (hw9.o.trans (yP.mono hw9.o.size))
   ·rfl
   iterate 5 refine RG.dS ?_
   refine RG.xL (λw2 hb2=>?_);go_wp2_with fail
   go_meet;exact ι ⟨rfl,rfl,⟨_,_,rfl,Nat.zero_le _,λh=>absurd rfl h⟩,hb2.o⟩
  ·skip
   refine RG.xH (λW=>Hid (ψ w1 W)) κ κ (ι (Below.refl _ _).drew) ?_;iterate 8 refine RG.dF (λw9 hw9=>have q1:=(hw9.o.cell (p:=⟨g,1,none⟩) hg).trans k1;have q3:=(hw9.o.cell (p:=⟨g,3,none⟩) hg).trans k3;And.intro (q1) q3) ?_
   apply RG.xG
   ·intro w9 hw9;repeat go_step
    refine(HU.o w9).mono ?_;rintro e w10 ⟨rfl,yP⟩;simp only[];repeat go_step
    refine RG.xB ?_;exact ι (hw9.o.trans (yP.mono hw9.o.size))
   ·rfl
   iterate 5 refine RG.dS ?_
   refine RG.xL (λw2 hb2=>?_);go_wp2_with fail
   go_meet;exact ι ⟨rfl,rfl,⟨_,_,rfl,hc9,λ_=>rfl⟩,hb2.o⟩
 case rest=>
  obtain⟨rfl,rfl,⟨A9,c9,rfl,hnc,hA9⟩,hb2⟩:=hcut.o
  have HA:Hid (RK.RdR 2 tkF wc wc.heap.size (.slice A9 n9 c9) xHs):=ι ⟨A9,c9,by rw[HN9.o],by rw[HN9.o];exact hnc,λhne=>⟨g,4,hA9 (by rw[<-HN9.o];omega),Nat.lt_of_lt_of_le HAR.o.1 hb2.size,λj x hj i u hu=>by rw[Nat.add_assoc];exact(hb2.cell (p:=⟨g,4+(j*2+i),none⟩) HAR.o.1).trans (HAR.o.2 j x hj i u hu)⟩⟩
  have HGC:Hid (ub=true->∃n8,n9=n8+1/\A9=some ⟨g,4,none⟩/\wc.cell? ⟨g,4,none⟩=some (.int .i64 0)/\wc.cell? ⟨g,5,none⟩=some (.string ⟨nm.toArray⟩)/\n8=rest.length):=ι (λhub=>by
   have hr1:=HR1U.o;rw[if_pos hub] at hr1;have hl:n9=rest.length+1:=by rw[<-HN9.o,hr1];rfl
   exact⟨rest.length,hl,hA9 ω,(hb2.cell (p:=⟨g,4,none⟩) HAR.o.1).trans (HAR.o.2 0 (0,nm) (by rw[hr1];rfl) 0 _ rfl),(hb2.cell (p:=⟨g,5,none⟩) HAR.o.1).trans (HAR.o.2 0 (0,nm) (by rw[hr1];rfl) 1 _ rfl),rfl⟩)
  have HW1:Hid (ψ w1 wc):=ι hb2;have HGL:Hid (g<w1.heap.size):=ι HAR.o.1;obtain⟨wd,hwd⟩:∃wd,wd=wc:=⟨_,rfl⟩;subst hwd;clear hcut hb2 k0 k1 k2 k3 hg HU hstar hc2 hc9 hA9 HAR hcap hnc;go_upto_region 5 with fail
  go_cut [16] (λv16 wx=>Hid (v16=.bool ub/\ψ wd wx))
  case first=>
   cases ub with
   |true=>
    obtain⟨n8,rfl,rfl,k0,k1,hn8⟩:=HGC.o rfl;clear hn8;go_wp2_with fail
    go_meet;exact ι ⟨rfl,by first|exact Below.refl _ _|exact(Below.refl _ _).drew⟩
   |false=>
    go_wp2_with fail
    go_meet;exact ι ⟨rfl,by first|exact Below.refl _ _|exact(Below.refl _ _).drew⟩
  case rest=>
  obtain⟨rfl,hbe⟩:=hcut.o;obtain⟨we,hwe⟩:∃we,we=wc:=⟨_,rfl⟩;subst hwe;clear hcut
  go_upto_if 80 with (fail)
  go_cut [14,15] (λv14 v15 wx=>Hid (v14=.string nb/\(∃A8 n8 c8,v15=.slice A8 n8 c8/\RK.RdR 2 tkF wx wx.heap.size (.slice A8 n8 c8) rest)/\ψ wd wx))
  case first=>
   cases ub with
   |true=>
    obtain⟨n8,rfl,rfl,k0,k1,hn8⟩:=HGC.o rfl;obtain rfl:nb1=⟨#[85,73,68]⟩:=HNB1.o;have q1:=(hbe.cell (p:=⟨g,5,none⟩) (Nat.lt_of_lt_of_le HGL.o HW1.o.size)).trans k1;have xVp:¬9223372036854775807<1+nb2.size:=ω;have xVn:¬9223372036854775807<3+(1+nb2.size):=ω
    obtain⟨hc8,hr8⟩:n8+1<=c9/\∀(j:Nat) x,rest[j]?=some x->∀(i:Nat) u,(tkF x)[i]?=some u->wd.cell? ⟨g,4+(j+1)*2+i,none⟩=some u:=by
     have hr1:xHs=(0,nm)::rest:=HR1U.o;obtain⟨A',c',e',hc',h'⟩:=HA.o;rw[hr1] at e' hc' h';injection e' with e1 e2 e3;subst e3;obtain⟨b',off',e4,_,h4⟩:=h' σ;rw[<-e1] at e4;injection e4 with e4;injection e4 with e5 e6;subst e5 e6
     exact⟨by rw[e2];exact hc',λj x hj i u hu=>h4 (j+1) x hj i u hu⟩
    have HR8:=ι hr8;have HN8:=ι hn8;clear hr8 hn8;go_wp2_with fail
    refine(HU2.o _).mono ?_;rintro e wf ⟨rfl,hbf⟩;have HBF:=ι (hbe.trans (hbf.mono hbe.size));clear hbf
    have xZ2:Hid (∀A8,(0<n8->A8=some ⟨g,6,none⟩)->RK.RdR 2 tkF wf wf.heap.size (.slice A8 n8 (c9-1)) rest):=ι (λA8 h8=>⟨A8,c9-1,by rw[HN8.o],by rw[<-HN8.o];omega,λhne=>⟨g,6,h8 (by rw[HN8.o];exact hne),Nat.lt_of_lt_of_le HGL.o (Nat.le_trans HW1.o.size HBF.o.size),λj x hj i u hu=>by
     have hh:=(HBF.o.cell (p:=⟨g,4+(j+1)*2+i,none⟩) (Nat.lt_of_lt_of_le HGL.o HW1.o.size)).trans (HR8.o j x hj i u hu);rw[show 6+j*2+i=4+(j+1)*2+i by omega];exact hh⟩⟩)
    by_cases hc1:c9=1
    ·have hn0:n8=0:=ω;subst hn0;subst hc1;go_wp2_with fail
     go_meet;exact ι ⟨by rw[HNB.o];rfl,⟨_,_,_,rfl,xZ2.o _ (λh=>absurd h (Nat.lt_irrefl _))⟩,HBF.o⟩
    ·have hc9':n8<=c9-1:=ω;go_wp2_with fail
     go_meet;exact ι ⟨by rw[HNB.o];rfl,⟨_,_,_,rfl,xZ2.o _ (λh=>rfl)⟩,HBF.o⟩
   |false=>
    go_wp2_with fail
    go_meet
    exact ι ⟨by rw[HNB.o,HNB1.o];rfl,⟨_,_,_,rfl,by
     have hr1:xHs=rest:=HR1U.o;rw[<-hr1];exact(HA.o.below hbe ν).more hbe.size⟩,hbe⟩
  case rest=>
  obtain⟨rfl,⟨A8,n8,c8,rfl,hA8⟩,hbe2⟩:=hcut.o;have hb2:ψ w1 wc:=HW1.o.trans (hbe2.mono HW1.o.size);clear HA HN9;obtain⟨A9',hA9'⟩:∃A9',A8=A9':=⟨_,rfl⟩;have HA:=ι hA8;clear hcut hA8 hbe2 hbe HGC HW1 HGL HU2 HNB HNB1 HN1U HR1U;clear hA9'
  have HB2:=ι (HB1.o.trans (hb2.mono HB1.o.size));have Q0:=ι (xC P0.o hb2 (xJ P0.o));have Q1:=ι (xC P1.o hb2 (xJ P1.o));have Q3:=ι (xC P3.o hb2 (xJ P3.o));have Q4:=ι (xC P4.o hb2 (xJ P4.o));have Q5:=ι (xC P5.o hb2 (xJ P5.o))
  have hz2:w.heap.size+6<=wc.heap.size:=Nat.le_trans hz1 hb2.size;clear hb2 P0 P1 P3 P4 P5 HB1 hz1;have a0:wc.cell? ⟨w.heap.size,0,none⟩=some d0:=xA Q0.o 0;have a1:wc.cell? ⟨w.heap.size,1,none⟩=some d1:=xA Q0.o 1;have x0:wc.cell? ⟨w.heap.size+1,0,none⟩=some s0:=xA Q1.o 0
  have x1:wc.cell? ⟨w.heap.size+1,1,none⟩=some s1:=xA Q1.o 1;have x2:wc.cell? ⟨w.heap.size+1,2,none⟩=some s2:=xA Q1.o 2;have x3:wc.cell? ⟨w.heap.size+1,3,none⟩=some s3:=xA Q1.o 3;have x4:wc.cell? ⟨w.heap.size+1,4,none⟩=some s4:=xA Q1.o 4
  have x5:wc.cell? ⟨w.heap.size+1,5,none⟩=some s5:=xA Q1.o 5;have x6:wc.cell? ⟨w.heap.size+1,6,none⟩=some s6:=xA Q1.o 6;have x7:wc.cell? ⟨w.heap.size+1,7,none⟩=some s7:=xA Q1.o 7;have x8:wc.cell? ⟨w.heap.size+1,8,none⟩=some s8:=xA Q1.o 8
  have x9:wc.cell? ⟨w.heap.size+1,9,none⟩=some s9:=xA Q1.o 9;have e0:wc.cell? ⟨w.heap.size+1+1+1,0,none⟩=some n0:=xA Q3.o 0;have e1:wc.cell? ⟨w.heap.size+1+1+1,1,none⟩=some n1:=xA Q3.o 1;have e2:wc.cell? ⟨w.heap.size+1+1+1,2,none⟩=some n2:=xA Q3.o 2
  have e3:wc.cell? ⟨w.heap.size+1+1+1,3,none⟩=some n3:=xA Q3.o 3;have e4:wc.cell? ⟨w.heap.size+1+1+1,4,none⟩=some n4:=xA Q3.o 4;have e5:wc.cell? ⟨w.heap.size+1+1+1,5,none⟩=some n5:=xA Q3.o 5;go_wp2_with fail
  have HC0:=ι (xI wc (.cells #[d0,d1,s0,s1,s2,s3,s4,s5,s6,s7,s8,s9,n0,n1,n2,n3,n4,n5,.slice A8 n8 c8,.bool ub,.pointer none,.slice none 0 0] 129));clear a0 a1 x0 x1 x2 x3 x4 x5 x6 x7 x8 x9 e0 e1 e2 e3 e4 e5;refine(xJ3 _).mono ?_;rintro e w3 ⟨rfl,hmap,hb3⟩
  have hz2':(wc.alloc (.cells #[d0,d1,s0,s1,s2,s3,s4,s5,s6,s7,s8,s9,n0,n1,n2,n3,n4,n5,.slice A8 n8 c8,.bool ub,.pointer none,.slice none 0 0] 129)).heap.size=wc.heap.size+1:=σ
  have xI4:(Instr.lookup 135 (.map (some (wc.heap.size+1))) (.string nb) true).run prog w3=.ok (.tuple #[.agg #[.int .i64 nd,.func (.func fid) #[] #[]],.bool true]) w3:=by
   rw[hz2'] at hmap;exact yCr.o _ _ hmap
  have R0:=ι (xC (xM Q0.o _) hb3 (Nat.lt_trans (xJ Q0.o) (by rw[hz2'];omega)));have R1:=ι (xC (xM Q1.o _) hb3 (Nat.lt_trans (xJ Q1.o) (by rw[hz2'];omega)));have R4:=ι (xC (xM Q4.o _) hb3 (Nat.lt_trans (xJ Q4.o) (by rw[hz2'];omega)))
  have R5:=ι (xC (xM Q5.o _) hb3 (Nat.lt_trans (xJ Q5.o) (by rw[hz2'];omega)));have RC:=ι (xC HC0.o hb3 (by rw[hz2'];omega))
  have HA3:=ι (show RK.RdR 2 tkF (w3.alloc (.cells #[.int .i64 nd,.func (.func fid) #[] #[]] 133)) (w3.alloc (.cells #[.int .i64 nd,.func (.func fid) #[] #[]] 133)).heap.size (.slice A8 n8 c8) rest from by
   have k1:=φ wc (.cells #[d0,d1,s0,s1,s2,s3,s4,s5,s6,s7,s8,s9,n0,n1,n2,n3,n4,n5,.slice A8 n8 c8,.bool ub,.pointer none,.slice none 0 0] 129);have k2:=k1.trans (hb3.mono k1.size);have k3:=k2.alloc k2.size (.cells #[.int .i64 nd,.func (.func fid) #[] #[]] 133)
   exact(HA.o.below k3 ν).more k3.size)
  have HB3:=ι ((HB2.o.alloc HB2.o.size _).trans (hb3.mono (by rw[hz2'];have:=HB2.o.size;omega)));have hz3:wc.heap.size+1<=w3.heap.size:=by have:=hb3.size;omega
  clear hmap hb3 hz2' Q0 Q1 Q3 Q4 Q5 HC0 HB2 HA yCr;have m1:(w3.alloc (.cells #[.int .i64 nd,.nilFunc] 133)).cell? ⟨w3.heap.size,1,none⟩=some .nilFunc:=xA (xI _ _) 1;have m2:(w3.alloc (.cells #[.int .i64 nd,.nilFunc] 133)).frozen? ⟨w3.heap.size,1,none⟩=false:=xD (xI _ _) 1
  have S0:=ι (xM R0.o (.cells #[.int .i64 nd,.func (.func fid) #[] #[]] 133));have S1:=ι (xM R1.o (.cells #[.int .i64 nd,.func (.func fid) #[] #[]] 133));have S4:=ι (xM R4.o (.cells #[.int .i64 nd,.func (.func fid) #[] #[]] 133))
  have S5:=ι (xM R5.o (.cells #[.int .i64 nd,.func (.func fid) #[] #[]] 133));have SC:=ι (xM RC.o (.cells #[.int .i64 nd,.func (.func fid) #[] #[]] 133));have HB4:=ι (HB3.o.alloc HB3.o.size (.cells #[.int .i64 nd,.func (.func fid) #[] #[]] 133));go_wp2_with fail
  refine(HME.o _ _ _ SC.o).mono ?_;rintro e w4 ⟨rfl,rfl⟩;clear R0 R1 R4 R5 RC HB3 m1 m2;cases mt
  case false=>
   clear xI4;generalize (w3.alloc (.cells #[.int .i64 nd,.func (.func fid) #[] #[]] 133))=w5 at S0 S1 S4 S5 SC HB4 HA3⊢;have HB5:Hid (NoI w false false d0 d1 (uO s0 s1 s2 s3 s4 s5 s6 s7 s8 s9) w5):=ι ⟨HB4.o,S0.o,S1.o,S4.o,S5.o⟩;clear HB4 S0 S1 S4 S5 SC HA3 HME xW4 HK
   obtain⟨T0,T1,U0,U1,U2,U3,U4,U5,U6,U7,U8,U9⟩:=HST.o;go_upto_region 12 with fail
   have xVp:¬9223372036854775807<tb.size+4:=ω;have xVn:¬9223372036854775807<tb.size+4+2:=ω;refine RG.yI [5,6] (λL W=>Hid (NoI w (L 5) (L 6) d0 d1 (uO s0 s1 s2 s3 s4 s5 s6 s7 s8 s9) W)) (λL L' W h hI=>by rw[<-h 5 δ,<-h 6 δ];exact hI) κ κ δ (ι ⟨HB5.o.1.drew,HB5.o.2⟩) ?_
   refine RG.lF (λL w9 hw9=>have q0:=xA hw9.o.2.1 0;have q1:=xA hw9.o.2.1 1;And.intro (q0) q1) ?_
   refine RG.lF (λL w9 hw9=>have q0:=xA hw9.o.2.2.1 0;have q1:=xA hw9.o.2.2.1 1;have q2:=xA hw9.o.2.2.1 2;have q3:=xA hw9.o.2.2.1 3;have q4:=xA hw9.o.2.2.1 4;have q5:=xA hw9.o.2.2.1 5;have q6:=xA hw9.o.2.2.1 6;have q7:=xA hw9.o.2.2.1 7;have q8:=xA hw9.o.2.2.1 8;have q9:=xA hw9.o.2.2.1 9;And.intro (q0) (And.intro (q1) (And.intro (q2) (And.intro (q3) (And.intro (q4) (And.intro (q5) (And.intro (q6) (And.intro (q7) (And.intro (q8) q9))))))))) ?_
   iterate 3 refine RG.lS ?_
   apply RG.xV
   ·rfl
   ·intro L w9 h0 _ hw9;have hh:=hw9.o;rw[h0] at hh;have r4:=hh.2.2.2.1;rw[if_neg σ] at r4;have f0:=xA r4 0;have f1:=xA r4 1;have y0:=xD r4 0;have y1:=xD r4 1;have hn:=hh.st1;simp only[yX,Nat.reduceAdd] at hn;have HH:=ι hn;clear hw9 hh r4 hn;repeat go_step
    refine RG.xB ?_;show Hid (NoI w true (L 6) _ _ _ _);with_reducible exact HH
   ·rfl
   apply RG.xV
   ·rfl
   ·intro L w9 h0 _ hw9;have hh:=hw9.o;rw[h0] at hh;have r5:=hh.2.2.2.2;rw[if_neg σ] at r5;have f0:=xA r5 0;have y0:=xD r5 0;have f1:=xA r5 1;have y1:=xD r5 1;have f2:=xA r5 2;have y2:=xD r5 2;have f3:=xA r5 3;have y3:=xD r5 3;have f4:=xA r5 4;have y4:=xD r5 4;have f5:=xA r5 5
    have y5:=xD r5 5;have f6:=xA r5 6;have y6:=xD r5 6;have f7:=xA r5 7;have y7:=xD r5 7;have f8:=xA r5 8;have y8:=xD r5 8;have f9:=xA r5 9;have y9:=xD r5 9;have hn:=hh.st2;simp only[yX,Nat.reduceAdd] at hn;have HH:=ι hn;clear hw9 hh r5 hn;repeat go_step
    refine RG.xB ?_;show Hid (NoI w (L 5) true _ _ _ _);with_reducible exact HH
   ·rfl
   refine RG.lS ?_;refine RG.xY (λw9 hw9=>?_);have fin:NoI w true true d0 d1 (uO s0 s1 s2 s3 s4 s5 s6 s7 s8 s9) w9:=hw9.o;have r4:=fin.2.2.2.1;have r5:=fin.2.2.2.2;rw[if_pos rfl] at r4 r5;have f0:=xA r4 0;have f1:=xA r4 1;have g0:=xA r5 0;have g1:=xA r5 1;have g2:=xA r5 2
   have g3:=xA r5 3;have g4:=xA r5 4;have g5:=xA r5 5;have g6:=xA r5 6;have g7:=xA r5 7;have g8:=xA r5 8;have g9:=xA r5 9;have HBE:=ι fin.1;clear hw9 fin r4 r5 HB5;go_wp2
   refine bodyPost_ret (v:=.tuple #[.agg #[d0,d1],.agg #[s0,s1,s2,s3,s4,s5,s6,s7,s8,s9],.string (tb++⟨#[32,66,65,68]⟩++⟨#[13,10]⟩)]) (by simp[results,results25,go_sem,f0,f1,g0,g1,g2,g3,g4,g5,g6,g7,g8,g9]) rfl ?_;refine⟨HBE.o,.inr (.inr ⟨?_,HMF.o (by first|rfl|trivial)⟩)⟩
   rw[<-HTB.o];exact congrArg (λb=>Ending.returned (.tuple #[.agg #[d0,d1],.agg #[s0,s1,s2,s3,s4,s5,s6,s7,s8,s9],.string b])) (txt2 tag [32,66,65,68] [13,10])
  case true=>
   have HCM:=ι (xMq SC.o rfl rfl rfl);have HZ:Hid (w.heap.size<=wc.heap.size):=ι ω;have f1:=xA (xI w3 (.cells #[.int .i64 nd,.func (.func fid) #[] #[]] 133)) 1;go_wp2_with fail
   refine(xW4.o (by first|rfl|trivial) _ _ _ HB4.o HZ.o HCM.o HA3.o).mono ?_;rintro e w5 (⟨v0,v1,v2,v3,v4,v5,v6,v7,v8,v9,v10,v11,vp,vq,l,rfl,yBs,hk5,ho5,hl5,hb5⟩|⟨rfl,hn1,hb5⟩|⟨rfl,hn1,hb5⟩)
   ·clear f1
    have HF:Hid (kI w wc.heap.size (w.heap.size+1+1+1+1) (w.heap.size+1+1+1+1+1) #[v0,v1,v2,v3,v4,v5,v6,v7,v8,v9,v10,v11,n0,n1,n2,n3,n4,n5,.slice A8 n8 c8,.bool ub,vp,vq] l false false false (yQ v0 v1) (uO v2 v3 v4 v5 v6 v7 v8 v9 v10 v11) w5/\K [v0,v1,v2,v3,v4,v5,v6,v7,v8,v9,v10,v11] l w5):=
     ι ⟨⟨HB4.o.trans (hb5.mono HZ.o),yBs.blk,λ_=>yBs,xC S4.o hb5 ω,xC S5.o hb5 ω⟩,hk5⟩
    have HK5:=ι (HK.o [v0,v1,v2,v3,v4,v5,v6,v7,v8,v9,v10,v11] l);have Ho5:=ι ho5;clear S0 S1 S4 S5 SC HB4 HCM yBs hb5 xI4 hk5 ho5 HME HMF xW4 HK;go_upto_region 18 with fail
    obtain⟨lb,xY5⟩:∃lb:ByteArray,(⟨l.toArray⟩:ByteArray)=lb:=⟨_,rfl⟩;have hlb:lb.size<=1000000:=by rw[<-xY5];exact hl5
    have HLB:=ι xY5;have HSTR:=ι (λw9 (h:Cmd wc.heap.size #[v0,v1,v2,v3,v4,v5,v6,v7,v8,v9,v10,v11,n0,n1,n2,n3,n4,n5,.slice A8 n8 c8,.bool ub,vp,vq] l w9)=>xSh wc.heap.size #[v0,v1,v2,v3,v4,v5,v6,v7,v8,v9,v10,v11,n0,n1,n2,n3,n4,n5,.slice A8 n8 c8,.bool ub,vp,vq] l w9 h)
    rw[xY5] at HSTR;clear xY5 hl5;have big0:¬9223372036854775807<lb.size+tb.size:=ω;have xVp:¬9223372036854775807<lb.size+tb.size+3:=ω;have xVn:¬9223372036854775807<lb.size+tb.size+3+2:=ω;have V0:=λ(W:World) (a:Addr)=>run_store prog W a v0 .plain (Ho5.o v0 σ)
    have V1:=λ(W:World) (a:Addr)=>run_store prog W a v1 .plain (Ho5.o v1 σ);have V2:=λ(W:World) (a:Addr)=>run_store prog W a v2 .plain (Ho5.o v2 σ);have V3:=λ(W:World) (a:Addr)=>run_store prog W a v3 .plain (Ho5.o v3 σ)
    have V4:=λ(W:World) (a:Addr)=>run_store prog W a v4 .plain (Ho5.o v4 σ);have V5:=λ(W:World) (a:Addr)=>run_store prog W a v5 .plain (Ho5.o v5 σ);have V6:=λ(W:World) (a:Addr)=>run_store prog W a v6 .plain (Ho5.o v6 σ)
    have V7:=λ(W:World) (a:Addr)=>run_store prog W a v7 .plain (Ho5.o v7 σ);have V8:=λ(W:World) (a:Addr)=>run_store prog W a v8 .plain (Ho5.o v8 σ);have V9:=λ(W:World) (a:Addr)=>run_store prog W a v9 .plain (Ho5.o v9 σ)
    have V10:=λ(W:World) (a:Addr)=>run_store prog W a v10 .plain (Ho5.o v10 σ);have V11:=λ(W:World) (a:Addr)=>run_store prog W a v11 .plain (Ho5.o v11 σ)
    refine RG.yI [11,16,17] (λL W=>Hid (kI w wc.heap.size (w.heap.size+1+1+1+1) (w.heap.size+1+1+1+1+1) #[v0,v1,v2,v3,v4,v5,v6,v7,v8,v9,v10,v11,n0,n1,n2,n3,n4,n5,.slice A8 n8 c8,.bool ub,vp,vq] l (L 11) (L 16) (L 17) (yQ v0 v1) (uO v2 v3 v4 v5 v6 v7 v8 v9 v10 v11) W/\K [v0,v1,v2,v3,v4,v5,v6,v7,v8,v9,v10,v11] l W)) (λL L' W h hI=>by rw[<-h 11 δ,<-h 16 δ,<-h 17 δ];exact hI) κ κ δ (ι ⟨HF.o.1.drew,HK5.o.still HF.o.2 (Still.drew _)⟩) ?_
    iterate 3 refine RG.lS ?_
    refine RG.lF (λL w9 hw9=>have q0:=xA hw9.o.1.cmd 0;have q1:=xA hw9.o.1.cmd 1;And.intro (q0) q1) ?_;iterate 3 refine RG.lS ?_
    refine RG.lF (λL w9 hw9=>have q2:=xA hw9.o.1.cmd 2;have q3:=xA hw9.o.1.cmd 3;have q4:=xA hw9.o.1.cmd 4;have q5:=xA hw9.o.1.cmd 5;have q6:=xA hw9.o.1.cmd 6;have q7:=xA hw9.o.1.cmd 7;have q8:=xA hw9.o.1.cmd 8;have q9:=xA hw9.o.1.cmd 9;have q10:=xA hw9.o.1.cmd 10;have q11:=xA hw9.o.1.cmd 11;And.intro (q2) (And.intro (q3) (And.intro (q4) (And.intro (q5) (And.intro (q6) (And.intro (q7) (And.intro (q8) (And.intro (q9) (And.intro (q10) q11))))))))) ?_
    iterate 3 refine RG.lS ?_
    apply RG.xV
    ·rfl
    ·intro L w9 h0 _ hw9;have hcmd:=hw9.o.1.bld h0;repeat go_step
     refine(HSTR.o w9 hcmd).mono ?_;rintro e w10 ⟨rfl,yP,he10,hs10⟩;simp only[];repeat go_step
     refine RG.xB ?_;exact ι ⟨hw9.o.1.call yP he10 ω ω ω,HK5.o.still hw9.o.2 hs10⟩
    ·rfl
    iterate 4 refine RG.lS ?_
    apply RG.xV
    ·rfl
    ·intro L w9 h0 _ hw9;have hh:=hw9.o;rw[h0] at hh;have r4:=hh.1.r4;rw[if_neg σ] at r4;have f0:=xA r4 0;have f1:=xA r4 1;have y0:=xD r4 0;have y1:=xD r4 1;have hk:=HK5.o.put [v0,v1] hh.2 r4 (.inl rfl);simp only[yX,Nat.reduceAdd] at hk;have HK9:=ι hk;have HH:=ι hh.1
     clear hw9 hh r4 hk;repeat go_step
     refine RG.xB ?_;show Hid (kI w _ _ _ _ _ (L 11) true (L 17) _ _ _/\_);with_reducible exact ι ⟨kI.st1 HH.o ω ω ω,HK9.o⟩
    ·rfl
    apply RG.xV
    ·rfl
    ·intro L w9 h0 _ hw9;have hh:=hw9.o;rw[h0] at hh;have r5:=hh.1.r5;rw[if_neg σ] at r5;have f0:=xA r5 0;have y0:=xD r5 0;have f1:=xA r5 1;have y1:=xD r5 1;have f2:=xA r5 2;have y2:=xD r5 2;have f3:=xA r5 3;have y3:=xD r5 3;have f4:=xA r5 4;have y4:=xD r5 4;have f5:=xA r5 5
     have y5:=xD r5 5;have f6:=xA r5 6;have y6:=xD r5 6;have f7:=xA r5 7;have y7:=xD r5 7;have f8:=xA r5 8;have y8:=xD r5 8;have f9:=xA r5 9;have y9:=xD r5 9;have hk:=HK5.o.put [v2,v3,v4,v5,v6,v7,v8,v9,v10,v11] hh.2 r5 (.inr rfl);simp only[yX,Nat.reduceAdd] at hk
     have HK9:=ι hk;have HH:=ι hh.1;clear hw9 hh r5 hk;repeat go_step
     refine RG.xB ?_;show Hid (kI w _ _ _ _ _ (L 11) (L 16) true _ _ _/\_);with_reducible exact ι ⟨kI.st2 HH.o ω ω ω,HK9.o⟩
    ·rfl
    refine RG.lS ?_;refine RG.xY (λw9 hw9=>?_)
    have fin:kI w wc.heap.size (w.heap.size+1+1+1+1) (w.heap.size+1+1+1+1+1) #[v0,v1,v2,v3,v4,v5,v6,v7,v8,v9,v10,v11,n0,n1,n2,n3,n4,n5,.slice A8 n8 c8,.bool ub,vp,vq] l true true true (yQ v0 v1) (uO v2 v3 v4 v5 v6 v7 v8 v9 v10 v11) w9:=hw9.o.1;have r4:=fin.r4;have r5:=fin.r5
    rw[if_pos rfl] at r4 r5;have f0:=xA r4 0;have f1:=xA r4 1;have g0:=xA r5 0;have g1:=xA r5 1;have g2:=xA r5 2;have g3:=xA r5 3;have g4:=xA r5 4;have g5:=xA r5 5;have g6:=xA r5 6;have g7:=xA r5 7;have g8:=xA r5 8;have g9:=xA r5 9;have HBE:=ι (And.intro fin.bel hw9.o.2)
    clear hw9 fin r4 r5 HF;go_wp2;refine bodyPost_ret (v:=.tuple #[.agg #[v0,v1],.agg #[v2,v3,v4,v5,v6,v7,v8,v9,v10,v11],.string (lb++tb++⟨#[32,79,75]⟩++⟨#[13,10]⟩)]) (by simp[results,results25,go_sem,f0,f1,g0,g1,g2,g3,g4,g5,g6,g7,g8,g9]) rfl ?_
    refine⟨HBE.o.1,.inl ⟨v0,v1,v2,v3,v4,v5,v6,v7,v8,v9,v10,v11,l,?_,HBE.o.2,Ho5.o⟩⟩;rw[<-HTB.o,<-HLB.o];exact congrArg (λb=>Ending.returned (.tuple #[.agg #[v0,v1],.agg #[v2,v3,v4,v5,v6,v7,v8,v9,v10,v11],.string b])) (txt3 l tag [32,79,75] [13,10])
   ·have HN1:=ι hn1;have HB5:Hid (NoI w false false d0 d1 (uO s0 s1 s2 s3 s4 s5 s6 s7 s8 s9) w5):=ι ⟨HB4.o.trans (hb5.mono HZ.o),xC S0.o hb5 ω,xC S1.o hb5 ω,xC S4.o hb5 ω,xC S5.o hb5 ω⟩;clear f1 HB4 xI4 HME HMF xW4 HK HCM S0 S1 S4 S5 SC hb5 hn1 HA3
    obtain⟨T0,T1,U0,U1,U2,U3,U4,U5,U6,U7,U8,U9⟩:=HST.o;go_upto_region 17 with fail
    have xVp:¬9223372036854775807<tb.size+3:=ω;have xVn:¬9223372036854775807<tb.size+3+2:=ω;refine RG.yI [5,6] (λL W=>Hid (NoI w (L 5) (L 6) d0 d1 (uO s0 s1 s2 s3 s4 s5 s6 s7 s8 s9) W)) (λL L' W h hI=>by rw[<-h 5 δ,<-h 6 δ];exact hI) κ κ δ (ι ⟨HB5.o.1.drew,HB5.o.2⟩) ?_
    refine RG.lF (λL w9 hw9=>have q0:=xA hw9.o.2.1 0;have q1:=xA hw9.o.2.1 1;And.intro (q0) q1) ?_
    refine RG.lF (λL w9 hw9=>have q0:=xA hw9.o.2.2.1 0;have q1:=xA hw9.o.2.2.1 1;have q2:=xA hw9.o.2.2.1 2;have q3:=xA hw9.o.2.2.1 3;have q4:=xA hw9.o.2.2.1 4;have q5:=xA hw9.o.2.2.1 5;have q6:=xA hw9.o.2.2.1 6;have q7:=xA hw9.o.2.2.1 7;have q8:=xA hw9.o.2.2.1 8;have q9:=xA hw9.o.2.2.1 9;And.intro (q0) (And.intro (q1) (And.intro (q2) (And.intro (q3) (And.intro (q4) (And.intro (q5) (And.intro (q6) (And.intro (q7) (And.intro (q8) q9))))))))) ?_
    iterate 3 refine RG.lS ?_
    apply RG.xV
    ·rfl
    ·intro L w9 h0 _ hw9;have hh:=hw9.o;rw[h0] at hh;have r4:=hh.2.2.2.1;rw[if_neg σ] at r4;have f0:=xA r4 0;have f1:=xA r4 1;have y0:=xD r4 0;have y1:=xD r4 1;have hn:=hh.st1;simp only[yX,Nat.reduceAdd] at hn;have HH:=ι hn;clear hw9 hh r4 hn;repeat go_step
     refine RG.xB ?_;show Hid (NoI w true (L 6) _ _ _ _);with_reducible exact HH
    ·rfl
    apply RG.xV
    ·rfl
    ·intro L w9 h0 _ hw9;have hh:=hw9.o;rw[h0] at hh;have r5:=hh.2.2.2.2;rw[if_neg σ] at r5;have f0:=xA r5 0;have y0:=xD r5 0;have f1:=xA r5 1;have y1:=xD r5 1;have f2:=xA r5 2;have y2:=xD r5 2;have f3:=xA r5 3;have y3:=xD r5 3;have f4:=xA r5 4;have y4:=xD r5 4
     have f5:=xA r5 5;have y5:=xD r5 5;have f6:=xA r5 6;have y6:=xD r5 6;have f7:=xA r5 7;have y7:=xD r5 7;have f8:=xA r5 8;have y8:=xD r5 8;have f9:=xA r5 9;have y9:=xD r5 9;have hn:=hh.st2;simp only[yX,Nat.reduceAdd] at hn;have HH:=ι hn;clear hw9 hh r5 hn;repeat go_step
     refine RG.xB ?_;show Hid (NoI w (L 5) true _ _ _ _);with_reducible exact HH
    ·rfl
    refine RG.lS ?_;refine RG.xY (λw9 hw9=>?_);have fin:NoI w true true d0 d1 (uO s0 s1 s2 s3 s4 s5 s6 s7 s8 s9) w9:=hw9.o;have r4:=fin.2.2.2.1;have r5:=fin.2.2.2.2;rw[if_pos rfl] at r4 r5;have f0:=xA r4 0;have f1:=xA r4 1;have g0:=xA r5 0;have g1:=xA r5 1;have g2:=xA r5 2
    have g3:=xA r5 3;have g4:=xA r5 4;have g5:=xA r5 5;have g6:=xA r5 6;have g7:=xA r5 7;have g8:=xA r5 8;have g9:=xA r5 9;have HBE:=ι fin.1;clear hw9 fin r4 r5 HB5;go_wp2
    refine bodyPost_ret (v:=.tuple #[.agg #[d0,d1],.agg #[s0,s1,s2,s3,s4,s5,s6,s7,s8,s9],.string (tb++⟨#[32,78,79]⟩++⟨#[13,10]⟩)]) (by simp[results,results25,go_sem,f0,f1,g0,g1,g2,g3,g4,g5,g6,g7,g8,g9]) rfl ?_;refine⟨HBE.o,.inr (.inl ⟨?_,HN1.o⟩)⟩;rw[<-HTB.o]
    exact congrArg (λb=>Ending.returned (.tuple #[.agg #[d0,d1],.agg #[s0,s1,s2,s3,s4,s5,s6,s7,s8,s9],.string b])) (txt2 tag [32,78,79] [13,10])
   ·have HN1:=ι hn1;have HB5:Hid (NoI w false false d0 d1 (uO s0 s1 s2 s3 s4 s5 s6 s7 s8 s9) w5):=ι ⟨HB4.o.trans (hb5.mono HZ.o),xC S0.o hb5 ω,xC S1.o hb5 ω,xC S4.o hb5 ω,xC S5.o hb5 ω⟩;clear f1 HB4 xI4 HME HMF xW4 HK HCM S0 S1 S4 S5 SC hb5 hn1 HA3
    obtain⟨T0,T1,U0,U1,U2,U3,U4,U5,U6,U7,U8,U9⟩:=HST.o;go_upto_region 15 with fail
    have xVp:¬9223372036854775807<tb.size+4:=ω;have xVn:¬9223372036854775807<tb.size+4+2:=ω;refine RG.yI [5,6] (λL W=>Hid (NoI w (L 5) (L 6) d0 d1 (uO s0 s1 s2 s3 s4 s5 s6 s7 s8 s9) W)) (λL L' W h hI=>by rw[<-h 5 δ,<-h 6 δ];exact hI) κ κ δ (ι ⟨HB5.o.1.drew,HB5.o.2⟩) ?_
    refine RG.lF (λL w9 hw9=>have q0:=xA hw9.o.2.1 0;have q1:=xA hw9.o.2.1 1;And.intro (q0) q1) ?_
    refine RG.lF (λL w9 hw9=>have q0:=xA hw9.o.2.2.1 0;have q1:=xA hw9.o.2.2.1 1;have q2:=xA hw9.o.2.2.1 2;have q3:=xA hw9.o.2.2.1 3;have q4:=xA hw9.o.2.2.1 4;have q5:=xA hw9.o.2.2.1 5;have q6:=xA hw9.o.2.2.1 6;have q7:=xA hw9.o.2.2.1 7;have q8:=xA hw9.o.2.2.1 8;have q9:=xA hw9.o.2.2.1 9;And.intro (q0) (And.intro (q1) (And.intro (q2) (And.intro (q3) (And.intro (q4) (And.intro (q5) (And.intro (q6) (And.intro (q7) (And.intro (q8) q9))))))))) ?_
    iterate 3 refine RG.lS ?_
    apply RG.xV
    ·rfl
    ·intro L w9 h0 _ hw9;have hh:=hw9.o;rw[h0] at hh;have r4:=hh.2.2.2.1;rw[if_neg σ] at r4;have f0:=xA r4 0;have f1:=xA r4 1;have y0:=xD r4 0;have y1:=xD r4 1;have hn:=hh.st1;simp only[yX,Nat.reduceAdd] at hn;have HH:=ι hn;clear hw9 hh r4 hn;repeat go_step
     refine RG.xB ?_;show Hid (NoI w true (L 6) _ _ _ _);with_reducible exact HH
    ·rfl
    apply RG.xV
    ·rfl
    ·intro L w9 h0 _ hw9;have hh:=hw9.o;rw[h0] at hh;have r5:=hh.2.2.2.2;rw[if_neg σ] at r5;have f0:=xA r5 0;have y0:=xD r5 0;have f1:=xA r5 1;have y1:=xD r5 1;have f2:=xA r5 2;have y2:=xD r5 2;have f3:=xA r5 3;have y3:=xD r5 3;have f4:=xA r5 4;have y4:=xD r5 4
     have f5:=xA r5 5;have y5:=xD r5 5;have f6:=xA r5 6;have y6:=xD r5 6;have f7:=xA r5 7;have y7:=xD r5 7;have f8:=xA r5 8;have y8:=xD r5 8;have f9:=xA r5 9;have y9:=xD r5 9;have hn:=hh.st2;simp only[yX,Nat.reduceAdd] at hn;have HH:=ι hn;clear hw9 hh r5 hn;repeat go_step
     refine RG.xB ?_;show Hid (NoI w (L 5) true _ _ _ _);with_reducible exact HH
    ·rfl
    refine RG.lS ?_;refine RG.xY (λw9 hw9=>?_);have fin:NoI w true true d0 d1 (uO s0 s1 s2 s3 s4 s5 s6 s7 s8 s9) w9:=hw9.o;have r4:=fin.2.2.2.1;have r5:=fin.2.2.2.2;rw[if_pos rfl] at r4 r5;have f0:=xA r4 0;have f1:=xA r4 1;have g0:=xA r5 0;have g1:=xA r5 1;have g2:=xA r5 2
    have g3:=xA r5 3;have g4:=xA r5 4;have g5:=xA r5 5;have g6:=xA r5 6;have g7:=xA r5 7;have g8:=xA r5 8;have g9:=xA r5 9;have HBE:=ι fin.1;clear hw9 fin r4 r5 HB5;go_wp2
    refine bodyPost_ret (v:=.tuple #[.agg #[d0,d1],.agg #[s0,s1,s2,s3,s4,s5,s6,s7,s8,s9],.string (tb++⟨#[32,66,65,68]⟩++⟨#[13,10]⟩)]) (by simp[results,results25,go_sem,f0,f1,g0,g1,g2,g3,g4,g5,g6,g7,g8,g9]) rfl ?_;refine⟨HBE.o,.inr (.inr ⟨?_,HN1.o⟩)⟩;rw[<-HTB.o]
    exact congrArg (λb=>Ending.returned (.tuple #[.agg #[d0,d1],.agg #[s0,s1,s2,s3,s4,s5,s6,s7,s8,s9],.string b])) (txt2 tag [32,66,65,68] [13,10])
end Go.Proofs.IM
namespace Mailsack
def vI:List Bs->Bs
 |[]=>[]
 |[x]=>x
 |x::y::l=>x++32::vI (y::l)
theorem xIz {x r:Bs} (h:x.all (λc=>!uC c)=true) (hr:∀c r',r=c::r'->uC c=true):wX (x++r)=x.length:=by
 unfold wX;rw[List.takeWhile_append_of_pos (λc hc=>List.all_eq_true.1 h c hc)];cases r with
 |nil=>simp
 |cons c r'=>rw[List.takeWhile_cons,hr c r' rfl];simp
theorem xN8 {f:Nat} {x r:Bs} {T:List Tok} {d:Nat} (hw:isWord x=true) (hr:∀c r',r=c::r'->uC c=true):vQ (f+1) (x++r) T d=vQ f r (jS T (0,x)) d:=by
 unfold isWord at hw;simp only[Bool.and_eq_true,decide_eq_true_eq] at hw;have hl:=xIz hw.2 hr;cases x with
 |nil=>exact absurd hw.1 σ
 |cons c x=>
  have hc:uC c=false:=by
   have:=List.all_eq_true.1 hw.2 c σ;simpa using this
  have hc':=hc;unfold uC at hc';simp only[Bool.or_eq_false_iff,beq_eq_false_iff_ne] at hc';obtain⟨⟨⟨h1,h2⟩,h3⟩,h4⟩:=hc';rw[List.cons_append] at hl⊢;show(if c=32 then _ else _)=_;rw[if_neg h1,if_neg h2,if_neg h3,if_neg h4,hl,<-List.cons_append,List.drop_left,List.take_left]
theorem xJc:∀(l:List Bs) (f:Nat) (T:List Tok),(∀x∈l,isWord x=true)->(vI l).length<=f->T.length+l.length<=41->vQ f (vI l) T 0=some (T++l.map (λx=>(0,x)),0)
 |[],f,T,_,_,_=>by cases f<;>simp[vI,vQ]
 |[x],f,T,hw,hf,hT=>by
  have hx:=hw x σ
  have hp:0<x.length:=by
   unfold isWord at hx;simp only[Bool.and_eq_true,decide_eq_true_eq] at hx;exact hx.1
  simp only[vI] at hf⊢;obtain⟨f,rfl⟩:∃g,f=g+1:=⟨f-1,ω⟩;have:=xN8 (f:=f) (r:=[]) (T:=T) (d:=0) hx σ;rw[List.append_nil] at this;rw[this];have ha:jS T (0,x)=T++[(0,x)]:=by unfold jS;rw[if_pos (by simp at hT;omega)]
  rw[ha];cases f<;>simp[vQ]
 |x::y::l,f,T,hw,hf,hT=>by
  have hx:=hw x σ
  have hp:0<x.length:=by
   unfold isWord at hx;simp only[Bool.and_eq_true,decide_eq_true_eq] at hx;exact hx.1
  simp only[vI,List.length_append,List.length_cons] at hf⊢;obtain⟨f,rfl⟩:∃g,f=g+1+1:=⟨f-2,ω⟩;rw[xN8 hx (by rintro c r' e;injection e with e _;subst e;rfl)];have ha:jS T (0,x)=T++[(0,x)]:=by unfold jS;rw[if_pos (by simp at hT;omega)]
  rw[ha];show(if (32:UInt8)=32 then vQ f (vI (y::l)) (T++[(0,x)]) 0 else _)=_;rw[if_pos rfl,xJc (y::l) f (T++[(0,x)]) (λz hz=>hw z (by simp[hz])) ω (by simp at hT⊢;omega)];simp
theorem xGp:∀(l:List Bs),(∀x∈l,zN x=true)->zN (vI l)=true
 |[],_=>rfl
 |[x],h=>h x σ
 |x::y::l,h=>by
  have h1:=h x σ;have h2:=xGp (y::l) (λz hz=>h z (by simp[hz]));unfold zN at h1 h2⊢;simp only[vI,List.all_append,List.all_cons,h1,h2]
  rfl
theorem xL7 (l:List Bs) (h1:∀x∈l,isWord x=true) (h2:∀x∈l,zN x=true) (hl:l.length<=40):qV [vI l] []=some (l.map (λx=>(0,x))):=by
 have hs:=xJc l (vI l).length [] h1 ν (by simp;omega);unfold qV;rw[if_pos (show[vI l].length=([]:List Bs).length+1 from rfl)];simp only[xBg,xGp l h2,if_true,Nat.lt_irrefl,if_false,hs,List.nil_append];rw[if_pos ⟨trivial,by simpa using hl⟩]
end Mailsack
namespace Go.Proofs.IM
open Go.RowKit Mailsack MM
theorem bapp (a b:Bs):(⟨a.toArray⟩:ByteArray)++⟨b.toArray⟩=⟨(a++b).toArray⟩:=by
 apply ByteArray.ext;simp
end Go.Proofs.IM
namespace Mailsack
def kC (L:List Bs) (sep:Bs):Nat->Bs
 |0=>[]
 |k+1=>(if k=0 then kC L sep k else kC L sep k++sep)++L.getD k []
theorem pK (L:List Bs) (sep:Bs) (k:Nat):kC L sep (k+1)=(if k=0 then kC L sep k else kC L sep k++sep)++L.getD k []:=rfl
end Mailsack
namespace Go.Proofs.IM
open Go.RowKit Mailsack MM
theorem xSt (lv:Value) (L:List Bs) (sep:Bs) (w:World) (hl:RdS w w.heap.size lv L) (hL:∀x∈L,x.length<=1000000) (hsep:sep.length<=1000000) (hn:L.length<=1000000) (hJ:∀k,k<=L.length->(kC L sep k).length<=1000000):
  Calls prog 10 #[lv,xK sep] w λe w'=>e=.returned (xK (kC L sep L.length))/\ψ w w':=by
 obtain⟨A,c,rfl,hc,hcell⟩:=hl;have HC:=ι hcell;have HL:=ι hL;have HJ:=ι hJ;obtain⟨sb,hsb⟩:∃sb:ByteArray,(⟨sep.toArray⟩:ByteArray)=sb:=⟨_,rfl⟩;have hsz:sb.size<=1000000:=by rw[<-hsb];exact hsep
 rw[show xK sep=.string sb by rw[<-hsb]];have HSB:=ι hsb;clear hcell hL hJ hsb;go_enter func10,ntmps10;go_wp2_with fail
 go_loop [5,6] (λsv iv=>∃(k:Nat) (s:ByteArray),k<=L.length/\iv=.int .i64 k/\sv=.string s/\s.size<=1000000/\Hid (s=⟨(kC L sep k).toArray⟩)) (λ_ iv=>L.length- (intOf iv).toNat)
 case atStart=>exact⟨0,⟨#[]⟩,Nat.zero_le _,rfl,rfl,δ,ι rfl⟩
 case round=>
  obtain⟨k,s,hk,rfl,rfl,hs,hr⟩:=hrel
  by_cases hlt:k<L.length
  ·obtain⟨x,hx⟩:∃x,L[k]?=some x:=⟨_,List.getElem?_eq_getElem hlt⟩;obtain⟨g,off,rfl,hg,hcell⟩:=HC.o ω;obtain⟨xb,hxb⟩:∃xb:ByteArray,(⟨x.toArray⟩:ByteArray)=xb:=⟨_,rfl⟩;have q0:w.cell? ⟨g,off+k,none⟩=some (.string xb):=by rw[<-hxb];exact hcell k x hx
   have hxs:xb.size<=1000000:=by rw[<-hxb];exact HL.o x (List.mem_of_getElem? hx)
   have HST:Hid ((⟨(kC L sep (k+1)).toArray⟩:ByteArray)=(if k=0 then s else s++sb)++xb):=ι (by
    rw[hr.o,<-HSB.o,<-hxb,pK,List.getD_eq_getElem?_getD,hx];generalize kC L sep k=J;split
    ·exact(bapp _ _).symm
    ·rw[bapp,bapp];rfl)
   have hJ1:=HJ.o (k+1) ω;have hsum:((if k=0 then s else s++sb)++xb).size<=1000000:=by rw[<-HST.o];exact hJ1
   clear hcell hx hxb hJ1
   by_cases hk0:k=0
   ·subst hk0;rw[if_pos rfl] at hsum HST;have q0':w.cell? ⟨g,off,none⟩=some (.string xb):=by simpa using q0
    have n1:¬(9223372036854775807<s.size+xb.size):=ω;go_wp2;exact⟨⟨0+1,s++xb,ω,by go_num,rfl,hsum,ι HST.o.symm⟩,by simp[intOf];omega⟩
   ·rw[if_neg hk0] at hsum HST;have hk1:0<k:=ω;have n0:¬(9223372036854775807<s.size+sb.size):=ω;have n1:¬(9223372036854775807<(s++sb).size+xb.size):=by rw[ByteArray.size_append];omega
    go_wp2;exact⟨⟨k+1,s++sb++xb,ω,by go_num,rfl,hsum,ι HST.o.symm⟩,by simp[intOf];omega⟩
  ·obtain rfl:k=L.length:=ω;go_wp2;go_ret;exact⟨by rw[hr.o];rfl,Below.refl _ _⟩
end Go.Proofs.IM
namespace Mailsack
theorem xEt (x:Bs) (l:List Bs):∀k,0<k->kC (x::l) [32] (k+1)=x++[32]++kC l [32] k
 |0,h=>absurd h (Nat.lt_irrefl _)
 |1,_=>by simp[kC]
 |k+2,_=>by
  rw[pK,xEt x l (k+1) ω,pK l [32] (k+1)];simp
theorem xEs:∀(l:List Bs),kC l [32] l.length=vI l
 |[]=>rfl
 |[x]=>by simp[kC,vI]
 |x::y::l=>by
  have h:=xEt x (y::l) (y::l).length σ;have e:(x::y::l).length=(y::l).length+1:=rfl;rw[e,h,xEs (y::l)];simp[vI]
theorem xLn (ub:Bool) (l:List Bs):vI ([116]::((if ub=true then[85,73,68,32] else[])++[83,69,65,82,67,72])::l)=vI ([116]::(if ub=true then[85,73,68]::[83,69,65,82,67,72]::l else[83,69,65,82,67,72]::l)):=by
 cases ub
 ·rfl
 ·cases l<;>simp[vI]
theorem yC8 (n:Nat):xFw n<=704:=by
 unfold xFw
 repeat' split
 all_goals omega
theorem yAb (s:ByteArray):(unT s).size<=704:=by
 unfold unT;split
 ·rename_i h
  unfold xS1 at h;simp only[Bool.and_eq_true,decide_eq_true_eq,beq_iff_eq] at h;have h1:=h.1.2;have h2:=yC8 (unN s);rw[ByteArray.size_extract];omega
 ·exact Nat.zero_le _
theorem xXr (d:Dk) (u xW old:ByteArray) (ep n:Int):(kN d u xW old ep n).size<=704:=by
 unfold kN;split
 ·unfold xSk;split
  ·exact yAb _
  ·exact Nat.zero_le _
 ·exact Nat.zero_le _
theorem xN1 (d:Dk) (u xW old:ByteArray) (ep:Int) (L:List uT):∀t∈xG2 d u xW old ep L,t.length<=1000:=by
 intro t ht;unfold xG2 at ht;obtain⟨m,_,rfl⟩:=List.mem_map.1 ht;have h:=xXr d u xW old ep m.object;have e:(kN d u xW old ep m.object).data.toList.length=(kN d u xW old ep m.object).size:=by rw[Array.length_toList];rfl
 omega
end Mailsack
namespace Go.Proofs.IM
open Go.RowKit MM BU Mailsack SV
theorem rD.split {K:List Value->Bs->World->Prop} {N1 N2:Prop} {d0 d1 s0 s1 s2 s3 s4 s5 s6 s7 s8 s9:Value} {tag:Bs} {w w':World} {e:Ending} (hone:∀v∈[d0,d1,s0,s1,s2,s3,s4,s5,s6,s7,s8,s9],v.oneCell'=true) (h:rD K N1 N2 d0 d1 s0 s1 s2 s3 s4 s5 s6 s7 s8 s9 tag w e w'):
  ψ w w'/\∃v0 v1 v2 v3 v4 v5 v6 v7 v8 v9 v10 v11 t,e=.returned (.tuple #[.agg #[v0,v1],.agg #[v2,v3,v4,v5,v6,v7,v8,v9,v10,v11],.string t])/\(∀v∈[v0,v1,v2,v3,v4,v5,v6,v7,v8,v9,v10,v11],v.oneCell'=true)/\∀w2 W',(∀l,K [v0,v1,v2,v3,v4,v5,v6,v7,v8,v9,v10,v11] l w'->K [v0,v1,v2,v3,v4,v5,v6,v7,v8,v9,v10,v11] l W')->ψ w2 W'->rD K N1 N2 d0 d1 s0 s1 s2 s3 s4 s5 s6 s7 s8 s9 tag w2 (.returned (.tuple #[.agg #[v0,v1],.agg #[v2,v3,v4,v5,v6,v7,v8,v9,v10,v11],.string t])) W':=by
 obtain⟨hb,h⟩:=h;refine⟨hb,?_⟩;rcases h with ⟨v0,v1,v2,v3,v4,v5,v6,v7,v8,v9,v10,v11,l,rfl,hk,ho⟩|⟨rfl,hn⟩|⟨rfl,hn⟩
 ·exact⟨v0,v1,v2,v3,v4,v5,v6,v7,v8,v9,v10,v11,_,rfl,ho,λw2 W' hk2 hb2=>⟨hb2,.inl ⟨v0,v1,v2,v3,v4,v5,v6,v7,v8,v9,v10,v11,l,rfl,hk2 l hk,ho⟩⟩⟩
 ·exact⟨d0,d1,s0,s1,s2,s3,s4,s5,s6,s7,s8,s9,_,rfl,hone,λw2 W' _ hb2=>⟨hb2,.inr (.inl ⟨rfl,hn⟩)⟩⟩
 ·exact⟨d0,d1,s0,s1,s2,s3,s4,s5,s6,s7,s8,s9,_,rfl,hone,λw2 W' _ hb2=>⟨hb2,.inr (.inr ⟨rfl,hn⟩)⟩⟩
theorem xJw (K:List Value->Bs->World->Prop) (N1 N2:Prop) (d0 d1 s0 s1 s2 s3 s4 s5 s6 s7 s8 s9 n0 n1 n2 n3 n4 n5:Value) (tag line:Bs) (w:World) (hK:∀vs l,Stb (K vs l)) (hone:∀v∈[d0,d1,s0,s1,s2,s3,s4,s5,s6,s7,s8,s9],v.oneCell'=true)
  (hdo:∀W xv,ψ w W->RdS W W.heap.size xv [line]->Calls prog 25 #[.agg #[d0,d1],.agg #[s0,s1,s2,s3,s4,s5,s6,s7,s8,s9],.agg #[xv,.slice none 0 0],.agg #[n0,n1,n2,n3,n4,n5]] W (rD K N1 N2 d0 d1 s0 s1 s2 s3 s4 s5 s6 s7 s8 s9 tag W)):
  Calls prog 9 #[.agg #[d0,d1],.agg #[s0,s1,s2,s3,s4,s5,s6,s7,s8,s9],xK line,.agg #[n0,n1,n2,n3,n4,n5]] w (rD K N1 N2 d0 d1 s0 s1 s2 s3 s4 s5 s6 s7 s8 s9 tag w):=by
 have HD:=ι hdo;have HK:=ι hK;have jQ:=ι hone;clear hdo hone hK;have H6:=ι (six w (yQ d0 d1) (uO s0 s1 s2 s3 s4 s5 s6 s7 s8 s9) (drwO n0 n1 n2 n3 n4 n5) (yQ (.slice none 0 0) (.slice none 0 0)) xKs (.cells #[xK line] 9))
 have HR:=ι (λ(W:World) (h:Six w (yQ d0 d1) (uO s0 s1 s2 s3 s4 s5 s6 s7 s8 s9) (drwO n0 n1 n2 n3 n4 n5) (yQ (.slice none 0 0) (.slice none 0 0)) xKs (.cells #[xK line] 9) W)=>
  (show RdS W W.heap.size (.slice (some ⟨w.heap.size+1+1+1+1+1,0,none⟩) 1 1) [line] from⟨_,1,rfl,σ,λ_=>⟨w.heap.size+5,0,rfl,by rw[h.size];omega,λj x hx=>by
   have hj:j=0:=by have:=(List.getElem?_eq_some_iff.1 hx).1;simp at this;omega
   subst hj;rw[Nat.zero_add,xA h.p5 0];simp at hx;subst hx
   rfl⟩⟩))
 obtain⟨PO,hPO⟩:∃PO,rD K N1 N2 d0 d1 s0 s1 s2 s3 s4 s5 s6 s7 s8 s9 tag w=PO:=⟨_,rfl⟩;rw[hPO];have HPO:=ι hPO;clear hPO;go_enter func9,ntmps9;go_wp2_with fail
 refine(HD.o _ _ H6.o.bel (HR.o _ H6.o)).mono ?_;intro e w1 hpost;obtain⟨hb1,v0,v1,v2,v3,v4,v5,v6,v7,v8,v9,v10,v11,t,rfl,hov,hfin⟩:=hpost.split jQ.o;have hz6:=H6.o.size;have HB1:=ι (H6.o.bel.trans (hb1.mono H6.o.bel.size))
 have r3:w1.heap[w.heap.size+1+1+1]?=some (yQ (.slice none 0 0) (.slice none 0 0)):=xC H6.o.p3 hb1 ω;have r4:w1.heap[w.heap.size+1+1+1+1]?=some xKs:=xC H6.o.p4 hb1 ω
 have HFN:Hid (rD K N1 N2 d0 d1 s0 s1 s2 s3 s4 s5 s6 s7 s8 s9 tag w (.returned (.tuple #[.agg #[v0,v1],.agg #[v2,v3,v4,v5,v6,v7,v8,v9,v10,v11],.string t])) (yX (w.heap.size+1+1+1+1) 0 [v2,v3,v4,v5,v6,v7,v8,v9,v10,v11] (yX (w.heap.size+1+1+1) 0 [v0,v1] w1))):=ι (hfin w _ (λl hk=>(HK.o [v0,v1,v2,v3,v4,v5,v6,v7,v8,v9,v10,v11] l).put _ ((HK.o [v0,v1,v2,v3,v4,v5,v6,v7,v8,v9,v10,v11] l).put [v0,v1] hk r3 (.inl rfl)) (uI ω [v0,v1] 0 _ r4) (.inr rfl)) (zU ω _ 0 _ (zU ω _ 0 _ HB1.o)))
 have s4:=uI (b:=w.heap.size+1+1+1) ω [v0,v1] 0 _ r4;have HE3:=ι (uI (b:=w.heap.size+1+1+1+1) ω [v2,v3,v4,v5,v6,v7,v8,v9,v10,v11] 0 _ (uU (l:=[v0,v1]) r3 rfl));have HE4:=ι (uU (l:=[v2,v3,v4,v5,v6,v7,v8,v9,v10,v11]) s4 rfl);simp only[yX,Nat.reduceAdd] at HFN HE3 HE4
 have f0:=xA r3 0;have f1:=xA r3 1;have x0:=xD r3 0;have x1:=xD r3 1;have g0:=xA r4 0;have y0:=xD r4 0;have g1:=xA r4 1;have y1:=xD r4 1;have g2:=xA r4 2;have y2:=xD r4 2;have g3:=xA r4 3;have y3:=xD r4 3;have g4:=xA r4 4;have y4:=xD r4 4;have g5:=xA r4 5;have y5:=xD r4 5
 have g6:=xA r4 6;have y6:=xD r4 6;have g7:=xA r4 7;have y7:=xD r4 7;have g8:=xA r4 8;have y8:=xD r4 8;have g9:=xA r4 9;have y9:=xD r4 9;have T0:=λ(W:World) (a:Addr)=>run_store prog W a v0 .plain (hov v0 σ)
 have T1:=λ(W:World) (a:Addr)=>run_store prog W a v1 .plain (hov v1 σ);have T2:=λ(W:World) (a:Addr)=>run_store prog W a v2 .plain (hov v2 σ);have T3:=λ(W:World) (a:Addr)=>run_store prog W a v3 .plain (hov v3 σ)
 have T4:=λ(W:World) (a:Addr)=>run_store prog W a v4 .plain (hov v4 σ);have T5:=λ(W:World) (a:Addr)=>run_store prog W a v5 .plain (hov v5 σ);have T6:=λ(W:World) (a:Addr)=>run_store prog W a v6 .plain (hov v6 σ)
 have T7:=λ(W:World) (a:Addr)=>run_store prog W a v7 .plain (hov v7 σ);have T8:=λ(W:World) (a:Addr)=>run_store prog W a v8 .plain (hov v8 σ);have T9:=λ(W:World) (a:Addr)=>run_store prog W a v9 .plain (hov v9 σ)
 have T10:=λ(W:World) (a:Addr)=>run_store prog W a v10 .plain (hov v10 σ);have T11:=λ(W:World) (a:Addr)=>run_store prog W a v11 .plain (hov v11 σ);clear hb1 hz6 H6 HR HD r3 r4 s4 hfin hpost hov HB1;go_wp2;have f0:=xA HE3.o 0;have f1:=xA HE3.o 1;have g0:=xA HE4.o 0
 have g1:=xA HE4.o 1;have g2:=xA HE4.o 2;have g3:=xA HE4.o 3;have g4:=xA HE4.o 4;have g5:=xA HE4.o 5;have g6:=xA HE4.o 6;have g7:=xA HE4.o 7;have g8:=xA HE4.o 8;have g9:=xA HE4.o 9
 refine bodyPost_ret (v:=.tuple #[.agg #[v0,v1],.agg #[v2,v3,v4,v5,v6,v7,v8,v9,v10,v11],.string t]) (by simp[results,results9,go_sem,f0,f1,g0,g1,g2,g3,g4,g5,g6,g7,g8,g9]) rfl ?_;rw[<-HPO.o];with_reducible exact HFN.o
end Go.Proofs.IM
namespace Go.Proofs.IM
open Go.RowKit MM BU Mailsack VB
def xE6 (x:Bs):Prop:=isWord x=true/\zN x=true/\x.length<=60
def xZw (L:List Bs) (e:Ending):Prop:=∃r,e=.returned (.bool r)/\(r=true->∀x∈L,xE6 x)
theorem xWj {L:List Bs} (h:∀(j:Nat) x,j<L.length->L[j]?=some x->xE6 x):∀x∈L,xE6 x:=λx hx=>by
 obtain⟨j,hj⟩:=List.mem_iff_getElem?.1 hx;exact h j x (List.getElem?_eq_some_iff.1 hj).1 hj
theorem xRr (v:Value) (L:List Bs) (w:World) (h:RdS w w.heap.size v L) (hl:L.length<=9223372036854775807) (hL:∀x∈L,x.length<=9223372036854775807):
  Calls prog 7 #[v] w λe w'=>xZw L e/\w'=w:=by
 obtain⟨A,c,rfl,hc,hcell⟩:=h;have Hc:=ι hcell;have HLs:=ι hL;clear hcell hL;go_enter func7,ntmps7;go_wp2
 go_loop [8] (λiv=>∃k:Nat,k<=L.length/\iv=.int .i64 k/\Hid (∀(j:Nat) x,j<k->L[j]?=some x->xE6 x)) (λiv=>L.length- (intOf iv).toNat)
 case atStart=>exact⟨0,Nat.zero_le _,rfl,ι (λj x hj _=>by omega)⟩
 case round=>
  obtain⟨k,hk,rfl,hr⟩:=hrel
  by_cases hlt:k<L.length
  ·obtain⟨b,off,rfl,hb,hcl⟩:=Hc.o ω;obtain⟨x,hx⟩:∃x,L[k]?=some x:=⟨_,List.getElem?_eq_getElem hlt⟩;obtain⟨xb,hxb⟩:∃xb:ByteArray,(⟨x.toArray⟩:ByteArray)=xb:=⟨_,rfl⟩;have q:w.cell? ⟨b,off+k,none⟩=some (.string xb):=by rw[<-hxb];exact hcl k x hx
   have hxm:xb.size<=9223372036854775807:=by rw[<-hxb];exact HLs.o x (List.mem_of_getElem? hx)
   have HX:Hid (xb.data.toList=x):=ι (by rw[<-hxb]);have HXK:=ι hx;clear hxb hcl hx
   by_cases h0:xb.toList=[]
   ·have e0:(xb.toList==[])=true:=by simp[h0]
    clear h0;go_wp2;go_ret;exact⟨⟨_,rfl,λh=>by simp at h⟩,rfl⟩
   ·have e0:(xb.toList==[])=false:=by simp[h0]
    have HNE:Hid (0<xb.size):=ι (by
     rcases Nat.eq_zero_or_pos xb.size with e|e
     ·exact absurd (by rw[ByteArray.toList_eq];exact List.eq_nil_of_length_eq_zero (by simpa using e)) h0
     ·exact e)
    clear h0
    by_cases h60:60<xb.size
    ·have h60':(60:Int)<(xb.size:Int):=ω;go_wp2;go_ret;exact⟨⟨_,rfl,λh=>by simp at h⟩,rfl⟩
    ·have h60':¬((60:Int)<(xb.size:Int)):=ω;have HPL:=ι (xPg xb w ω);obtain⟨pl,hpl⟩:∃pl,zN xb.data.toList=pl:=⟨_,rfl⟩;rw[hpl] at HPL;have HP:=ι hpl;clear hpl;go_wp2_with fail
     refine HPL.o.mono ?_;rintro e w1 ⟨rfl,rfl⟩;clear HPL;cases pl with
     |false=>
      go_wp2;go_ret;exact⟨⟨_,rfl,λh=>by simp at h⟩,rfl⟩
     |true=>
      go_wp2_with fail
      go_loop [26] (λiv=>∃m:Nat,m<=xb.size/\iv=.int .i64 m/\Hid ((xb.data.toList.take m).all (λc=>!uC c)=true)) (λiv=>xb.size- (intOf iv).toNat)
      case atStart=>exact⟨0,Nat.zero_le _,rfl,ι rfl⟩
      case round=>
       obtain⟨m,hm,rfl,hs⟩:=hrel
       by_cases hlm:m<xb.size
       ·have b1:((xb[m].toNat:Int)==32)=(xb[m]==32):=by rw[Bool.eq_iff_iff,beq_iff_eq,beq_iff_eq];exact vO (n:=32) δ
        have b2:((xb[m].toNat:Int)==40)=(xb[m]==40):=by rw[Bool.eq_iff_iff,beq_iff_eq,beq_iff_eq];exact vO (n:=40) δ
        have b3:((xb[m].toNat:Int)==41)=(xb[m]==41):=by rw[Bool.eq_iff_iff,beq_iff_eq,beq_iff_eq];exact vO (n:=41) δ
        have b4:((xb[m].toNat:Int)==34)=(xb[m]==34):=by rw[Bool.eq_iff_iff,beq_iff_eq,beq_iff_eq];exact vO (n:=34) δ
        have HST:Hid (uC xb[m]=false->(xb.data.toList.take (m+1)).all (λc=>!uC c)=true):=ι (λhsp=>by
         have hg:xb.data.toList[m]?=some xb[m]:=by
          rw[List.getElem?_eq_getElem (by simpa using hlm)]
          rfl
         rw[List.take_add_one,hg,List.all_append,hs.o];simp[hsp])
        have HSP:Hid (uC xb[m]=((xb[m]==32)||(xb[m]==40)||(xb[m]==41)||(xb[m]==34))):=ι rfl;cases h1:xb[m]==32<;>rw[h1] at b1 HSP
        ·cases h2:xb[m]==40<;>rw[h2] at b2 HSP
         ·cases h3:xb[m]==41<;>rw[h3] at b3 HSP
          ·cases h4:xb[m]==34<;>rw[h4] at b4 HSP
           ·have HN:=ι (HST.o HSP.o);clear h1 h2 h3 h4;go_wp2
            go_round
            case rel=>exact⟨m+1,ω,by go_num,HN⟩
            case measure=>simp[intOf];omega
           ·clear h1 h2 h3 h4;go_wp2;go_ret;exact⟨⟨_,rfl,λh=>by simp at h⟩,rfl⟩
          ·clear h1 h2 h3;go_wp2;go_ret;exact⟨⟨_,rfl,λh=>by simp at h⟩,rfl⟩
         ·clear h1 h2;go_wp2;go_ret;exact⟨⟨_,rfl,λh=>by simp at h⟩,rfl⟩
        ·clear h1;go_wp2;go_ret;exact⟨⟨_,rfl,λh=>by simp at h⟩,rfl⟩
       ·have HK:Hid (∀(j:Nat) y,j<k+1->L[j]?=some y->xE6 y):=ι (λj y hj hy=>by
         by_cases e:j=k
         ·subst e;rw[HXK.o] at hy;injection hy with hy;subst hy;rw[<-HX.o];refine⟨?_,HP.o,by simp;omega⟩;unfold isWord;rw[Bool.and_eq_true];refine⟨by have:=HNE.o;simpa using this,?_⟩;have:=hs.o
          rwa [List.take_of_length_le (by simp;omega)] at this
         ·exact hr.o j y ω hy)
        go_wp2
        go_round
        case rel=>exact⟨k+1,ω,by go_num,HK⟩
        case measure=>simp[intOf];omega
  ·have HK:Hid (∀x∈L,xE6 x):=ι (xWj (λj x hj hx=>hr.o j x ω hx));go_wp2;go_ret;exact⟨⟨_,rfl,λ_=>HK.o⟩,rfl⟩
end Go.Proofs.IM
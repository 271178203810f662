/- Contracts of functions. Conditions: as stated. -/
import Derived.Test.YtnafbinmecekeaaGreatDoorImapSearchesProofB15
open Go.Proofs.Tryz
set_option maxHeartbeats 8000000
set_option maxRecDepth 100000
namespace Go.Proofs.IM
open Go.RowKit MM BU Mailsack SV RK DS IX BK QU VB MP Go.Proofs.VA
theorem xTh (b:Nat) (su bx:ByteArray) (w:World) (h:w.cell? ⟨b,2,none⟩=some (.string su)) (h9:w.cell? ⟨b,9,none⟩=some (.string bx)) (hs:(su.toList==[])=false) (hb:(bx.toList==[])=false):
  Calls prog 52 #[xIs b,.int .i64 3] w λe w'=>e=.returned (.bool true)/\w'=w:=by
 go_enter func52,ntmps52;go_wp2;go_ret;exact⟨rfl,rfl⟩
theorem xP3 (A:Option Addr) (c:Nat) (w:World):
  Calls prog 205 #[.slice A 0 c,.int .i64 0] w λe w'=>∃A9 c9,e=.returned (.tuple #[.slice none 0 0,.slice A9 0 c9,.bool true])/\ψ w w':=by
 go_enter func205,ntmps205;go_wp2_with fail
 go_loopw [7,18] (λtv iv wr=>tv=.slice none 0 0/\iv=.int .i64 0/\wr=w) (λ_ _ _=>0)
 case atStart=>exact⟨rfl,rfl,rfl⟩
 case round=>
  obtain⟨rfl,rfl,rfl⟩:=hrel
  by_cases hc:c=0
  ·subst hc;go_upto_region 11 with fail
   refine RG.xH (λW=>Hid (ψ wr W)) κ κ (ι (Below.refl _ _).drew) ?_;iterate 7 refine RG.dS ?_
   refine RG.xL (λw9 hw9=>?_);go_wp2;go_ret3;exact⟨_,_,rfl,hw9.o⟩
  ·have hlt:0<c:=ω;go_upto_region 11 with fail
   refine RG.xH (λW=>Hid (ψ wr W)) κ κ (ι (Below.refl _ _).drew) ?_;iterate 7 refine RG.dS ?_
   refine RG.xL (λw9 hw9=>?_);go_wp2;go_ret3;exact⟨_,_,rfl,hw9.o⟩
theorem all_none (A:Option Addr) (c:Nat) (w:World):
  Calls prog 191 #[.slice A 0 c,.int .i64 0] w λe w'=>∃A9 c9,e=.returned (.tuple #[.slice A9 0 c9,.bool true])/\ψ w w':=by
 go_enter func191,ntmps191;go_wp2_with fail
 refine(xP3 A c _).mono ?_;rintro e w1 ⟨A9,c9,rfl,hb⟩;have HB:=ι hb;clear hb;go_wp2;go_ret2;exact⟨_,_,rfl,HB.o⟩
theorem xNr:∀(l:List Bs),(∀x∈l,x.length<=60)->(vI l).length<=61*l.length
 |[],_=>Nat.le_refl _
 |[x],h=>by have:=h x σ;simp[vI];omega
 |x::y::l,h=>by
  have h1:=h x σ;have h2:=xNr (y::l) (λz hz=>h z (by simp[hz]));simp only[vI,List.length_append,List.length_cons] at h2⊢;omega
theorem xV3 (ub:Bool) (d0 d1 bv sv:Value) (su sp so bx f1 f2 f3 f4 f5:ByteArray) (se rd m:Int) (x:zO) (o1 o2:Bool) (d:Dk) (ws:List Bs) (w:World) (hD:RdD w w.heap.size d0 d1 d) (hx:xIn w w.heap.size bv sv x) (hr:uZ x=true) (hs:(su.toList==[])=false) (hb:(bx.toList==[])=false) (hw:∀y∈ws,xE6 y) (hl:ws.length<=10) (hu:su.size<=1000) (hm:w.cell? ⟨2,0,none⟩=some (.int .i64 m)) (hT:VaT w):
  Calls prog 9 #[.agg #[d0,d1],.agg #[.string su,.string sp,.string so,.int .i64 se,bv,sv,.int .i64 x.given,.string bx,.bool o1,.bool o2],xK (vI ([116]::(if ub=true then[85,73,68]::[83,69,65,82,67,72]::ws else[83,69,65,82,67,72]::ws))),.agg #[.string f1,.string f2,.string f3,.string f4,.string f5,.int .i64 rd]] w
   (rD (λvs l W'=>∃K,zW ws=some K/\xIq d su sp so se (zF x bx.data.toList)=true/\SrK [d0,d1,.string su,.string sp,.string so,.int .i64 se,bv,sv,.int .i64 x.given,.string bx,.bool o1,.bool o2] ([42,32]++uY ub K (zF x bx.data.toList) (xG2 d su sp so se (zF x bx.data.toList)) (zF x bx.data.toList).length++[13,10]) vs l W') (zW ws≠none/\xIq d su sp so se (zF x bx.data.toList)=false) (zW ws=none) d0 d1 (.string su) (.string sp) (.string so) (.int .i64 se) bv sv (.int .i64 x.given) (.string bx) (.bool o1) (.bool o2) [116] w):=by
 have hone:∀v∈[d0,d1,.string su,.string sp,.string so,.int .i64 se,bv,sv,.int .i64 x.given,.string bx,.bool o1,.bool o2],v.oneCell'=true:=by
  obtain⟨A1,c1,A2,c2,rfl,rfl⟩:=vY hD;obtain⟨Ab,cb,rfl,_⟩:=hx.boxes;obtain⟨As,cs,rfl,_⟩:=hx.subs;intro v hv;simp only[List.mem_cons,List.not_mem_nil,or_false] at hv;rcases hv with rfl|rfl|rfl|rfl|rfl|rfl|rfl|rfl|rfl|rfl|rfl|rfl<;>rfl
 have hall:∀y∈([116]::(if ub=true then[85,73,68]::[83,69,65,82,67,72]::ws else[83,69,65,82,67,72]::ws)),isWord y=true/\zN y=true/\y.length<=60:=by
  intro y hy;have h1:isWord [116]=true/\zN [116]=true/\[116].length<=60:=δ;have h2:isWord [85,73,68]=true/\zN [85,73,68]=true/\[85,73,68].length<=60:=δ;have h3:isWord [83,69,65,82,67,72]=true/\zN [83,69,65,82,67,72]=true/\[83,69,65,82,67,72].length<=60:=δ;cases ub
  ·simp only[Bool.false_eq_true,if_false,List.mem_cons] at hy;rcases hy with rfl|rfl|hy
   ·exact h1
   ·exact h3
   ·exact hw y hy
  ·simp only[if_true,List.mem_cons] at hy;rcases hy with rfl|rfl|rfl|hy
   ·exact h1
   ·exact h2
   ·exact h3
   ·exact hw y hy
 have hll:([116]::(if ub=true then[85,73,68]::[83,69,65,82,67,72]::ws else[83,69,65,82,67,72]::ws)).length<=13:=by cases ub<;>simp<;>omega
 have hlen:(vI ([116]::(if ub=true then[85,73,68]::[83,69,65,82,67,72]::ws else[83,69,65,82,67,72]::ws))).length<=1000000:=by have:=xNr _ (λy hy=>(hall y hy).2.2);omega
 refine xJw (λvs l W'=>∃K,zW ws=some K/\xIq d su sp so se (zF x bx.data.toList)=true/\SrK [d0,d1,.string su,.string sp,.string so,.int .i64 se,bv,sv,.int .i64 x.given,.string bx,.bool o1,.bool o2] ([42,32]++uY ub K (zF x bx.data.toList) (xG2 d su sp so se (zF x bx.data.toList)) (zF x bx.data.toList).length++[13,10]) vs l W') (zW ws≠none/\xIq d su sp so se (zF x bx.data.toList)=false) (zW ws=none) d0 d1 _ _ _ _ _ _ _ _ _ _ _ _ _ _ _ _ [116] _ w (λvs l=>⟨λh _=>h,λ_ h _ _=>h⟩) hone (λW xv hbW hx2=>?_)
 refine yC3 ub (λvs l W'=>∃K,zW ws=some K/\xIq d su sp so se (zF x bx.data.toList)=true/\SrK [d0,d1,.string su,.string sp,.string so,.int .i64 se,bv,sv,.int .i64 x.given,.string bx,.bool o1,.bool o2] ([42,32]++uY ub K (zF x bx.data.toList) (xG2 d su sp so se (zF x bx.data.toList)) (zF x bx.data.toList).length++[13,10]) vs l W') (zW ws≠none/\xIq d su sp so se (zF x bx.data.toList)=false) (zW ws=none) d0 d1 _ _ _ _ _ _ _ _ _ _ _ _ _ _ _ _ xv (.slice none 0 0) [(vI ([116]::(if ub=true then[85,73,68]::[83,69,65,82,67,72]::ws else[83,69,65,82,67,72]::ws)))] [] [116] [85,73,68] [83,69,65,82,67,72] (if ub=true then[85,73,68,32,83,69,65,82,67,72] else[83,69,65,82,67,72]) (ws.map (λy=>(0,y))) 3 124 true W (λvs l=>⟨λh _=>h,λ_ h _ _=>h⟩) hx2 (VB.xNb W _)
  (λy hy=>by rw[List.mem_singleton.1 hy];exact hlen) σ σ hone
  (by rw[xL7 _ (λy hy=>(hall y hy).1) (λy hy=>(hall y hy).2.1) ω];cases ub<;>rfl) δ δ δ (by cases ub<;>decide) δ δ δ
  (by cases ub;exact List.mem_of_getElem? (i:=17) rfl;exact List.mem_of_getElem? (i:=21) rfl) (by cases ub<;>(intro v hv;simpa[uF] using hv)) (λargs W=>enters_of func124 κ rfl args W)
  (λb sl W h=>xTh b su bx W (xA h 2) (xA h 9) hs hb) (λh=>by cases h) (λ_ b sl W2 hb2 hle hC hA=>?_)
 have hbw:=hbW.trans (hb2.mono hbW.size);have hbl:=xJ hC.blk;have hwl:w.heap.size<=W2.heap.size:=hbw.size;have hml:2<w.heap.size:=World.block_lt_of_cell? w _ hm
 refine xPd b d0 d1 bv sv sl _ _ _ _ _ _ d su sp so bx se m x o1 o2 ub ws W2 hC ((hD.below hbw ν).more hwl) ((hx.below hbw ν).more hwl) hr (λW3 hb3=>?_) ?_ ⟨ω,λy hy=>by have:=(hw y hy).2.2;omega⟩ ω (xN1 _ _ _ _ _ _) ((hbw.cell (p:=⟨2,0,none⟩) hml).trans hm) (Nat.lt_of_lt_of_le hml hwl) (hT.below hbw)
 ·by_cases h0:ws=[]
  ·subst h0;obtain⟨A,c,rfl,_,_⟩:=hA;refine(all_none A c W3).mono ?_;rintro e w' ⟨A9,c9,rfl,hb⟩;exact⟨A9,c9,rfl,⟨A9,c9,rfl,Nat.zero_le _,λh=>absurd h δ⟩,hb⟩
  ·have hp:0<ws.length:=List.length_pos_iff.2 h0;have:=xVt (ws.map (λy=>(0,y))) sl W3 ((hA.below hb3 ν).more hb3.size) σ (by simp;omega) (by simpa using hp);rw[List.length_map] at this;refine this.mono ?_;rintro e w' ⟨A9,c9,rfl,ho,hb⟩;refine⟨A9,c9,rfl,?_,hb⟩
   have h:=xDi (ho.rd xAt);rw[List.map_map] at h;simpa[Function.comp_def] using h
 ·obtain⟨A,c,rfl,_,_⟩:=hA;exact⟨A,c,by rw[List.length_map]⟩
end Go.Proofs.IM
namespace Go.Proofs.IM
open Go.RowKit MM BU Mailsack SV RK DS IX BK Go.Proofs.VA
theorem xLw (ub:Bool) (bo:wN) (mv:Value) (w:World) (hM:uN w w.heap.size mv bo.xU) (hl:bo.xU.length<=30):
  Calls prog 18 #[bxT bo mv,.bool ub] w λe w'=>∃v,e=.returned v/\zP 3 1 xRa w' w.heap.size v ((List.range bo.xU.length).map (vH ub bo.xU))/\ψ w w':=by
 obtain⟨Am,cm,rfl,hcm,hmc⟩:=hM;generalize bo.xU=L at hmc hcm hl⊢;have HMC:=ι hmc;have hal:=φ w (.cells #[xK bo.name,.int .i64 bo.validity,.int .i64 bo.next,.slice Am L.length cm] 39)
 have H0:=ι (And.intro hal (xI w (.cells #[xK bo.name,.int .i64 bo.validity,.int .i64 bo.next,.slice Am L.length cm] 39)))
 have hX:zP 3 1 xRa (w.alloc (.cells #[xK bo.name,.int .i64 bo.validity,.int .i64 bo.next,.slice Am L.length cm] 39)) w.heap.size (.slice none 0 0) (((List.range L.length).map (vH ub L)).take 0):=zP.nil _ _;have HX:=ι hX;clear hmc hcm hal hX
 show Calls prog 18 #[.agg #[xK bo.name,.int .i64 bo.validity,.int .i64 bo.next,.slice Am L.length cm],.bool ub] w _;generalize bo.name=nm at H0 HX⊢;generalize bo.validity=vl at H0 HX⊢;generalize bo.next=nx at H0 HX⊢;go_enter func18,ntmps18
 go_upto_region 1 with fail
 obtain⟨w1,hw1⟩:∃w1,w.alloc (.cells #[xK nm,.int .i64 vl,.int .i64 nx,.slice Am L.length cm] 39)=w1:=⟨_,rfl⟩;rw[hw1] at H0 HX⊢;clear hw1;have s:=H0.o.2;obtain⟨s0,s1,s2,s3⟩:=cbl4 s;clear s;obtain⟨ln,hln⟩:∃n,L.length=n:=⟨_,rfl⟩;have HLN:=ι hln;rw[hln] at hl HMC HX s3;rw[hln]
 clear hln;go_wp2_with fail
 go_loopw [5,11] (λtv iv wr=>∃k:Nat,k<=ln/\iv=.int .i64 k/\Hid (zP 3 1 xRa wr w.heap.size tv (((List.range ln).map (vH ub L)).take k)/\ψ w wr)) (λ_ iv _=>ln- (intOf iv).toNat)
 case atStart=>exact⟨0,Nat.zero_le _,rfl,ι ⟨HX.o,H0.o.1⟩⟩
 case round=>
  obtain⟨k,hk,rfl,HI⟩:=hrel;clear HX
  by_cases hlt:k<ln
  ·obtain⟨m,hm⟩:∃m,L[k]?=some m:=⟨_,List.getElem?_eq_getElem (by rw[HLN.o];exact hlt)⟩;obtain⟨g,off,rfl,hg,hcs⟩:=HMC.o ω;obtain⟨e0,e1,e2,e3⟩:=hcs k m hm;have q0:=(HI.o.2.cell (p:=⟨g,off+k*4,none⟩) hg).trans e0;have q1:=(HI.o.2.cell (p:=⟨g,off+k*4+1,none⟩) hg).trans e1
   have q2:=(HI.o.2.cell (p:=⟨g,off+k*4+2,none⟩) hg).trans e2;have q3:=(HI.o.2.cell (p:=⟨g,off+k*4+3,none⟩) hg).trans e3
   have HNM:Hid (vH ub L k=if ub=true then m.uid else(k:Int)+1):=ι (by
    unfold vH;simp only[List.getD_eq_getElem?_getD,hm,Option.getD_some])
   have HS:Hid (((List.range ln).map (vH ub L)).take (k+1)=((List.range ln).map (vH ub L)).take k++[if ub=true then m.uid else(k:Int)+1]):=ι (by rw[List.take_add_one,List.getElem?_map,List.getElem?_range hlt,<-HNM.o];rfl)
   have HTL:Hid ((((List.range ln).map (vH ub L)).take k).length=k):=ι (by rw[List.length_take,List.length_map,List.length_range];omega);have hal:=φ wr (.cells #[.int .i64 m.uid,.int .i64 m.flags,.int .i64 m.object,.int .i64 m.size] 58)
   have HA:=ι (And.intro (HI.o.1.alloc (.cells #[.int .i64 m.uid,.int .i64 m.flags,.int .i64 m.object,.int .i64 m.size] 58)) (And.intro (HI.o.2.trans (hal.mono HI.o.2.size)) (xI wr (.cells #[.int .i64 m.uid,.int .i64 m.flags,.int .i64 m.object,.int .i64 m.size] 58))))
   generalize ((List.range ln).map (vH ub L)).take k=TK at HI HS HTL HA;clear hm hcs e0 e1 e2 e3 HI hal hg HNM;go_upto_region 5 with fail
   clear q0 q1 q2 q3;obtain⟨g9,hg9⟩:∃g,wr.heap.size=g:=⟨_,rfl⟩;obtain⟨w3,hw3⟩:∃w3,wr.alloc (.cells #[.int .i64 m.uid,.int .i64 m.flags,.int .i64 m.object,.int .i64 m.size] 58)=w3:=⟨_,rfl⟩;rw[hw3] at HA⊢;rw[hg9] at HA⊢;clear hw3 hg9;have y:=HA.o.2.2;obtain⟨y0,y1,y2,y3⟩:=cbl4 y
   clear y;have hsz:=HA.o.2.1.size;cases ub with
   |true=>
    have HAD:Hid (∀v8 w8,xW5 3 1 xRa (w3.alloc (.cells #[.int .i64 m.uid] 3)) w8 w.heap.size u5 v8 (TK++[m.uid])->Hid (zP 3 1 xRa w8 w.heap.size v8 (((List.range ln).map (vH true L)).take (k+1))/\ψ w w8)):=ι λv8 w8 h8=>ι ⟨by rw[HS.o];exact h8.own,h8.bel (HA.o.1.alloc _) ν (HA.o.2.1.alloc HA.o.2.1.size _) (by have:=HA.o.2.1.size;simp;omega)⟩
    go_wp2_with (at_builtin;refine kW tyInt rfl _ _ rfl rfl rfl (HA.o.1.alloc _) (RdR.lit (m:=[m.uid]) xDq _ _ rfl) (by have:=HTL.o;simp;omega) (by simp;omega) ?_;intro v8 w8 h8;have HA8:=HAD.o _ _ h8;clear h8)
    exact⟨⟨k+1,ω,by go_num,HA8⟩,by simp[intOf];omega⟩
   |false=>
    have HAD:Hid (∀v8 w8,xW5 3 1 xRa (w3.alloc (.cells #[.int .i64 ((k:Int)+1)] 3)) w8 w.heap.size u5 v8 (TK++[(k:Int)+1])->Hid (zP 3 1 xRa w8 w.heap.size v8 (((List.range ln).map (vH false L)).take (k+1))/\ψ w w8)):=ι λv8 w8 h8=>ι ⟨by rw[HS.o];exact h8.own,h8.bel (HA.o.1.alloc _) ν (HA.o.2.1.alloc HA.o.2.1.size _) (by have:=HA.o.2.1.size;simp;omega)⟩
    go_wp2_with (at_builtin;refine kW tyInt rfl _ _ rfl rfl rfl (HA.o.1.alloc _) (RdR.lit (m:=[(k:Int)+1]) xDq _ _ rfl) (by have:=HTL.o;simp;omega) (by simp;omega) ?_;intro v8 w8 h8;have HA8:=HAD.o _ _ h8;clear h8)
    exact⟨⟨k+1,ω,by go_num,HA8⟩,by simp[intOf];omega⟩
  ·obtain rfl:k=ln:=ω;have HO:Hid (zP 3 1 xRa wr w.heap.size u5 ((List.range k).map (vH ub L))/\ψ w wr):=ι ⟨by have:=HI.o.1;rwa [List.take_of_length_le (by rw[List.length_map,List.length_range];exact Nat.le_refl _)] at this,HI.o.2⟩;clear HI hlt hk;go_wp2;go_ret
   exact⟨_,rfl,by rw[HLN.o];exact HO.o.1,HO.o.2⟩
end Go.Proofs.IM
namespace Mailsack
open Go.Proofs.QU
theorem xGu (L:List Bs) (h:∀x∈L,x.length<=60):∀k,(kC L [32] k).length<=61*k
 |0=>by simp[kC]
 |k+1=>by
  have h1:=xGu L h k
  have h2:(L.getD k []).length<=60:=by
   rw[List.getD_eq_getElem?_getD];cases hx:L[k]? with
   |none=>simp
   |some x=>exact h x (List.mem_of_getElem? hx)
  rw[pK];split<;>simp only[List.length_append,List.length_cons,List.length_nil]<;>omega
def yAr (ub:Bool) (qp:Option (List vU)) (op:Bool) (L:List uT) (tx:List Bs):Bs:=
 match qp with
 |none=>[116,32,66,65,68,13,10]
 |some K=>if op=true then[42,32]++uY ub K L tx L.length++[13,10]++[116]++[32,79,75]++[13,10] else[116,32,78,79,13,10]
end Mailsack
namespace Go.Proofs.IM
open Go.RowKit MM BU Mailsack SV RK DS IX BK QU VB MP Go.Proofs.VA
theorem xJ8 (s:ByteArray):xK s.data.toList=.string s:=by simp[xK]
theorem tx_of {w:World} {B:Nat} {v:Value} {l:List Bs} (h:RdS w B v l):RdR 1 txF w B v l:=by
 obtain⟨A,c,h1,h2,h3⟩:=h;refine⟨A,c,h1,h2,λhn=>?_⟩;obtain⟨b,off,h4,h5,h6⟩:=h3 hn;refine⟨b,off,h4,h5,λj x hx i u hu=>?_⟩;have hi:i<1:=by simpa using(List.getElem?_eq_some_iff.1 hu).1
 obtain rfl:i=0:=ω;obtain rfl:xK x=u:=by simpa[txF] using hu
 rw[Nat.mul_one,Nat.add_zero];exact h6 j x hx
theorem se_of {ub:Bool} {qp:Option (List vU)} {op:Bool} {L:List uT} {tx:List Bs} {d0 d1 s0 s1 s2 s3 s4 s5 s6 s7 s8 s9:Value} {w w':World} {e:Ending}
  (h:rD (λvs l W'=>∃K,qp=some K/\op=true/\SrK [d0,d1,s0,s1,s2,s3,s4,s5,s6,s7,s8,s9] ([42,32]++uY ub K L tx L.length++[13,10]) vs l W') (qp≠none/\op=false) (qp=none) d0 d1 s0 s1 s2 s3 s4 s5 s6 s7 s8 s9 [116] w e w'):
  e=.returned (.tuple #[.agg #[d0,d1],.agg #[s0,s1,s2,s3,s4,s5,s6,s7,s8,s9],xK (yAr ub qp op L tx)])/\ψ w w':=by
 obtain⟨hb,h⟩:=h;refine⟨?_,hb⟩;rcases h with ⟨v0,v1,v2,v3,v4,v5,v6,v7,v8,v9,v10,v11,l,rfl,⟨K,rfl,rfl,hv,rfl⟩,_⟩|⟨rfl,hn,rfl⟩|⟨rfl,rfl⟩
 ·simp only[List.cons.injEq] at hv;obtain⟨rfl,rfl,rfl,rfl,rfl,rfl,rfl,rfl,rfl,rfl,rfl,rfl,_⟩:=hv
  rfl
 ·cases qp with
  |none=>exact absurd rfl hn
  |some K=>rfl
 ·rfl
theorem xT4 {α:Type} {e:TypeId} {k:Nat} {f:α->List Value} {w:World} {base:Nat} {v:Value} {l:List α} (h:zP e k f w base v l) {g:Nat} {cs:Array Value} {T:TypeId} {fr:Nat×Nat} (hb:w.heap[g]?=some (.cells cs T fr)) (hT:T≠e):v.ownBlock≠some g:=by
 rcases h.2 with ⟨h1,_⟩|⟨g',cap,cur,h1,_,h3,_⟩
 ·rw[h1];intro e;cases e
 ·rw[h1];intro e2;have:g'=g:=by simpa[Value.ownBlock] using e2
  subst this;rw[h3] at hb;injection hb with hb;injection hb with _ hb;exact hT hb.symm
theorem xAs {L:Nat->Bool} {i j:Nat} (h:j≠i):(j==i||L j)=L j:=by rw[show(j==i)=false from by simpa using h,Bool.false_or]
structure Sb (w:World) (P:List (Nat×Obj)) (W:World):Prop where
 k:∀(i:Nat) (p:Nat×Obj),P[i]?=some p->W.heap[p.1]?=some p.2
 bel:ψ w W
section
variable {w w1 W W':World} {P:List (Nat×Obj)}
theorem Sb.below (h:Sb w P W) (hb:ψ W W'):Sb w P W':=⟨λi p hp=>xC (h.k i p hp) hb (xJ (h.k i p hp)),h.bel.trans (hb.mono h.bel.size)⟩
theorem Sb.far (h:Sb w P w1) (hb:ψ w1 W):Sb w P W:=⟨λi p hp=>xC (h.k i p hp) hb (xJ (h.k i p hp)),h.bel.trans (hb.mono h.bel.size)⟩
theorem Sb.add (h:Sb w P W) {g:Nat} {o:Obj} (hg:W.heap[g]?=some o):Sb w (P++[(g,o)]) W:=by
 refine⟨λi p hp=>?_,h.bel⟩
 by_cases hi:i<P.length
 ·rw[List.getElem?_append_left hi] at hp;exact h.k i p hp
 ·rw[List.getElem?_append_right ω] at hp
  have:i-P.length=0:=by
   have:=(List.getElem?_eq_some_iff.1 hp).1;simp at this;omega
  rw[this] at hp;injection hp with hp;subst hp;exact hg
theorem Sb.new (h:Sb w P W) (o:Obj):Sb w (P++[(W.heap.size,o)]) (W.alloc o):=(h.below (φ W o)).add (xI W o)
end
def dsZ:List Value:=[.slice none 0 0,.slice none 0 0]
def stZ:List Value:=[.string ⟨#[]⟩,.string ⟨#[]⟩,.string ⟨#[]⟩,.int .i64 0,.slice none 0 0,.slice none 0 0,.int .i64 0,.string ⟨#[]⟩,.bool false,.bool false]
structure SeJ (w1:World) (T ws:List Bs) (ld ls:List Value) (L:Nat->Bool) (α:Nat->Value) (W:World):Prop where
 b:ψ w1 W
 s:L 5=true->∃g,α 5=.slice (some ⟨g,0,none⟩) 2 2/\(L 7=false->zP 9 1 txF W w1.heap.size (.slice (some ⟨g,0,none⟩) 2 2) T)
 p:L 7=true->L 8=false->RdR 1 txF W W.heap.size (α 7) (T++ws)
 d:L 15=true->∃g,α 15=.pointer (some ⟨g,0,none⟩)/\w1.heap.size<=g/\W.heap[g]?=some (.cells (if L 17=true then ld else dsZ).toArray 25 (0,0))
 t:L 16=true->∃g,α 16=.pointer (some ⟨g,0,none⟩)/\w1.heap.size<=g/\W.heap[g]?=some (.cells (if L 18=true then ls else stZ).toArray 32 (0,0))
section
variable {w1 W W':World} {T ws:List Bs} {ld ls:List Value} {L L':Nat->Bool} {α α':Nat->Value}
theorem SeJ.congr (h:SeJ w1 T ws ld ls L α W) (hl:∀i,i=5∨i=7∨i=8∨i=15∨i=16∨i=17∨i=18->L i=L' i) (ha:∀i,i=5∨i=7∨i=15∨i=16->L i=true->α i=α' i):SeJ w1 T ws ld ls L' α' W:=by
 have l5:=hl 5 σ;have l7:=hl 7 σ;have l8:=hl 8 σ;have l15:=hl 15 σ;have l16:=hl 16 σ;have l17:=hl 17 σ;have l18:=hl 18 σ;refine⟨h.b,λe=>?_,λe=>?_,λe=>?_,λe=>?_⟩
 ·rw[<-ha 5 σ (l5.trans e),<-l7];exact h.s (l5.trans e)
 ·rw[<-ha 7 σ (l7.trans e),<-l8];exact h.p (l7.trans e)
 ·rw[<-ha 15 σ (l15.trans e),<-l17];exact h.d (l15.trans e)
 ·rw[<-ha 16 σ (l16.trans e),<-l18];exact h.t (l16.trans e)
theorem SeJ.below (h:SeJ w1 T ws ld ls L α W) (hb:ψ W W'):SeJ w1 T ws ld ls L α W':=by
 refine⟨h.b.trans (hb.mono h.b.size),λe=>?_,λe e2=>((h.p e e2).below hb ν).more hb.size,λe=>?_,λe=>?_⟩
 ·obtain⟨g,q1,q2⟩:=h.s e;exact⟨g,q1,λe2=>(q2 e2).below hb⟩
 ·obtain⟨g,q1,q2,q3⟩:=h.d e;exact⟨g,q1,q2,xC q3 hb (xJ q3)⟩
 ·obtain⟨g,q1,q2,q3⟩:=h.t e;exact⟨g,q1,q2,xC q3 hb (xJ q3)⟩
theorem SeJ.lit {a c:Bs} (h:SeJ w1 [a,c] ws ld ls L α W) (h7:L 7=false):SeJ w1 [a,c] ws ld ls (λj=>j==5||L j) (RG.xGf α 5 (.slice (some ⟨W.heap.size,0,none⟩) 2 2)) (W.alloc (.cells #[xK a,xK c] 9)):=by
 have h2:=h.below (φ W (.cells #[xK a,xK c] 9));refine⟨h2.b,λ_=>⟨_,RG.wP _ _ _,λ_=>⟨rfl,.inr ⟨W.heap.size,2,_,rfl,h.b.size,xI _ _,Nat.le_refl _,by unfold maxLen;omega,rfl,rfl⟩⟩⟩,λe=>?_,λe=>?_,λe=>?_⟩
 ·exact absurd (show L 7=true by simpa using e) (by rw[h7];simp)
 ·rw[RG.yY _ _ _ δ,show(17==5||L 17)=L 17 from xAs δ];exact h2.d (by simpa using e)
 ·rw[RG.yY _ _ _ δ,show(18==5||L 18)=L 18 from xAs δ];exact h2.t (by simpa using e)
theorem SeJ.app (h:SeJ w1 T ws ld ls L α W) (h5:L 5=true) (h7:L 7=false):∃g,α 5=.slice (some ⟨g,0,none⟩) 2 2/\zP 9 1 txF W w1.heap.size (.slice (some ⟨g,0,none⟩) 2 2) T/\∀v' W',xW5 9 1 txF W W' w1.heap.size (.slice (some ⟨g,0,none⟩) 2 2) v' (T++ws)->SeJ w1 T ws ld ls (λj=>j==7||L j) (RG.xGf α 7 v') W':=by
 obtain⟨g,q1,q2⟩:=h.s h5;refine⟨g,q1,q2 h7,λv' W' ha=>⟨ha.bel (q2 h7) ν h.b h.b.size,λe=>⟨g,?_,λe=>by simp at e⟩,λ_ _=>?_,λe=>?_,λe=>?_⟩⟩
 ·rw[RG.yY _ _ _ δ];exact q1
 ·rw[RG.wP];exact ha.own.rd xAt
 ·obtain⟨g',k1,k2,k3⟩:=h.d (by simpa using e);rw[RG.yY _ _ _ δ,show(17==7||L 17)=L 17 from xAs δ];exact⟨g',k1,k2,ha.keep k3 (xT4 (q2 h7) k3 δ)⟩
 ·obtain⟨g',k1,k2,k3⟩:=h.t (by simpa using e);rw[RG.yY _ _ _ δ,show(18==7||L 18)=L 18 from xAs δ];exact⟨g',k1,k2,ha.keep k3 (xT4 (q2 h7) k3 δ)⟩
theorem SeJ.joined (h:SeJ w1 T ws ld ls L α W) (hb:ψ W W'):SeJ w1 T ws ld ls (λj=>j==8||L j) α W':=by
 have h2:=h.below hb;refine⟨h2.b,λe=>?_,λe e2=>by simp at e2,λe=>?_,λe=>?_⟩
 ·rw[show(7==8||L 7)=L 7 from xAs δ];exact h2.s (by simpa using e)
 ·rw[show(17==8||L 17)=L 17 from xAs δ];exact h2.d (by simpa using e)
 ·rw[show(18==8||L 18)=L 18 from xAs δ];exact h2.t (by simpa using e)
theorem SeJ.newd (h:SeJ w1 T ws ld ls L α W) (hs:L 17=false):SeJ w1 T ws ld ls (λj=>j==15||L j) (RG.xGf α 15 (.pointer (some ⟨W.heap.size,0,none⟩))) (W.alloc (.cells dsZ.toArray 25)):=by
 have h2:=h.below (φ W (.cells dsZ.toArray 25));refine⟨h2.b,λe=>?_,λe e2=>?_,λ_=>⟨_,RG.wP _ _ _,h.b.size,?_⟩,λe=>?_⟩
 ·rw[RG.yY _ _ _ δ,show(7==15||L 7)=L 7 from xAs δ];exact h2.s (by simpa using e)
 ·rw[RG.yY _ _ _ δ];exact h2.p (by simpa using e) (by simpa using e2)
 ·rw[show(17==15||L 17)=L 17 from xAs δ,hs,if_neg σ];exact xI _ _
 ·rw[RG.yY _ _ _ δ,show(18==15||L 18)=L 18 from xAs δ];exact h2.t (by simpa using e)
theorem SeJ.newt (h:SeJ w1 T ws ld ls L α W) (hs:L 18=false):SeJ w1 T ws ld ls (λj=>j==16||L j) (RG.xGf α 16 (.pointer (some ⟨W.heap.size,0,none⟩))) (W.alloc (.cells stZ.toArray 32)):=by
 have h2:=h.below (φ W (.cells stZ.toArray 32));refine⟨h2.b,λe=>?_,λe e2=>?_,λe=>?_,λ_=>⟨_,RG.wP _ _ _,h.b.size,?_⟩⟩
 ·rw[RG.yY _ _ _ δ,show(7==16||L 7)=L 7 from xAs δ];exact h2.s (by simpa using e)
 ·rw[RG.yY _ _ _ δ];exact h2.p (by simpa using e) (by simpa using e2)
 ·rw[RG.yY _ _ _ δ,show(17==16||L 17)=L 17 from xAs δ];exact h2.d (by simpa using e)
 ·rw[show(18==16||L 18)=L 18 from xAs δ,hs,if_neg σ];exact xI _ _
theorem SeJ.setd (h:SeJ w1 T ws ld ls L α W) (h0:L 17=false) (h15:L 15=true) (h7:L 7=true) (h8:L 8=true) (hld:ld.length=2):∃g,α 15=.pointer (some ⟨g,0,none⟩)/\W.heap[g]?=some (.cells dsZ.toArray 25 (0,0))/\SeJ w1 T ws ld ls (λj=>j==17||L j) α (yX g 0 ld W):=by
 obtain⟨g,q1,q2,q3⟩:=h.d h15;rw[h0,if_neg σ] at q3;have hs:=uU (b:=g) (l:=ld) q3 (by rw[hld];rfl);refine⟨g,q1,q3,zU q2 _ 0 _ h.b,λe=>?_,λe e2=>?_,λe=>⟨g,q1,q2,?_⟩,λe=>?_⟩
 ·obtain⟨g5,k1,_⟩:=h.s (by simpa using e);exact⟨g5,k1,λe=>absurd (show L 7=false by simpa using e) (by rw[h7];simp)⟩
 ·exact absurd (show L 8=false by simpa using e2) (by rw[h8];simp)
 ·rw[show(17==17||L 17)=true from by simp,if_pos rfl];exact hs
 ·obtain⟨g',k1,k2,k3⟩:=h.t (by simpa using e);rw[show(18==17||L 18)=L 18 from xAs δ];exact⟨g',k1,k2,uI (λe2=>by rw[e2,q3] at k3;injection k3 with k3;injection k3 with _ k3 _;exact absurd k3 δ) _ 0 _ k3⟩
theorem SeJ.sett (h:SeJ w1 T ws ld ls L α W) (h0:L 18=false) (h16:L 16=true) (h7:L 7=true) (h8:L 8=true) (hls:ls.length=10):∃g,α 16=.pointer (some ⟨g,0,none⟩)/\W.heap[g]?=some (.cells stZ.toArray 32 (0,0))/\SeJ w1 T ws ld ls (λj=>j==18||L j) α (yX g 0 ls W):=by
 obtain⟨g,q1,q2,q3⟩:=h.t h16;rw[h0,if_neg σ] at q3;have hs:=uU (b:=g) (l:=ls) q3 (by rw[hls];rfl);refine⟨g,q1,q3,zU q2 _ 0 _ h.b,λe=>?_,λe e2=>?_,λe=>?_,λe=>⟨g,q1,q2,?_⟩⟩
 ·obtain⟨g5,k1,_⟩:=h.s (by simpa using e);exact⟨g5,k1,λe=>absurd (show L 7=false by simpa using e) (by rw[h7];simp)⟩
 ·exact absurd (show L 8=false by simpa using e2) (by rw[h8];simp)
 ·obtain⟨g',k1,k2,k3⟩:=h.d (by simpa using e);rw[show(17==18||L 17)=L 17 from xAs δ];exact⟨g',k1,k2,uI (λe2=>by rw[e2,q3] at k3;injection k3 with k3;injection k3 with _ k3 _;exact absurd k3 δ) _ 0 _ k3⟩
 ·rw[show(18==18||L 18)=true from by simp,if_pos rfl];exact hs
end
end Go.Proofs.IM
namespace Go.Proofs.VB
open Go.RowKit Mailsack MM BU
theorem xLq (n:Nat) (w:World) (hn:n<=4294967295):
  Calls prog 33 #[.int .i64 n] w λe w'=>e=.returned (xK (Lib.decDigits n))/\ψ w w':=by
 have hcv:=λW=>xDv W n;have hd:=ι (xDu n);have hlen:(Lib.decDigits n).length<=21:=by have:=Lib.itoa_length_le n ω ω;rwa [Lib.itoa_nonneg] at this
 generalize Lib.decDigits n=R at hd hlen;have h0:Hid (R=xBy n++[xIr n]):=hd;clear hd;go_enter func33,ntmps33;go_wp2;clear hcv
 go_loopw [0,3] (λiv sv wr=>∃(m:Nat) (l:Bs),m<=n/\iv=.int .i64 m/\sv=xK l/\Hid (R=xBy m++l)/\Hid (ψ w wr)) (λiv _ _=>(intOf iv).toNat)
 case atStart=>exact⟨n,[xIr n],Nat.le_refl _,rfl,rfl,h0,ι ((Below.refl _ _).alloc ν _)⟩
 case round=>
  obtain⟨m,l,hm,rfl,rfl,hR,hb⟩:=hrel
  by_cases h9:9<m
  ·have hcv:=λW=>xDv W (m / 10);have hl:l.length<=21:=by have:=congrArg List.length hR.o;rw[List.length_append] at this;omega
   have hl2:(⟨l.toArray⟩:ByteArray).size<=21:=hl
   have hR2:Hid (R=xBy (m / 10)++(xIr (m / 10)::l)):=ι (by
    rw[hR.o];conv=>lhs;unfold xBy;rw[if_neg ω,xDu (m / 10)];simp)
   rw[show((m / 10:Nat):Int)=(m:Int) / 10 by omega] at hcv;have big:¬9223372036854775807<1+(⟨l.toArray⟩:ByteArray).size:=ω;clear hl;go_wp2
   go_roundw
   case rel=>exact⟨m / 10,xIr (m / 10)::l,ω,by go_num,by rw[show(⟨#[xIr (m / 10)]⟩:ByteArray)=⟨([xIr (m / 10)]:Bs).toArray⟩ from rfl,xKf];rfl,hR2,ι (hb.o.alloc hb.o.size _)⟩
   case measure=>simp[intOf];omega
  ·have hz:xBy m=[]:=by unfold xBy;rw[if_pos ω]
   have hR2:=hR.o;rw[hz,List.nil_append] at hR2;have HR2:=ι hR2;clear hR2 hz;go_wp2;go_ret;refine⟨?_,hb.o⟩;rw[HR2.o]
   rfl
end Go.Proofs.VB
namespace Mailsack
def xK4 (u:ByteArray) (bx:ByteArray) (x:zO):Bool:=!(u.toList==[])&&!(bx.toList==[])&&decide (0<=rV x bx.data.toList)
def xQ9 (u:ByteArray) (bx:ByteArray) (x:zO):wN:=if xK4 u bx x=true then xWb x bx.data.toList else xKy
end Mailsack
namespace Go.Proofs.IM
open Go.RowKit MM BU Mailsack SV RK DS IX BK
theorem yB4 (n:Int) (w:World) (h0:0<=n) (h1:n<=4294967295):
  Calls prog 17 #[.int .i64 n] w λe w'=>e=.returned (xK (Lib.itoa n))/\ψ w w':=by
 obtain⟨k,rfl⟩:∃k:Nat,n=(k:Int):=⟨n.toNat,ω⟩;rw[Lib.itoa_nonneg];have HD:=ι (VB.xLq k w ω);clear h0 h1;go_enter func17,ntmps17;go_wp2_with fail
 refine HD.o.mono ?_;rintro e w1 ⟨rfl,hb⟩;have HB:=ι hb;clear hb;go_wp2;go_ret;exact⟨rfl,HB.o⟩
theorem by_any (ub:Bool) (w:World):
  Calls prog 11 #[.bool ub] w λe w'=>e=.returned (.string (if ub=true then⟨#[85,73,68,32]⟩ else⟨#[]⟩))/\w'=w:=by
 cases ub
 all_goals
  go_enter func11,ntmps11;go_wp2;go_ret;exact⟨rfl,rfl⟩
theorem xY7 (a b c bx:ByteArray) (ep:Int) (bv sv:Value) (x:zO) (o1 o2:Bool) (w:World) (hx:xIn w w.heap.size bv sv x) (hl:x.boxes.length<=9223372036854775807):
  Calls prog 5 #[.agg #[.string a,.string b,.string c,.int .i64 ep,bv,sv,.int .i64 x.given,.string bx,.bool o1,.bool o2]] w λe w'=>∃mv,e=.returned (.tuple #[bxT (xQ9 a bx x) mv,.bool (xK4 a bx x)])/\uN w' w'.heap.size mv (xQ9 a bx x).xU/\ψ w w':=by
 have hsv:xK bx.data.toList=.string bx:=by simp[xK]
 have HF:Hid (∀W,ψ w W->Calls prog 22 #[.agg #[bv,sv,.int .i64 x.given],.string bx] W λe w'=>e=.returned (.int .i64 (rV x bx.data.toList))/\ψ W w'):=ι (λW hb=>by
  rw[<-hsv];exact xDr bv sv x bx.data.toList W ((hx.below hb ν).more hb.size) hl)
 have HX:=ι hx;obtain⟨Ab,cb,rfl,hcb,hcs⟩:=hx.boxes;obtain⟨As,cs,rfl,hcs2,_⟩:=hx.subs;have HCS:=ι hcs;have HLT:=ι (xOa x bx.data.toList);obtain⟨r1,hr1⟩:∃r,(a.toList==[])=r:=⟨_,rfl⟩;obtain⟨r2,hr2⟩:∃r,(bx.toList==[])=r:=⟨_,rfl⟩
 have HP:Hid (xK4 a bx x=(!r1&&!r2&&decide (0<=rV x bx.data.toList))):=ι (by unfold xK4;rw[hr1,hr2]);have HBO:Hid (xQ9 a bx x=if xK4 a bx x=true then(if 0<=rV x bx.data.toList then x.boxes.getD (rV x bx.data.toList).toNat xKy else xKy) else xKy):=ι rfl
 obtain⟨nb,hnb⟩:∃n,x.boxes.length=n:=⟨_,rfl⟩;have HNB:=ι hnb;rw[hnb] at HF;generalize xQ9 a bx x=bo at HBO⊢;generalize xK4 a bx x=hp at HBO HP⊢;generalize rV x bx.data.toList=fi at HF HLT HBO HP;have hl2:nb<=9223372036854775807:=ω
 have hba:=φ w (.cells #[.string a,.string b,.string c,.int .i64 ep,.slice Ab nb cb,.slice As x.subs.length cs,.int .i64 x.given,.string bx,.bool o1,.bool o2] 32)
 have H0:=ι (And.intro (hba.alloc hba.size (.cells #[.string ⟨#[]⟩,.int .i64 0,.int .i64 0,.slice none 0 0] 39)) (And.intro (xM (xI w (.cells #[.string a,.string b,.string c,.int .i64 ep,.slice Ab nb cb,.slice As x.subs.length cs,.int .i64 x.given,.string bx,.bool o1,.bool o2] 32)) (.cells #[.string ⟨#[]⟩,.int .i64 0,.int .i64 0,.slice none 0 0] 39)) (xI (w.alloc (.cells #[.string a,.string b,.string c,.int .i64 ep,.slice Ab nb cb,.slice As x.subs.length cs,.int .i64 x.given,.string bx,.bool o1,.bool o2] 32)) (.cells #[.string ⟨#[]⟩,.int .i64 0,.int .i64 0,.slice none 0 0] 39))))
 rw[uQ] at H0;rw[hnb];clear hx hl hcb hcs hcs2 hnb hba hsv;go_enter func5,ntmps5;go_upto_region 1 with fail
 obtain⟨w1,hw1⟩:∃w1,(w.alloc (.cells #[.string a,.string b,.string c,.int .i64 ep,.slice Ab nb cb,.slice As x.subs.length cs,.int .i64 x.given,.string bx,.bool o1,.bool o2] 32)).alloc (.cells #[.string ⟨#[]⟩,.int .i64 0,.int .i64 0,.slice none 0 0] 39)=w1:=⟨_,rfl⟩;rw[hw1] at H0⊢
 clear hw1;have s:=H0.o.2.1;obtain⟨s0,s1,s2,s3,s4,s5,s6,s7,s8,s9⟩:=pX s;clear s;go_wp2_with fail
 refine(HF.o _ H0.o.1).mono ?_;rintro e w2 ⟨rfl,hb2⟩;have H2:=ι (And.intro (H0.o.1.trans (hb2.mono H0.o.1.size)) (And.intro (xC H0.o.2.1 hb2 (xJ H0.o.2.1)) (xC H0.o.2.2 hb2 (xJ H0.o.2.2))));clear H0 HF hb2 s0 s1 s2 s3 s4 s5 s6 s7 s8 s9;have s:=H2.o.2.1
 obtain⟨s0,s1,s2,s3,s4,s5,s6,s7,s8,s9⟩:=pX s;clear s
 by_cases hf:fi<0
 ·cases r1<;>cases r2
  all_goals
   have HD:Hid (hp=false):=ι (by rw[HP.o];first|(simp;done)|(simp;omega));have HB0:Hid (bo=xKy):=ι (by rw[HBO.o,HD.o];rfl);have hz:=H2.o.2.2;have hbb:=H2.o.1
   obtain⟨o0,y0,f0,o1,y1,f1,o2,y2,f2,o3,y3,f3,HB⟩:=cpl4 hz hbb ω (.string ⟨#[]⟩) (.int .i64 0) (.int .i64 0) (.slice none 0 0) _ rfl;clear hz hbb H2 HBO HLT HCS HX;go_wp2
   refine bodyPost_ret (v:=.tuple #[.agg #[.string ⟨#[]⟩,.int .i64 0,.int .i64 0,.slice none 0 0],.bool false]) (by simp[results,results5,go_sem,f0,f1,f2,f3]) rfl ?_;rw[HB0.o,HD.o];exact⟨_,rfl,⟨none,0,rfl,Nat.le_refl _,λh=>absurd h δ⟩,HB.o⟩
 ·cases r1 with
  |true=>
   have HD:Hid (hp=false):=ι (by rw[HP.o];first|(simp;done)|(simp;omega));have HB0:Hid (bo=xKy):=ι (by rw[HBO.o,HD.o];rfl);have hz:=H2.o.2.2;have hbb:=H2.o.1
   obtain⟨o0,y0,f0,o1,y1,f1,o2,y2,f2,o3,y3,f3,HB⟩:=cpl4 hz hbb ω (.string ⟨#[]⟩) (.int .i64 0) (.int .i64 0) (.slice none 0 0) _ rfl;clear hz hbb H2 HBO HLT HCS HX;go_wp2
   refine bodyPost_ret (v:=.tuple #[.agg #[.string ⟨#[]⟩,.int .i64 0,.int .i64 0,.slice none 0 0],.bool false]) (by simp[results,results5,go_sem,f0,f1,f2,f3]) rfl ?_;rw[HB0.o,HD.o];exact⟨_,rfl,⟨none,0,rfl,Nat.le_refl _,λh=>absurd h δ⟩,HB.o⟩
  |false=>
   cases r2 with
   |true=>
    have HD:Hid (hp=false):=ι (by rw[HP.o];first|(simp;done)|(simp;omega));have HB0:Hid (bo=xKy):=ι (by rw[HBO.o,HD.o];rfl);have hz:=H2.o.2.2;have hbb:=H2.o.1
    obtain⟨o0,y0,f0,o1,y1,f1,o2,y2,f2,o3,y3,f3,HB⟩:=cpl4 hz hbb ω (.string ⟨#[]⟩) (.int .i64 0) (.int .i64 0) (.slice none 0 0) _ rfl;clear hz hbb H2 HBO HLT HCS HX;go_wp2
    refine bodyPost_ret (v:=.tuple #[.agg #[.string ⟨#[]⟩,.int .i64 0,.int .i64 0,.slice none 0 0],.bool false]) (by simp[results,results5,go_sem,f0,f1,f2,f3]) rfl ?_;rw[HB0.o,HD.o];exact⟨_,rfl,⟨none,0,rfl,Nat.le_refl _,λh=>absurd h δ⟩,HB.o⟩
   |false=>
    have HD:Hid (hp=true):=ι (by rw[HP.o];simp;omega);obtain⟨k,hk⟩:∃k:Nat,fi=(k:Int):=⟨fi.toNat,ω⟩;subst hk;have hkn:k<nb:=by have:=HLT.o;rw[HNB.o] at this;omega
    obtain⟨y,hy⟩:∃y,x.boxes[k]?=some y:=⟨_,List.getElem?_eq_getElem (by rw[HNB.o];exact hkn)⟩;have HB0:Hid (bo=y):=ι (by rw[HBO.o,HD.o,if_pos rfl,if_pos ω,List.getD_eq_getElem?_getD,show((k:Int)).toNat=k from rfl,hy];rfl)
    obtain⟨bb,off,rfl,hbb,hcell⟩:=HCS.o (by rw[HNB.o];omega);obtain⟨mv,c0,c1,c2,c3,hm⟩:=hcell k y hy;obtain⟨Am,cm,rfl,_,_⟩:=id hm;have q0:=(H2.o.1.cell (p:=⟨bb,off+k*4,none⟩) hbb).trans c0;have q1:=(H2.o.1.cell (p:=⟨bb,off+k*4+1,none⟩) hbb).trans c1
    have q2:=(H2.o.1.cell (p:=⟨bb,off+k*4+2,none⟩) hbb).trans c2;have q3:=(H2.o.1.cell (p:=⟨bb,off+k*4+3,none⟩) hbb).trans c3;have HM:=ι hm;have hz:=H2.o.2.2;have hbe:=H2.o.1
    obtain⟨o0,y0,f0,o1,y1,f1,o2,y2,f2,o3,y3,f3,HB⟩:=cpl4 hz hbe ω (xK y.name) (.int .i64 y.validity) (.int .i64 y.next) (.slice Am y.xU.length cm) _ rfl;clear hz hbe H2 HBO HLT HX HCS hcell c0 c1 c2 c3 hm hy;go_wp2
    refine bodyPost_ret (v:=.tuple #[.agg #[xK y.name,.int .i64 y.validity,.int .i64 y.next,.slice Am y.xU.length cm],.bool true]) (by simp[results,results5,go_sem,f0,f1,f2,f3]) rfl ?_;rw[HB0.o,HD.o];exact⟨_,rfl,(HM.o.below HB.o ν).more HB.o.size,HB.o⟩
end Go.Proofs.IM
namespace Mailsack
def xM6 (C:List Wr) (i:Nat):Nat->Option Bs
 |0=>none
 |m+1=>if (C.getD m ⟨0,[]⟩).at_=(i:Int) then some (C.getD m ⟨0,[]⟩).data else xM6 C i m
def xHt (d:Dk) (i:Nat):Bs:=match xM6 d.cache i d.cache.length with
 |some x=>x
 |none=>d.secs.getD i []
end Mailsack
namespace Go.Proofs.VA
open Go.RowKit Mailsack MM BB SH SV RK DS IX Go.Proofs.ST
theorem xXa (va vb:Value) (d:Dk) (i:Nat) (w:World) (h:RdD w w.heap.size va vb d) (hr:zM d=true) (hi:i<d.secs.length):
  Calls prog 28 #[.agg #[va,vb],.int .i64 i] w λe w'=>e=.returned (.tuple #[xK (xHt d i),.int .i64 0])/\ψ w w':=by
 obtain⟨A1,c1,A2,c2,rfl,rfl⟩:=vY h;have HR:=ι (λW (hb:ψ w W)=>qA (.slice A1 d.secs.length c1) (.slice A2 d.cache.length c2) d W ((h.below hb ν).more hb.size));rw[hr] at HR
 have HD:Hid (∀W,ψ w W->RdD W w.heap.size (.slice A1 d.secs.length c1) (.slice A2 d.cache.length c2) d):=ι (λW hb=>h.below hb ν);have HE:Hid (∀x,xM6 d.cache i d.cache.length=x->xHt d i=match x with|some x=>x|none=>d.secs.getD i []):=ι (λx e=>by rw[<-e];rfl)
 generalize xHt d i=rp at HE⊢;have hi1:¬(d.secs.length<=i):=ω;have hi2:¬((d.secs.length:Int)<=(i:Int)):=ω;have hi3:¬((i:Int)<0):=ω;clear h hr;go_enter func28,ntmps28;go_upto_region 1 with fail
 have H1:=ι (And.intro (xI w (yQ (.slice A1 d.secs.length c1) (.slice A2 d.cache.length c2))) (φ w (yQ (.slice A1 d.secs.length c1) (.slice A2 d.cache.length c2))));obtain⟨w1,hw1⟩:∃w1,w.alloc (yQ (.slice A1 d.secs.length c1) (.slice A2 d.cache.length c2))=w1:=⟨_,rfl⟩
 rw[hw1] at H1;rw[hw1];clear hw1;have hb:=H1.o.1;obtain⟨e0,e1⟩:=xFa hb;clear hb;go_wp2_with fail
 refine(HR.o _ H1.o.2).mono ?_;rintro e w2 ⟨rfl,hb2⟩;have H2:=ι (And.intro (xC H1.o.1 hb2 (xJ H1.o.1)) (H1.o.2.trans (hb2.mono H1.o.2.size)));clear H1 HR hb2 e0 e1;have hb:=H2.o.1;obtain⟨e0,e1⟩:=xFa hb;clear hb;have hlc:d.cache.length<=1000000:=(HD.o _ H2.o.2).lc;go_wp2_with fail
 clear e0 e1
 go_loopw [6] (λiv wr=>∃m:Nat,m<=d.cache.length/\iv=.int .i64 ((m:Int)-1)/\Hid (xM6 d.cache i d.cache.length=xM6 d.cache i m/\wr.heap[w.heap.size]?=some (yQ (.slice A1 d.secs.length c1) (.slice A2 d.cache.length c2))/\ψ w wr)) (λiv _=>(intOf iv+1).toNat)
 case atStart=>exact⟨_,Nat.le_refl _,rfl,ι ⟨rfl,H2.o.1,H2.o.2⟩⟩
 case round=>
  obtain⟨m,hm,rfl,HI⟩:=hrel;rcases m with _|k
  ·rw[show(((0:Nat):Int)-1)=-1 from rfl];have HE2:=ι (HE.o _ HI.o.1);simp only[xM6] at HE2
   obtain⟨b,off,rfl,hbw,hcs⟩:∃b off,A1=some ⟨b,off,none⟩/\b<w.heap.size/\wr.cell? ⟨b,off+i,none⟩=some (xK (d.secs.getD i [])):=by
    obtain⟨A,c,e1,_,h3⟩:=(HD.o _ HI.o.2.2).s;obtain⟨b,off,h4,h5,h6⟩:=h3 ω;injection e1 with e1 _ e3;subst e1 e3;exact⟨b,off,h4,h5,by rw[List.getD_eq_getElem?_getD,List.getElem?_eq_getElem hi];exact h6 i _ (List.getElem?_eq_getElem hi)⟩
   have hb:=HI.o.2.1;obtain⟨e0,e1⟩:=xFa hb;have HB:=ι HI.o.2.2;clear hb HI;rw[<-HE2.o] at hcs;go_wp2;go_ret2;exact⟨rfl,HB.o⟩
  ·rw[show(((k+1:Nat):Int)-1)=(k:Int) by omega];have hx:d.cache[k]?=some d.cache[k]:=List.getElem?_eq_getElem ω;have HI3:=HI.o.1;simp only[xM6] at HI3;rw[show d.cache.getD k ⟨0,[]⟩=d.cache[k] by rw[List.getD_eq_getElem?_getD,hx];rfl] at HI3;generalize d.cache[k]=x at hx HI3
   obtain⟨b,off,rfl,hbw,hc1,hc2⟩:∃b off,A2=some ⟨b,off,none⟩/\b<w.heap.size/\wr.cell? ⟨b,off+k*2,none⟩=some (.int .i64 x.at_)/\wr.cell? ⟨b,off+k*2+1,none⟩=some (xK x.data):=by
    obtain⟨A,c,e1,_,h3⟩:=(HD.o _ HI.o.2.2).c;obtain⟨b,off,h4,h5,h6⟩:=h3 ω;injection e1 with e1 _ e3;subst e1 e3;exact⟨b,off,h4,h5,(h6 k x hx).1,(h6 k x hx).2⟩
   have hb:=HI.o.2.1;obtain⟨e0,e1⟩:=xFa hb;have HB:=ι HI.o.2.2;have HBK:=ι HI.o.2.1;have hk1:k<d.cache.length:=ω;clear hb HI hx
   by_cases hxi:x.at_=(i:Int)
   ·rw[if_pos hxi] at HI3;have HE2:=ι (HE.o _ HI3);have hxe:(x.at_==(i:Int))=true:=by simpa using hxi
    have HXD:Hid (rp=x.data):=ι HE2.o;rw[<-HXD.o] at hc2;clear HE2 HXD HI3 hxi;go_wp2;go_ret2;exact⟨rfl,HB.o⟩
   ·rw[if_neg hxi] at HI3;have hxe:(x.at_==(i:Int))=false:=by simpa using hxi
    have HI4:=ι HI3;clear HI3;go_wp2;exact⟨⟨k,ω,rfl,ι ⟨HI4.o,HBK.o,HB.o⟩⟩,by simp only[intOf];omega⟩
def rdG (d:Dk) (i:Nat):Bs:=if zM d=true then xHt d i else[]
def rdE (d:Dk):Int:=if zM d=true then 0 else 1
theorem xJj (va vb:Value) (d:Dk) (i:Nat) (w:World) (h:RdD w w.heap.size va vb d) (hi:i<d.secs.length):
  Calls prog 28 #[.agg #[va,vb],.int .i64 i] w λe w'=>e=.returned (.tuple #[xK (rdG d i),.int .i64 (rdE d)])/\ψ w w':=by
 cases hr:zM d with
 |true=>
  have:=xXa va vb d i w h hr hi;unfold rdG rdE;rw[hr];exact this
 |false=>
  unfold rdG rdE;rw[hr];obtain⟨A1,c1,A2,c2,rfl,rfl⟩:=vY h;have HR:=ι (λW (hb:ψ w W)=>qA (.slice A1 d.secs.length c1) (.slice A2 d.cache.length c2) d W ((h.below hb ν).more hb.size));rw[hr] at HR;clear h hr;go_enter func28,ntmps28;go_upto_region 1 with fail
  have H1:=ι (And.intro (xI w (yQ (.slice A1 d.secs.length c1) (.slice A2 d.cache.length c2))) (φ w (yQ (.slice A1 d.secs.length c1) (.slice A2 d.cache.length c2))));obtain⟨w1,hw1⟩:∃w1,w.alloc (yQ (.slice A1 d.secs.length c1) (.slice A2 d.cache.length c2))=w1:=⟨_,rfl⟩
  rw[hw1] at H1;rw[hw1];clear hw1;have hb:=H1.o.1;obtain⟨e0,e1⟩:=xFa hb;clear hb;go_wp2_with fail
  refine(HR.o _ H1.o.2).mono ?_;rintro e w2 ⟨rfl,hb2⟩;have HB:=ι (H1.o.2.trans (hb2.mono H1.o.2.size));clear H1 HR hb2 e0 e1;go_wp2;go_ret2;exact⟨rfl,HB.o⟩
theorem xPf (va vb ua ub:Value) (d:Dk) (w:World) (h:RdD w w.heap.size va vb d) (h2:RdD w w.heap.size ua ub d):
  Calls prog 13 #[.agg #[va,vb],.agg #[ua,ub]] w λe w'=>e=.returned (.bool true)/\ψ w w':=by
 obtain⟨A1,c1,A2,c2,rfl,rfl⟩:=vY h;obtain⟨A3,c3,A4,c4,rfl,rfl⟩:=vY h2;have HR:=ι (λ(i:Nat) W (hb:ψ w W) (hi:i<d.secs.length)=>xJj (.slice A1 d.secs.length c1) (.slice A2 d.cache.length c2) d i W ((h.below hb ν).more hb.size) hi)
 have HS:=ι (λ(i:Nat) W (hb:ψ w W) (hi:i<d.secs.length)=>xJj (.slice A3 d.secs.length c3) (.slice A4 d.cache.length c4) d i W ((h2.below hb ν).more hb.size) hi);have hls:d.secs.length<=1000000:=h.ls
 have hb0:=(φ w (yQ (.slice A1 d.secs.length c1) (.slice A2 d.cache.length c2))).alloc σ (yQ (.slice A3 d.secs.length c3) (.slice A4 d.cache.length c4))
 have H1:Hid (((w.alloc (yQ (.slice A1 d.secs.length c1) (.slice A2 d.cache.length c2))).alloc (yQ (.slice A3 d.secs.length c3) (.slice A4 d.cache.length c4))).heap[w.heap.size]?=some (yQ (.slice A1 d.secs.length c1) (.slice A2 d.cache.length c2))/\((w.alloc (yQ (.slice A1 d.secs.length c1) (.slice A2 d.cache.length c2))).alloc (yQ (.slice A3 d.secs.length c3) (.slice A4 d.cache.length c4))).heap[w.heap.size+1]?=some (yQ (.slice A3 d.secs.length c3) (.slice A4 d.cache.length c4))/\ψ w ((w.alloc (yQ (.slice A1 d.secs.length c1) (.slice A2 d.cache.length c2))).alloc (yQ (.slice A3 d.secs.length c3) (.slice A4 d.cache.length c4)))):=ι ⟨zK _ _ _,zD _ _ _,hb0⟩
 clear h h2 hb0;go_enter func13,ntmps13;go_upto_region 1 with fail
 obtain⟨w1,hw1⟩:∃w1,(w.alloc (yQ (.slice A1 d.secs.length c1) (.slice A2 d.cache.length c2))).alloc (yQ (.slice A3 d.secs.length c3) (.slice A4 d.cache.length c4))=w1:=⟨_,rfl⟩;rw[hw1] at H1;rw[hw1];clear hw1;have hb:=H1.o.1;have hd:=H1.o.2.1;obtain⟨e0,e1⟩:=xFa hb
 obtain⟨o0,o1⟩:=xFa hd;clear hb hd;go_upto_region 3 with fail
 go_wp2_with fail
 clear e0 e1 o0 o1
 go_loopw [20] (λiv wr=>∃k:Nat,k<=d.secs.length/\iv=.int .i64 k/\Hid (wr.heap[w.heap.size]?=some (yQ (.slice A1 d.secs.length c1) (.slice A2 d.cache.length c2))/\wr.heap[w.heap.size+1]?=some (yQ (.slice A3 d.secs.length c3) (.slice A4 d.cache.length c4))/\ψ w wr)) (λiv _=>d.secs.length- (intOf iv).toNat)
 case atStart=>exact⟨0,Nat.zero_le _,rfl,H1⟩
 case round=>
  obtain⟨k,hk,rfl,HI⟩:=hrel
  by_cases hlt:k<d.secs.length
  ·have hb:=HI.o.1;obtain⟨e0,e1⟩:=xFa hb;clear hb;have hlt2:((k:Int)<(d.secs.length:Int)):=ω;go_wp2_with fail
   refine(HR.o k _ HI.o.2.2 hlt).mono ?_;rintro e w2 ⟨rfl,hb2⟩;have H2:=ι (And.intro (xC HI.o.1 hb2 (xJ HI.o.1)) (And.intro (xC HI.o.2.1 hb2 (xJ HI.o.2.1)) (HI.o.2.2.trans (hb2.mono HI.o.2.2.size))));clear HI hb2 e0 e1;have hb:=H2.o.2.1;obtain⟨e0,e1⟩:=xFa hb;clear hb
   go_wp2_with fail
   refine(HS.o k _ H2.o.2.2 hlt).mono ?_;rintro e w3 ⟨rfl,hb3⟩;have H3:=ι (And.intro (xC H2.o.1 hb3 (xJ H2.o.1)) (And.intro (xC H2.o.2.1 hb3 (xJ H2.o.2.1)) (H2.o.2.2.trans (hb3.mono H2.o.2.2.size))));clear H2 hb3 e0 e1;generalize rdG d k=rk;generalize rdE d=re;go_wp2
   exact⟨⟨k+1,ω,σ,H3⟩,by simp only[intOf];omega⟩
  ·have hlt2:¬((k:Int)<(d.secs.length:Int)):=ω;have HB:=ι HI.o.2.2;clear HI;go_wp2;go_ret;exact⟨rfl,HB.o⟩
end Go.Proofs.VA
namespace Go.Proofs.IX
open Go.RowKit Mailsack MM BU VB
theorem xUx (a b c bx:ByteArray) (ep:Int) (bv sv bv2 sv2:Value) (x:zO) (o1 o2:Bool) (w:World) (h:xIn w w.heap.size bv sv x) (h2:xIn w w.heap.size bv2 sv2 x) (hm:∀b∈x.boxes,b.xU.length<=9223372036854775807) (hl:x.boxes.length<=9223372036854775807) (hl2:x.subs.length<=9223372036854775807):
  Calls prog 14 #[.agg #[.string a,.string b,.string c,.int .i64 ep,bv,sv,.int .i64 x.given,.string bx,.bool o1,.bool o2],.agg #[.string a,.string b,.string c,.int .i64 ep,bv2,sv2,.int .i64 x.given,.string bx,.bool o1,.bool o2]] w λe w'=>e=.returned (.bool true)/\ψ w w':=by
 have HP:Hid (∀W,ψ w W->Calls prog 29 #[.agg #[bv,sv,.int .i64 x.given]] W λe w'=>e=.returned (.tuple #[xK (yAv x),.int .i64 (putE x)])/\ψ W w'):=
  ι (λW hb=>xSz bv sv x W ((h.below hb ν).more hb.size) hm hl hl2)
 have HP2:Hid (∀W,ψ w W->Calls prog 29 #[.agg #[bv2,sv2,.int .i64 x.given]] W λe w'=>e=.returned (.tuple #[xK (yAv x),.int .i64 (putE x)])/\ψ W w'):=
  ι (λW hb=>xSz bv2 sv2 x W ((h2.below hb ν).more hb.size) hm hl hl2)
 have hb1:bv.oneCell'=true:=by obtain⟨A,c,rfl,_⟩:=h.boxes;rfl
 have hb2:sv.oneCell'=true:=by obtain⟨A,c,rfl,_⟩:=h.subs;rfl
 have hb3:bv2.oneCell'=true:=by obtain⟨A,c,rfl,_⟩:=h2.boxes;rfl
 have hb4:sv2.oneCell'=true:=by obtain⟨A,c,rfl,_⟩:=h2.subs;rfl
 clear h h2 hm hl hl2;obtain⟨T,hT⟩:∃T:ByteArray,(⟨(yAv x).toArray⟩:ByteArray)=T:=⟨_,rfl⟩;rw[show xK (yAv x)=.string T by rw[<-hT]] at HP HP2;clear hT;generalize putE x=E at HP HP2
 have HW:=ι (kH (kH (Below.refl w.heap.size w) ν (.cells #[.string a,.string b,.string c,.int .i64 ep,bv,sv,.int .i64 x.given,.string bx,.bool o1,.bool o2] 32)) ν (.cells #[.string a,.string b,.string c,.int .i64 ep,bv2,sv2,.int .i64 x.given,.string bx,.bool o1,.bool o2] 32))
 have P1:=ι (zK w (.cells #[.string a,.string b,.string c,.int .i64 ep,bv,sv,.int .i64 x.given,.string bx,.bool o1,.bool o2] 32) (.cells #[.string a,.string b,.string c,.int .i64 ep,bv2,sv2,.int .i64 x.given,.string bx,.bool o1,.bool o2] 32))
 have P2:=ι (zD w (.cells #[.string a,.string b,.string c,.int .i64 ep,bv,sv,.int .i64 x.given,.string bx,.bool o1,.bool o2] 32) (.cells #[.string a,.string b,.string c,.int .i64 ep,bv2,sv2,.int .i64 x.given,.string bx,.bool o1,.bool o2] 32));go_enter func14,ntmps14
 go_wp2_with fail
 refine(HP.o _ HW.o).mono ?_;rintro e w2 ⟨rfl,hb⟩;have q1:=xC P1.o hb (by simp;omega);have q2:=xC P2.o hb σ;have HB2:=ι (HW.o.trans (hb.mono HW.o.size));have y4:w2.cell? ⟨w.heap.size+1,4,none⟩=some (bv2):=xA q2 4;have y5:w2.cell? ⟨w.heap.size+1,5,none⟩=some (sv2):=xA q2 5
 have y6:w2.cell? ⟨w.heap.size+1,6,none⟩=some (.int .i64 x.given):=xA q2 6;have Q1:=ι q1;have Q2:=ι q2;clear hb q1 q2;go_wp2_with fail
 refine(HP2.o _ HB2.o).mono ?_;rintro e w3 ⟨rfl,hb⟩;have hsz:=xJ Q2.o;have q1:=xC Q1.o hb ω;have q2:=xC Q2.o hb hsz;have HB3:=ι (HB2.o.trans (hb.mono HB2.o.size));have z0:w3.cell? ⟨w.heap.size,0,none⟩=some (.string a):=xA q1 0
 have z1:w3.cell? ⟨w.heap.size,1,none⟩=some (.string b):=xA q1 1;have z2:w3.cell? ⟨w.heap.size,2,none⟩=some (.string c):=xA q1 2;have z3:w3.cell? ⟨w.heap.size,3,none⟩=some (.int .i64 ep):=xA q1 3;have z7:w3.cell? ⟨w.heap.size,7,none⟩=some (.string bx):=xA q1 7
 have z8:w3.cell? ⟨w.heap.size,8,none⟩=some (.bool o1):=xA q1 8;have z9:w3.cell? ⟨w.heap.size,9,none⟩=some (.bool o2):=xA q1 9;have v0:w3.cell? ⟨w.heap.size+1,0,none⟩=some (.string a):=xA q2 0;have v1:w3.cell? ⟨w.heap.size+1,1,none⟩=some (.string b):=xA q2 1
 have v2:w3.cell? ⟨w.heap.size+1,2,none⟩=some (.string c):=xA q2 2;have v3:w3.cell? ⟨w.heap.size+1,3,none⟩=some (.int .i64 ep):=xA q2 3;have v7:w3.cell? ⟨w.heap.size+1,7,none⟩=some (.string bx):=xA q2 7;have v8:w3.cell? ⟨w.heap.size+1,8,none⟩=some (.bool o1):=xA q2 8
 have v9:w3.cell? ⟨w.heap.size+1,9,none⟩=some (.bool o2):=xA q2 9;clear hb q1 q2 y4 y5 y6;go_wp2_with fail
 go_ret;exact⟨rfl,HB3.o⟩
def SmC (n1 n2 k:Nat) (p:Prop) (e:Ending):Prop:=∃r,e=.returned (.bool r)/\(r=true->n1<=400/\n2<=100/\k<=100/\p)
theorem xLh (A1 A2:Option Addr) (n1 c1 n2 c2:Nat) (a b c bx f1 f2 f3 f4 f5:ByteArray) (ep rd:Int) (bv sv:Value) (x:zO) (o1 o2:Bool) (w:World) (h:xIn w w.heap.size bv sv x) (hm:∀b∈x.boxes,b.xU.length<=9223372036854775807) (hl:x.boxes.length<=9223372036854775807) (hl2:x.subs.length<=9223372036854775807):
  Calls prog 6 #[.agg #[.slice A1 n1 c1,.slice A2 n2 c2],.agg #[.string a,.string b,.string c,.int .i64 ep,bv,sv,.int .i64 x.given,.string bx,.bool o1,.bool o2],.agg #[.string f1,.string f2,.string f3,.string f4,.string f5,.int .i64 rd]] w λe w'=>SmC n1 n2 a.size ((a.toList==[])=false->uZ x=true) e/\ψ w w':=by
 have HP:Hid (∀W,ψ w W->Calls prog 23 #[.agg #[bv,sv,.int .i64 x.given]] W λe w'=>e=.returned (.bool (uZ x))/\ψ W w'):=
  ι (λW hb=>qA bv sv x W ((h.below hb ν).more hb.size) hm hl hl2)
 have hb1:bv.oneCell'=true:=by obtain⟨A,c,rfl,_⟩:=h.boxes;rfl
 have hb2:sv.oneCell'=true:=by obtain⟨A,c,rfl,_⟩:=h.subs;rfl
 clear h hm hl hl2;generalize hR:uZ x=R at HP⊢;have HRX:Hid (R=uZ x):=ι hR.symm;clear hR
 have HW:=ι (kH (kH (kH (kH (Below.refl w.heap.size w) ν (.cells #[.slice A1 n1 c1,.slice A2 n2 c2] 25)) ν (.cells #[.string a,.string b,.string c,.int .i64 ep,bv,sv,.int .i64 x.given,.string bx,.bool o1,.bool o2] 32)) ν (.cells #[.string f1,.string f2,.string f3,.string f4,.string f5,.int .i64 rd] 36)) ν (.cells #[.string f3,.string f4,.string f5,.int .i64 rd] 34))
 have P3:Hid (((((w.alloc (.cells #[.slice A1 n1 c1,.slice A2 n2 c2] 25)).alloc (.cells #[.string a,.string b,.string c,.int .i64 ep,bv,sv,.int .i64 x.given,.string bx,.bool o1,.bool o2] 32)).alloc (.cells #[.string f1,.string f2,.string f3,.string f4,.string f5,.int .i64 rd] 36)).alloc (.cells #[.string f3,.string f4,.string f5,.int .i64 rd] 34)).heap[w.heap.size+1+1]?=some (.cells #[.string f1,.string f2,.string f3,.string f4,.string f5,.int .i64 rd] 36)):=ι (by have:=xM (xI ((w.alloc (.cells #[.slice A1 n1 c1,.slice A2 n2 c2] 25)).alloc (.cells #[.string a,.string b,.string c,.int .i64 ep,bv,sv,.int .i64 x.given,.string bx,.bool o1,.bool o2] 32)) (.cells #[.string f1,.string f2,.string f3,.string f4,.string f5,.int .i64 rd] 36)) (.cells #[.string f3,.string f4,.string f5,.int .i64 rd] 34);simpa only[uQ] using this)
 have P4:Hid (((((w.alloc (.cells #[.slice A1 n1 c1,.slice A2 n2 c2] 25)).alloc (.cells #[.string a,.string b,.string c,.int .i64 ep,bv,sv,.int .i64 x.given,.string bx,.bool o1,.bool o2] 32)).alloc (.cells #[.string f1,.string f2,.string f3,.string f4,.string f5,.int .i64 rd] 36)).alloc (.cells #[.string f3,.string f4,.string f5,.int .i64 rd] 34)).heap[w.heap.size+1+1+1]?=some (.cells #[.string f3,.string f4,.string f5,.int .i64 rd] 34)):=ι (by have:=xI (((w.alloc (.cells #[.slice A1 n1 c1,.slice A2 n2 c2] 25)).alloc (.cells #[.string a,.string b,.string c,.int .i64 ep,bv,sv,.int .i64 x.given,.string bx,.bool o1,.bool o2] 32)).alloc (.cells #[.string f1,.string f2,.string f3,.string f4,.string f5,.int .i64 rd] 36)) (.cells #[.string f3,.string f4,.string f5,.int .i64 rd] 34);simpa only[uQ] using this)
 obtain⟨r0,hr0⟩:∃r0,(a.toList==[])=r0:=⟨_,rfl⟩;have HR0:=ι hr0;rw[hr0]
 by_cases hn1:(n1:Int)<=400
 case neg=>
  go_enter func6,ntmps6;go_upto_region 2 with fail
  refine RG.yD (λW=>W=_) rfl ?_
  iterate 70
   apply RG.xG
   ·rintro _ rfl
    first
     |(repeat go_step
       with_reducible exact RG.xB rfl
       done)
     |exact RG.rR (by rfl) rfl rfl
   ·rfl
  refine RG.xL (λw4 hb4=>?_);subst hb4;go_wp2;go_ret;refine⟨⟨_,rfl,?_⟩,HW.o⟩
  first|exact True.intro|(intro h;first|(simp at h;done)|exact⟨HN.o.1,HN.o.2,ω,σ⟩)
 by_cases hn2:(n2:Int)<=100
 case neg=>
  go_enter func6,ntmps6;go_upto_region 2 with fail
  refine RG.yD (λW=>W=_) rfl ?_
  iterate 70
   apply RG.xG
   ·rintro _ rfl
    first
     |(repeat go_step
       with_reducible exact RG.xB rfl
       done)
     |exact RG.rR (by rfl) rfl rfl
   ·rfl
  refine RG.xL (λw4 hb4=>?_);subst hb4;go_wp2;go_ret;refine⟨⟨_,rfl,?_⟩,HW.o⟩
  first|exact True.intro|(intro h;first|(simp at h;done)|exact⟨HN.o.1,HN.o.2,ω,σ⟩)
 have HN:Hid (n1<=400/\n2<=100):=ι ⟨ω,ω⟩;have hq:(¬(a.size:Int)<=100)∨((a.size:Int)<=100/\¬(b.size:Int)<=100)∨((a.size:Int)<=100/\(b.size:Int)<=100/\¬(c.size:Int)<=100)∨((a.size:Int)<=100/\(b.size:Int)<=100/\(c.size:Int)<=100):=ω
 have h1q:(¬(f1.size:Int)<=100)∨((f1.size:Int)<=100/\¬(f2.size:Int)<=100)∨((f1.size:Int)<=100/\(f2.size:Int)<=100):=ω;rcases hq with ha|⟨ha,hb⟩|⟨ha,hb,hc⟩|⟨ha,hb,hc⟩
 rotate_right
 ·cases r0 with
  |true=>
   rcases h1q with h1|⟨h1,h2⟩|⟨h1,h2⟩
   all_goals
    go_enter func6,ntmps6;go_upto_region 2 with fail
    refine RG.yD (λW=>W=_) rfl ?_
    iterate 70
     apply RG.xG
     ·rintro _ rfl
      first
       |(repeat go_step
         with_reducible exact RG.xB rfl
         done)
       |exact RG.rR (by rfl) rfl rfl
     ·rfl
    refine RG.xL (λw4 hb4=>?_);subst hb4;go_wp2;go_ret;refine⟨⟨_,rfl,?_⟩,HW.o⟩
    first|exact True.intro|(intro h;first|(simp at h;done)|exact⟨HN.o.1,HN.o.2,ω,σ⟩)
  |false=>
   cases R
   ·go_enter func6,ntmps6;go_upto_region 2 with fail
    repeat (first|go_big_skip|go_step)
    refine(HP.o _ HW.o).mono ?_;rintro e w2 ⟨rfl,hb⟩;have HB2:=ι (HW.o.trans (hb.mono HW.o.size));clear hb;repeat (first|go_big_skip|go_step)
    go_wp2;go_ret;refine⟨⟨_,rfl,?_⟩,HB2.o⟩
    first|exact True.intro|(intro h;first|(simp at h;done)|exact⟨HN.o.1,HN.o.2,ω,σ⟩)
   ·rcases h1q with h1|⟨h1,h2⟩|⟨h1,h2⟩
    all_goals
     go_enter func6,ntmps6;go_upto_region 2 with fail
     repeat (first|go_big_skip|go_step)
     refine(HP.o _ HW.o).mono ?_;rintro e w2 ⟨rfl,hb⟩;have p3:=xC P3.o hb σ;have p4:=xC P4.o hb σ;have y0:w2.cell? ⟨w.heap.size+1+1,0,none⟩=some (.string f1):=xA p3 0;have y1:w2.cell? ⟨w.heap.size+1+1,1,none⟩=some (.string f2):=xA p3 1
     have z0:w2.cell? ⟨w.heap.size+1+1+1,0,none⟩=some (.string f3):=xA p4 0;have z1:w2.cell? ⟨w.heap.size+1+1+1,1,none⟩=some (.string f4):=xA p4 1;have z2:w2.cell? ⟨w.heap.size+1+1+1,2,none⟩=some (.string f5):=xA p4 2;have HB2:=ι (HW.o.trans (hb.mono HW.o.size))
     clear hb p3 p4;repeat (first|go_big_skip|go_step)
     go_wp2;go_ret;refine⟨⟨_,rfl,?_⟩,HB2.o⟩
     first|exact True.intro|(intro h;first|(simp at h;done)|exact⟨HN.o.1,HN.o.2,ω,σ⟩)
 all_goals
  go_enter func6,ntmps6;go_upto_region 2 with fail
  refine RG.yD (λW=>W=_) rfl ?_
  iterate 70
   apply RG.xG
   ·rintro _ rfl
    first
     |(repeat go_step
       with_reducible exact RG.xB rfl
       done)
     |exact RG.rR (by rfl) rfl rfl
   ·rfl
  refine RG.xL (λw4 hb4=>?_);subst hb4;go_wp2;go_ret;refine⟨⟨_,rfl,?_⟩,HW.o⟩
  first|exact True.intro|(intro h;first|(simp at h;done)|exact⟨HN.o.1,HN.o.2,ω,σ⟩)
end Go.Proofs.IX
namespace Go.Proofs.IM
open Go.RowKit MM BU Mailsack SV
theorem lawz (K:List Value->Bs->World->Prop) (N1 N2:Prop) (line tag nm NM:Bs) (rest:List Tok) (nd:Int) (fid:FuncId) (mt:Bool) (w:World) (hK:∀vs l,Stb (K vs l)) (hl:line.length<=1000) (hT:qV [line] []=some ((0,tag)::(0,nm)::rest)) (htag:tag≠[42]) (hnm:upP nm=NM) (hid:NM≠[85,73,68]) (htl:tag.length<=1000000) (hnl:nm.length<=1000000)
  (hin:(NM,Value.agg #[.int .i64 nd,.func (.func fid) #[] #[]])∈uF) (huq:∀u,(NM,u)∈uF->u=Value.agg #[.int .i64 nd,.func (.func fid) #[] #[]]) (hE:∀args W,(callFunc fid args).run prog W=.ok (.enter fid args) W)
  (hme:∀b sl W,W.heap[b]?=some (.cells #[.slice none 0 0,.slice none 0 0,.string ⟨#[]⟩,.string ⟨#[]⟩,.string ⟨#[]⟩,.int .i64 0,.slice none 0 0,.slice none 0 0,.int .i64 0,.string ⟨#[]⟩,.bool false,.bool false,.string ⟨#[]⟩,.string ⟨#[]⟩,.string ⟨#[]⟩,.string ⟨#[]⟩,.string ⟨#[]⟩,.int .i64 0,sl,.bool false,.pointer none,.slice none 0 0] 129 (0,0))->Calls prog 52 #[xIs b,.int .i64 nd] W λe w'=>e=.returned (.bool mt)/\w'=W) (hmf:mt=false->N2)
  (hrun:mt=true->∀b sl W,Cmd b #[.slice none 0 0,.slice none 0 0,.string ⟨#[]⟩,.string ⟨#[]⟩,.string ⟨#[]⟩,.int .i64 0,.slice none 0 0,.slice none 0 0,.int .i64 0,.string ⟨#[]⟩,.bool false,.bool false,.string ⟨#[]⟩,.string ⟨#[]⟩,.string ⟨#[]⟩,.string ⟨#[]⟩,.string ⟨#[]⟩,.int .i64 0,sl,.bool false,.pointer none,.slice none 0 0] [] W->RK.RdR 2 tkF W W.heap.size sl rest->Calls prog fid #[xIs b] W (xVw K N1 N2 b (.string ⟨#[]⟩) (.string ⟨#[]⟩) (.string ⟨#[]⟩) (.string ⟨#[]⟩) (.string ⟨#[]⟩) (.int .i64 0) sl W)):
  Calls prog 9 #[.agg #[.slice none 0 0,.slice none 0 0],.agg #[.string ⟨#[]⟩,.string ⟨#[]⟩,.string ⟨#[]⟩,.int .i64 0,.slice none 0 0,.slice none 0 0,.int .i64 0,.string ⟨#[]⟩,.bool false,.bool false],xK line,.agg #[.string ⟨#[]⟩,.string ⟨#[]⟩,.string ⟨#[]⟩,.string ⟨#[]⟩,.string ⟨#[]⟩,.int .i64 0]] w (rD K N1 N2 (.slice none 0 0) (.slice none 0 0) (.string ⟨#[]⟩) (.string ⟨#[]⟩) (.string ⟨#[]⟩) (.int .i64 0) (.slice none 0 0) (.slice none 0 0) (.int .i64 0) (.string ⟨#[]⟩) (.bool false) (.bool false) tag w):=
 xJw K N1 N2 (.slice none 0 0) (.slice none 0 0) (.string ⟨#[]⟩) (.string ⟨#[]⟩) (.string ⟨#[]⟩) (.int .i64 0) (.slice none 0 0) (.slice none 0 0) (.int .i64 0) (.string ⟨#[]⟩) (.bool false) (.bool false) (.string ⟨#[]⟩) (.string ⟨#[]⟩) (.string ⟨#[]⟩) (.string ⟨#[]⟩) (.string ⟨#[]⟩) (.int .i64 0) tag line w hK δ (λW xv hb hx=>do_run K N1 N2 (.slice none 0 0) (.slice none 0 0) (.string ⟨#[]⟩) (.string ⟨#[]⟩) (.string ⟨#[]⟩) (.int .i64 0) (.slice none 0 0) (.slice none 0 0) (.int .i64 0) (.string ⟨#[]⟩) (.bool false) (.bool false) (.string ⟨#[]⟩) (.string ⟨#[]⟩) (.string ⟨#[]⟩) (.string ⟨#[]⟩) (.string ⟨#[]⟩) (.int .i64 0) xv (.slice none 0 0) [line] [] tag nm NM rest nd fid mt W hK hx (VB.xNb W _) (λx hx=>by rw[List.mem_singleton.1 hx];omega) σ σ δ hT htag hnm hid htl hnl hin huq hE hme hmf (λhm b sl W2 _ _ hc ha=>hrun hm b sl W2 hc ha))
theorem stbP {P:Prop}:Stb (λ_=>P):=⟨λh _=>h,λ_ h _ _=>h⟩
theorem yBe (w:World):Calls prog 9 #[.agg #[.slice none 0 0,.slice none 0 0],.agg #[.string ⟨#[]⟩,.string ⟨#[]⟩,.string ⟨#[]⟩,.int .i64 0,.slice none 0 0,.slice none 0 0,.int .i64 0,.string ⟨#[]⟩,.bool false,.bool false],.string ⟨#[97,32,99,97,112,97,98,105,108,105,116,121]⟩,.agg #[.string ⟨#[]⟩,.string ⟨#[]⟩,.string ⟨#[]⟩,.string ⟨#[]⟩,.string ⟨#[]⟩,.int .i64 0]] w λe w'=>
   e=.returned (.tuple #[.agg #[.slice none 0 0,.slice none 0 0],.agg #[.string ⟨#[]⟩,.string ⟨#[]⟩,.string ⟨#[]⟩,.int .i64 0,.slice none 0 0,.slice none 0 0,.int .i64 0,.string ⟨#[]⟩,.bool false,.bool false],.string ⟨#[42,32,67,65,80,65,66,73,76,73,84,89,32,73,77,65,80,52,114,101,118,49,13,10,97,32,79,75,13,10]⟩])/\ψ w w':=by
 refine(lawz (λvs l _=>vs=[.slice none 0 0,.slice none 0 0,.string ⟨#[]⟩,.string ⟨#[]⟩,.string ⟨#[]⟩,.int .i64 0,.slice none 0 0,.slice none 0 0,.int .i64 0,.string ⟨#[]⟩,.bool false,.bool false]/\l=[42,32]++wCap++[13,10]) False False [97,32,99,97,112,97,98,105,108,105,116,121] [97] [99,97,112,97,98,105,108,105,116,121] [67,65,80,65,66,73,76,73,84,89] [] 0 107 true w (λ_ _=>stbP) δ δ δ δ δ δ δ
  (List.mem_of_getElem? (i:=0) rfl) (λv hv=>by simpa[uF] using hv) (λargs W=>enters_of func107 κ rfl args W) (λb sl W h=>xGm b W) (λh=>by cases h) (λ_ b sl W hc ha=>by
   obtain⟨A,c,rfl,_⟩:=ha;refine(xFx b _ A c W hc rfl).mono ?_;rintro e w' ⟨rfl,v,hc2,hb2⟩;exact .inl ⟨_,_,_,_,_,_,_,_,_,_,_,_,_,_,_,rfl,hc2,⟨rfl,rfl⟩,δ,δ,hb2⟩)).mono ?_
 rintro e w' ⟨hb,h⟩;rcases h with ⟨v0,v1,v2,v3,v4,v5,v6,v7,v8,v9,v10,v11,l,rfl,⟨hv,hl⟩,_⟩|⟨_,h⟩|⟨_,h⟩
 ·simp only[List.cons.injEq] at hv;obtain⟨rfl,rfl,rfl,rfl,rfl,rfl,rfl,rfl,rfl,rfl,rfl,rfl,_⟩:=hv;subst hl;exact⟨rfl,hb⟩
 ·exact h.elim
 ·exact h.elim
theorem yBd (w:World):Calls prog 9 #[.agg #[.slice none 0 0,.slice none 0 0],.agg #[.string ⟨#[]⟩,.string ⟨#[]⟩,.string ⟨#[]⟩,.int .i64 0,.slice none 0 0,.slice none 0 0,.int .i64 0,.string ⟨#[]⟩,.bool false,.bool false],.string ⟨#[98,32,76,79,71,79,85,84]⟩,.agg #[.string ⟨#[]⟩,.string ⟨#[]⟩,.string ⟨#[]⟩,.string ⟨#[]⟩,.string ⟨#[]⟩,.int .i64 0]] w λe w'=>
   e=.returned (.tuple #[.agg #[.slice none 0 0,.slice none 0 0],.agg #[.string ⟨#[]⟩,.string ⟨#[]⟩,.string ⟨#[]⟩,.int .i64 0,.slice none 0 0,.slice none 0 0,.int .i64 0,.string ⟨#[]⟩,.bool false,.bool true],.string ⟨#[42,32,66,89,69,13,10,98,32,79,75,13,10]⟩])/\ψ w w':=by
 refine(lawz (λvs l _=>vs=[.slice none 0 0,.slice none 0 0,.string ⟨#[]⟩,.string ⟨#[]⟩,.string ⟨#[]⟩,.int .i64 0,.slice none 0 0,.slice none 0 0,.int .i64 0,.string ⟨#[]⟩,.bool false,.bool true]/\l=[42,32]++[66,89,69]++[13,10]) False False [98,32,76,79,71,79,85,84] [98] [76,79,71,79,85,84] [76,79,71,79,85,84] [] 0 109 true w (λ_ _=>stbP) δ δ δ δ δ δ δ
  (List.mem_of_getElem? (i:=2) rfl) (λv hv=>by simpa[uF] using hv) (λargs W=>enters_of func109 κ rfl args W) (λb sl W h=>xGm b W) (λh=>by cases h) (λ_ b sl W hc ha=>by
   obtain⟨A,c,rfl,_⟩:=ha;refine(xPz b _ A c W hc rfl).mono ?_;rintro e w' ⟨rfl,v,hc2,hb2⟩;exact .inl ⟨_,_,_,_,_,_,_,_,_,_,_,_,_,_,_,rfl,hc2,⟨rfl,rfl⟩,δ,δ,hb2⟩)).mono ?_
 rintro e w' ⟨hb,h⟩;rcases h with ⟨v0,v1,v2,v3,v4,v5,v6,v7,v8,v9,v10,v11,l,rfl,⟨hv,hl⟩,_⟩|⟨_,h⟩|⟨_,h⟩
 ·simp only[List.cons.injEq] at hv;obtain⟨rfl,rfl,rfl,rfl,rfl,rfl,rfl,rfl,rfl,rfl,rfl,rfl,_⟩:=hv;subst hl;exact⟨rfl,hb⟩
 ·exact h.elim
 ·exact h.elim
theorem xTt (w:World):Calls prog 9 #[.agg #[.slice none 0 0,.slice none 0 0],.agg #[.string ⟨#[]⟩,.string ⟨#[]⟩,.string ⟨#[]⟩,.int .i64 0,.slice none 0 0,.slice none 0 0,.int .i64 0,.string ⟨#[]⟩,.bool false,.bool false],.string ⟨#[99,32,70,69,84,67,72,32,49,32,70,76,65,71,83]⟩,.agg #[.string ⟨#[]⟩,.string ⟨#[]⟩,.string ⟨#[]⟩,.string ⟨#[]⟩,.string ⟨#[]⟩,.int .i64 0]] w λe w'=>
   e=.returned (.tuple #[.agg #[.slice none 0 0,.slice none 0 0],.agg #[.string ⟨#[]⟩,.string ⟨#[]⟩,.string ⟨#[]⟩,.int .i64 0,.slice none 0 0,.slice none 0 0,.int .i64 0,.string ⟨#[]⟩,.bool false,.bool false],.string ⟨#[99,32,66,65,68,13,10]⟩])/\ψ w w':=by
 refine(lawz (λ_ _ _=>False) False True [99,32,70,69,84,67,72,32,49,32,70,76,65,71,83] [99] [70,69,84,67,72] [70,69,84,67,72] [(0,[49]),(0,[70,76,65,71,83])] 3 125 false w (λ_ _=>stbP) δ δ δ δ δ δ δ
  (List.mem_of_getElem? (i:=18) rfl) (λv hv=>by simpa[uF] using hv) (λargs W=>enters_of func125 κ rfl args W) (λb sl W h=>xTi b W (xA h 2)) (λ_=>trivial) (λh=>by cases h)).mono ?_
 rintro e w' ⟨hb,h⟩;rcases h with ⟨v0,v1,v2,v3,v4,v5,v6,v7,v8,v9,v10,v11,l,_,h,_⟩|⟨_,h⟩|⟨rfl,_⟩
 ·exact h.elim
 ·exact h.elim
 ·exact⟨rfl,hb⟩
theorem qF (w:World):Calls prog 8 #[] w λe w'=>e=.returned (.bool true)/\ψ w w':=by
 have Lcap:=ι (λW=>yBe W);obtain⟨rcap,hcap⟩:∃r:ByteArray,(⟨#[42,32,67,65,80,65,66,73,76,73,84,89,32,73,77,65,80,52,114,101,118,49,13,10,97,32,79,75,13,10]⟩:ByteArray)=r:=⟨_,rfl⟩;rw[hcap] at Lcap
 have ecap:(rcap.toList==[42,32,67,65,80,65,66,73,76,73,84,89,32,73,77,65,80,52,114,101,118,49,13,10,97,32,79,75,13,10])=true:=by rw[<-hcap,ByteArray.toList_eq];rfl
 clear hcap;have Lout:=ι (λW=>yBd W);obtain⟨rout,hout⟩:∃r:ByteArray,(⟨#[42,32,66,89,69,13,10,98,32,79,75,13,10]⟩:ByteArray)=r:=⟨_,rfl⟩;rw[hout] at Lout;have eout:(rout.toList==[42,32,66,89,69,13,10,98,32,79,75,13,10])=true:=by rw[<-hout,ByteArray.toList_eq];rfl
 clear hout;have xVz:=ι (λW=>xTt W);obtain⟨rfetch,xU8⟩:∃r:ByteArray,(⟨#[99,32,66,65,68,13,10]⟩:ByteArray)=r:=⟨_,rfl⟩;rw[xU8] at xVz;have efetch:(rfetch.toList==[99,32,66,65,68,13,10])=true:=by rw[<-xU8,ByteArray.toList_eq];rfl
 clear xU8;go_enter func8,ntmps8;go_wp2_with fail
 refine(Lcap.o _).mono ?_;rintro e w1 ⟨rfl,hb1⟩;have HB1:=ι hb1;clear hb1;go_wp2_with fail
 refine(Lout.o _).mono ?_;rintro e w2 ⟨rfl,hb2⟩;have ha1:=wW (wW (Below.refl w1.heap.size w1) ν (yQ (.slice none 0 0) (.slice none 0 0))) ν xKs;have p1:=xC (zD w1 (yQ (.slice none 0 0) (.slice none 0 0)) xKs) hb2 σ
 have HB2:=ι (HB1.o.trans ((ha1.trans (hb2.mono ha1.size)).mono HB1.o.size));have P1:=ι p1;clear hb2 ha1 p1;go_wp2_with fail
 refine(xVz.o _).mono ?_;rintro e w3 ⟨rfl,hb3⟩
 have ha2:=wW (wW (Below.refl w2.heap.size w2) ν (yQ (.slice none 0 0) (.slice none 0 0))) ν (uO (.string ⟨#[]⟩) (.string ⟨#[]⟩) (.string ⟨#[]⟩) (.int .i64 0) (.slice none 0 0) (.slice none 0 0) (.int .i64 0) (.string ⟨#[]⟩) (.bool false) (.bool true))
 have p2:=xC (zD w2 (yQ (.slice none 0 0) (.slice none 0 0)) (uO (.string ⟨#[]⟩) (.string ⟨#[]⟩) (.string ⟨#[]⟩) (.int .i64 0) (.slice none 0 0) (.slice none 0 0) (.int .i64 0) (.string ⟨#[]⟩) (.bool false) (.bool true))) hb3 σ;have xMc:=ha2.trans (hb3.mono ha2.size)
 have HB3:=ι (HB2.o.trans (xMc.mono HB2.o.size));have p1:=xC P1.o xMc (xJ P1.o);have ha3:=wW (wW (Below.refl w3.heap.size w3) ν (yQ (.slice none 0 0) (.slice none 0 0))) ν xKs;have HB4:=ι (HB3.o.trans (ha3.mono HB3.o.size))
 have c1:((w3.alloc (yQ (.slice none 0 0) (.slice none 0 0))).alloc xKs).cell? ⟨w1.heap.size+1,9,none⟩=some (.bool false):=xA (xM (xM p1 _) _) 9
 have c2:((w3.alloc (yQ (.slice none 0 0) (.slice none 0 0))).alloc xKs).cell? ⟨w2.heap.size+1,9,none⟩=some (.bool true):=xA (xM (xM p2 _) _) 9;clear hb3 ha2 p2 xMc p1 P1 HB1 HB2 HB3 ha3 Lcap Lout xVz;go_wp2;go_ret;exact⟨rfl,HB4.o⟩
end Go.Proofs.IM
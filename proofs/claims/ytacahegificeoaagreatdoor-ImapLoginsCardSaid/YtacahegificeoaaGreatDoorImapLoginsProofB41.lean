/- Contracts of functions. Conditions: as stated. -/
import Derived.Test.YtacahegificeoaaGreatDoorImapLoginsProofB40
set_option maxHeartbeats 8000000
set_option maxRecDepth 100000
namespace Mailsack
open Go.Proofs.SH
def unlK (a:tJ) (pw:ByteArray):ByteArray:=xH9 pw a.yN a.rounds.toNat
def w32 (wr:ByteArray):ByteArray:=wr.extract 0 32
def w16 (wr:ByteArray):ByteArray:=wr.extract 32 48
theorem xUj {wr:ByteArray} (h:wr.size=48):w32 wr++w16 wr=wr:=by
 unfold w32 w16;rw[ByteArray.extract_append_extract];simp;rw[<-h];exact ByteArray.extract_zero_size
theorem xF3 {wr:ByteArray} (h:wr.size=48):(w32 wr).size=32:=by simp[w32,ByteArray.size_extract];omega
theorem xP4 {wr:ByteArray} (h:wr.size=48):(w16 wr).size=16:=by simp[w16,ByteArray.size_extract];omega
def xUu (a:tJ) (pw:ByteArray):Bool:=rX (tH (unlK a pw) a.xE (a.user++a.pub) (w32 a.wrapped)) (w16 a.wrapped)
def jY (a:tJ) (pw:ByteArray):ByteArray:=bsA (xHg (unlK a pw) a.xE 1 (w32 a.wrapped))
def yDv (a:tJ) (pw:ByteArray):Bool:=rX (tH (wS (jY a pw)) a.xE a.pub (w32 a.old)) (w16 a.old)
def xKq (a:tJ) (pw:ByteArray):ByteArray:=bsA (xHg (wS (jY a pw)) a.xE 1 (w32 a.old))
theorem xEd {a:tJ} {pw:ByteArray} (h:a.wrapped.size=48):(jY a pw).size=32:=by rw[jY,yS,xBg,xF3 h]
def xRb (a:tJ) (pw:ByteArray):Int:=
 if uP a=false then 1 else if xUu a pw=false then 10 else if rX (zT (jY a pw)) a.pub=false then 10 else if a.old.size=0 then 0 else if yDv a pw=false then 3 else 0
def xUv (a:tJ) (pw:ByteArray):List ByteArray:=if xRb a pw=0 then(if a.old.size=0 then[jY a pw] else[jY a pw,xKq a pw]) else[]
end Mailsack
namespace Go.Proofs.SH
open Go.RowKit Mailsack MM BB SV FE
theorem xRa (a:tJ) (pw:ByteArray) (w:World) (hu:a.user.size<=1000) (hpw:pw.size<=1000000) (hT:wL w):
  Calls Tryz.prog 15 #[xHj a,.string pw] w λe w'=>∃v,e=.returned (.tuple #[v,.int .i64 (xRb a pw)])/\RdS w' w'.heap.size v ((xUv a pw).map (·.data.toList))/\Below w.heap.size w w':=by
 have HR:=ι (λW=>xHs a W ω);have H0:=ι (And.intro ((Below.refl w.heap.size w).alloc ν (zX a)) (xL w (zX a)));have HT:=ι (λW (h:Below w.heap.size w W)=>hT.below h ν);obtain⟨u,s,r,ep,pb,n,wr,o⟩:=a;simp only[zX,xHj] at H0 HR hu⊢
 have HUE:Hid (xRb ⟨u,s,r,ep,pb,n,wr,o⟩ pw=if uP ⟨u,s,r,ep,pb,n,wr,o⟩=false then 1 else if xUu ⟨u,s,r,ep,pb,n,wr,o⟩ pw=false then 10 else if rX (zT (jY ⟨u,s,r,ep,pb,n,wr,o⟩ pw)) pb=false then 10 else if o.size=0 then 0 else if yDv ⟨u,s,r,ep,pb,n,wr,o⟩ pw=false then 3 else 0):=ι rfl
 have HUL:Hid (xUv ⟨u,s,r,ep,pb,n,wr,o⟩ pw=if xRb ⟨u,s,r,ep,pb,n,wr,o⟩ pw=0 then(if o.size=0 then[jY ⟨u,s,r,ep,pb,n,wr,o⟩ pw] else[jY ⟨u,s,r,ep,pb,n,wr,o⟩ pw,xKq ⟨u,s,r,ep,pb,n,wr,o⟩ pw]) else[]):=ι rfl;clear hT;cases hr:uP ⟨u,s,r,ep,pb,n,wr,o⟩ with
 |false=>
  have e1:xRb ⟨u,s,r,ep,pb,n,wr,o⟩ pw=1:=by rw[HUE.o,hr];rfl
  have e2:xUv ⟨u,s,r,ep,pb,n,wr,o⟩ pw=[]:=by rw[HUL.o,e1];rfl
  rw[hr] at HR;rw[e1,e2];clear HUE HUL HT hr;go_enter Tryz.func15,Tryz.ntmps15;go_wp2_with fail
  refine(HR.o _).mono ?_;rintro e w1 ⟨rfl,hb1⟩;have B1:=ι (H0.o.1.trans (hb1.mono H0.o.1.size));clear hb1 HR H0;go_wp2;go_ret2;exact⟨_,rfl,(xR0.nil _ 0).rd,B1.o⟩
 |true=>
  have hl:=xRx hr;simp only at hl;rw[hr] at HR HUE;obtain⟨l1,l2,l3,l4,l5,l6,l7,l8,l9,l10,l11⟩:=hl;obtain⟨rn,hrn⟩:∃rn:Nat,r=(rn:Int):=⟨r.toNat,ω⟩;subst hrn;have HP:=ι (λW h=>xLe pw s rn W ω ω ω ω h);have hpz:=xS3 pw s rn
  have eK:xH9 pw s rn=unlK ⟨u,s,(rn:Int),ep,pb,n,wr,o⟩ pw:=rfl;have hws:=xUj l10;have hw1:=xF3 l10;have hw2:=xP4 l10
  have HOY:=λ(h:xUu ⟨u,s,(rn:Int),ep,pb,n,wr,o⟩ pw=true)=>ι (λW=>xJ8 (xH9 pw s rn) n (u++pb) (w32 wr) (w16 wr) W hpz l9 (by rw[ByteArray.size_append];omega) ω hw2 h)
  have HON:=λ(h:xUu ⟨u,s,(rn:Int),ep,pb,n,wr,o⟩ pw=false)=>ι (λW=>xNv (xH9 pw s rn) n (u++pb) (w32 wr) (w16 wr) W hpz l9 (by rw[ByteArray.size_append];omega) ω hw2 h);rw[hws] at HOY HON;have eP:bsA (xHg (xH9 pw s rn) n 1 (w32 wr))=jY ⟨u,s,(rn:Int),ep,pb,n,wr,o⟩ pw:=rfl
  rw[eP] at HOY;have hpz2:=xEd (a:=⟨u,s,(rn:Int),ep,pb,n,wr,o⟩) (pw:=pw) l10;have nb:¬(9223372036854775807<u.size+pb.size):=by omega
  have HQ:Hid (yDv ⟨u,s,(rn:Int),ep,pb,n,wr,o⟩ pw=rX (tH (wS (jY ⟨u,s,(rn:Int),ep,pb,n,wr,o⟩ pw)) n pb (w32 o)) (w16 o)):=ι rfl;have HQ2:Hid (xKq ⟨u,s,(rn:Int),ep,pb,n,wr,o⟩ pw=bsA (xHg (wS (jY ⟨u,s,(rn:Int),ep,pb,n,wr,o⟩ pw)) n 1 (w32 o))):=ι rfl;clear eK eP hws hw1 hw2
  generalize xH9 pw s rn=key at HP HOY HON;generalize jY ⟨u,s,(rn:Int),ep,pb,n,wr,o⟩ pw=xI at HOY hpz2 HUE HUL HQ HQ2;have HPU:=ι (λW=>xHx xI W hpz2);have hpub:(zT xI).size=32:=xC5 _ _;have HM:=ι (λW=>xIx (zT xI) pb W ω);cases hok:xUu ⟨u,s,(rn:Int),ep,pb,n,wr,o⟩ pw with
  |false=>
   have HO:=HON hok;have e1:xRb ⟨u,s,(rn:Int),ep,pb,n,wr,o⟩ pw=10:=by rw[HUE.o,hok];rfl
   have e2:xUv ⟨u,s,(rn:Int),ep,pb,n,wr,o⟩ pw=[]:=by rw[HUL.o,e1];rfl
   rw[e1,e2];clear HUE HUL HQ HQ2 hr hok HON HOY l1 l2 l3 l4 l5 l6 l7 l8 l9 l10 l11 hpz hpz2 hpub HM HPU;go_enter Tryz.func15,Tryz.ntmps15;go_wp2_with fail
   refine(HR.o _).mono ?_;rintro e w1 ⟨rfl,hb1⟩;have B1:=ι (H0.o.1.trans (hb1.mono H0.o.1.size));have HK1:=ι (xB H0.o.2 hb1 (xG H0.o.2));clear hb1 HR H0;obtain⟨c0,c1,c2⟩:=xH1 HK1.o;go_wp2_with fail
   clear c0 c1 c2;refine(HP.o _ (HT.o _ B1.o)).mono ?_;rintro e w2 ⟨rfl,hb2⟩;have B2:=ι (B1.o.trans (hb2.mono B1.o.size));have HK2:=ι (xB HK1.o hb2 (xG HK1.o));clear hb2 HP HK1 B1;obtain⟨c0,c1,c2,c3,c4,c5,c6⟩:=qO HK2.o;go_wp2_with fail
   clear c0 c1 c2 c3 c4 c5 c6;refine(HO.o _).mono ?_;rintro e w3 ⟨rfl,hb3⟩;have B3:=ι (B2.o.trans (hb3.mono B2.o.size));have HK3:=ι (xB HK2.o hb3 (xG HK2.o));clear hb3 HO HK2 B2;go_wp2;go_ret2;exact⟨_,rfl,(xR0.nil _ 0).rd,B3.o⟩
  |true=>
   have HO:=HOY hok;rw[hok,if_neg σ,if_neg σ] at HUE;clear hok HON HOY hr;cases hsm:rX (zT xI) pb with
   |false=>
    rw[hsm] at HM HUE;rw[if_pos rfl] at HUE;have e2:xUv ⟨u,s,(rn:Int),ep,pb,n,wr,o⟩ pw=[]:=by rw[HUL.o,HUE.o];rfl
    rw[HUE.o,e2];clear HUE HUL HQ HQ2 hsm l1 l2 l3 l4 l5 l6 l7 l8 l9 l10 l11 hpz hpz2 hpub;generalize zT xI=pubv at HPU HM;go_enter Tryz.func15,Tryz.ntmps15;go_wp2_with fail
    refine(HR.o _).mono ?_;rintro e w1 ⟨rfl,hb1⟩;have B1:=ι (H0.o.1.trans (hb1.mono H0.o.1.size));have HK1:=ι (xB H0.o.2 hb1 (xG H0.o.2));clear hb1 HR H0;obtain⟨c0,c1,c2⟩:=xH1 HK1.o;go_wp2_with fail
    clear c0 c1 c2;refine(HP.o _ (HT.o _ B1.o)).mono ?_;rintro e w2 ⟨rfl,hb2⟩;have B2:=ι (B1.o.trans (hb2.mono B1.o.size));have HK2:=ι (xB HK1.o hb2 (xG HK1.o));clear hb2 HP HK1 B1;obtain⟨c0,c1,c2,c3,c4,c5,c6⟩:=qO HK2.o;go_wp2_with fail
    clear c0 c1 c2 c3 c4 c5 c6;refine(HO.o _).mono ?_;rintro e w3 ⟨rfl,hb3⟩;have B3:=ι (B2.o.trans (hb3.mono B2.o.size));have HK3:=ι (xB HK2.o hb3 (xG HK2.o));clear hb3 HO HK2 B2;go_wp2_with fail
    refine(HPU.o _).mono ?_;rintro e w4 ⟨rfl,hb4⟩;have B4:=ι (B3.o.trans (hb4.mono B3.o.size));have HK4:=ι (xB HK3.o hb4 (xG HK3.o));clear hb4 HPU HK3 B3;obtain⟨c0,c1,c2,c3,c4⟩:=xU2 HK4.o;go_wp2_with fail
    clear c0 c1 c2 c3 c4;refine(HM.o _).mono ?_;rintro e w5 ⟨rfl,hb5⟩;have B5:=ι (B4.o.trans (hb5.mono B4.o.size));have HK5:=ι (xB HK4.o hb5 (xG HK4.o));clear hb5 HM HK4 B4;go_wp2;go_ret2;exact⟨_,rfl,(xR0.nil _ 0).rd,B5.o⟩
   |true=>
    rw[hsm] at HM HUE;rw[if_neg σ] at HUE
    by_cases ho:o.size=0
    ·rw[if_pos ho] at HUE;have e2:xUv ⟨u,s,(rn:Int),ep,pb,n,wr,o⟩ pw=[xI]:=by rw[HUL.o,HUE.o,if_pos rfl,if_pos ho]
     rw[HUE.o,e2];have i6:(o.toList==[])=true:=by rw[ByteArray.toList_eq];simp;exact Array.eq_empty_of_size_eq_zero ho
     clear HUE HUL HQ HQ2 hsm l1 l2 l3 l4 l5 l6 l7 l8 l9 l10 l11 hpz hpz2 hpub ho;generalize zT xI=pubv at HPU HM;go_enter Tryz.func15,Tryz.ntmps15;go_wp2_with fail
     refine(HR.o _).mono ?_;rintro e w1 ⟨rfl,hb1⟩;have B1:=ι (H0.o.1.trans (hb1.mono H0.o.1.size));have HK1:=ι (xB H0.o.2 hb1 (xG H0.o.2));clear hb1 HR H0;obtain⟨c0,c1,c2⟩:=xH1 HK1.o;go_wp2_with fail
     clear c0 c1 c2;refine(HP.o _ (HT.o _ B1.o)).mono ?_;rintro e w2 ⟨rfl,hb2⟩;have B2:=ι (B1.o.trans (hb2.mono B1.o.size));have HK2:=ι (xB HK1.o hb2 (xG HK1.o));clear hb2 HP HK1 B1;obtain⟨c0,c1,c2,c3,c4,c5,c6⟩:=qO HK2.o;go_wp2_with fail
     clear c0 c1 c2 c3 c4 c5 c6;refine(HO.o _).mono ?_;rintro e w3 ⟨rfl,hb3⟩;have B3:=ι (B2.o.trans (hb3.mono B2.o.size));have HK3:=ι (xB HK2.o hb3 (xG HK2.o));clear hb3 HO HK2 B2;go_wp2_with fail
     refine(HPU.o _).mono ?_;rintro e w4 ⟨rfl,hb4⟩;have B4:=ι (B3.o.trans (hb4.mono B3.o.size));have HK4:=ι (xB HK3.o hb4 (xG HK3.o));clear hb4 HPU HK3 B3;obtain⟨c0,c1,c2,c3,c4⟩:=xU2 HK4.o;go_wp2_with fail
     clear c0 c1 c2 c3 c4;refine(HM.o _).mono ?_;rintro e w5 ⟨rfl,hb5⟩;have B5:=ι (B4.o.trans (hb5.mono B4.o.size));have HK5:=ι (xB HK4.o hb5 (xG HK4.o));clear hb5 HM HK4 B4;obtain⟨c0,c1,c2,c3,c4,c5,c6,c7⟩:=yBn HK5.o;have B6:=ι (B5.o.alloc B5.o.size (.cells #[.string xI] 9))
     have hk6:=xA (xL w5 (.cells #[.string xI] 9)) 0;have HK6:=ι hk6;clear hk6;go_wp2;go_ret2;refine⟨_,rfl,⟨_,_,rfl,Nat.le_refl _,λ_=>⟨_,_,rfl,σ,λj x hx=>?_⟩⟩,B6.o⟩
     have hj:j=0:=by
      have:=(List.getElem?_eq_some_iff.1 hx).1;simpa using this
     subst hj;injection hx with hx;subst hx;exact HK6.o
    ·rw[if_neg ho] at HUE
     have i6:(o.toList==[])=false:=by
      rw[ByteArray.toList_eq];cases hx:(o.data.toList==[]) with
      |false=>rfl
      |true=>
       simp only[beq_iff_eq] at hx;exact absurd (show o.data.size=0 by rw[<-Array.length_toList,hx];rfl) ho
     have l48:o.size=48:=by omega
     have hws:=xUj l48;have hw1:=xF3 l48;have hw2:=xP4 l48;have HOK:=ι (λW h=>xSf xI W ω h);have hkz:=xLf xI;have HOY:=λ(h:rX (tH (wS xI) n pb (w32 o)) (w16 o)=true)=>ι (λW=>xJ8 (wS xI) n pb (w32 o) (w16 o) W hkz l9 ω ω hw2 h)
     have HON:=λ(h:rX (tH (wS xI) n pb (w32 o)) (w16 o)=false)=>ι (λW=>xNv (wS xI) n pb (w32 o) (w16 o) W hkz l9 ω ω hw2 h);rw[hws,<-HQ2.o] at HOY;rw[hws] at HON;rw[HQ.o] at HUE;have HO1:=HO
     have hE:xRb ⟨u,s,(rn:Int),ep,pb,n,wr,o⟩ pw=if rX (tH (wS xI) n pb (w32 o)) (w16 o)=false then 3 else 0:=HUE.o;rw[hE] at HUL;rw[hE];clear hE HUE HQ hws hw1 hw2 l1 l2 l3 l4 l5 l6 l7 l8 l9 l10 l11 hsm;generalize xKq ⟨u,s,(rn:Int),ep,pb,n,wr,o⟩ pw=old at HOY HUL HQ2
     generalize zT xI=pubv at HPU HM hpub;clear HQ2 hpub hpz hkz hpz2 HO;cases hs2:rX (tH (wS xI) n pb (w32 o)) (w16 o) with
     |false=>
      have HOP:=HON hs2;rw[hs2,if_pos rfl,if_neg ω] at HUL;rw[HUL.o,if_pos rfl];clear hs2 HON HOY HUL;generalize wS xI=k2 at HOK HOP;have HO:=HO1;clear HO1 ho;go_enter Tryz.func15,Tryz.ntmps15;go_wp2_with fail
      refine(HR.o _).mono ?_;rintro e w1 ⟨rfl,hb1⟩;have B1:=ι (H0.o.1.trans (hb1.mono H0.o.1.size));have HK1:=ι (xB H0.o.2 hb1 (xG H0.o.2));clear hb1 HR H0;obtain⟨c0,c1,c2⟩:=xH1 HK1.o;go_wp2_with fail
      clear c0 c1 c2;refine(HP.o _ (HT.o _ B1.o)).mono ?_;rintro e w2 ⟨rfl,hb2⟩;have B2:=ι (B1.o.trans (hb2.mono B1.o.size));have HK2:=ι (xB HK1.o hb2 (xG HK1.o));clear hb2 HP HK1 B1;obtain⟨c0,c1,c2,c3,c4,c5,c6⟩:=qO HK2.o;go_wp2_with fail
      clear c0 c1 c2 c3 c4 c5 c6;refine(HO.o _).mono ?_;rintro e w3 ⟨rfl,hb3⟩;have B3:=ι (B2.o.trans (hb3.mono B2.o.size));have HK3:=ι (xB HK2.o hb3 (xG HK2.o));clear hb3 HO HK2 B2;go_wp2_with fail
      refine(HPU.o _).mono ?_;rintro e w4 ⟨rfl,hb4⟩;have B4:=ι (B3.o.trans (hb4.mono B3.o.size));have HK4:=ι (xB HK3.o hb4 (xG HK3.o));clear hb4 HPU HK3 B3;obtain⟨c0,c1,c2,c3,c4⟩:=xU2 HK4.o;go_wp2_with fail
      clear c0 c1 c2 c3 c4;refine(HM.o _).mono ?_;rintro e w5 ⟨rfl,hb5⟩;have B5:=ι (B4.o.trans (hb5.mono B4.o.size));have HK5:=ι (xB HK4.o hb5 (xG HK4.o));clear hb5 HM HK4 B4;obtain⟨c0,c1,c2,c3,c4,c5,c6,c7⟩:=yBn HK5.o;go_wp2_with fail
      clear c0 c1 c2 c3 c4 c5 c6 c7;refine(HOK.o _ (HT.o _ B5.o)).mono ?_;rintro e w6 ⟨rfl,hb6⟩;have B6:=ι (B5.o.trans (hb6.mono B5.o.size));have HK6:=ι (xB HK5.o hb6 (xG HK5.o));clear hb6 HOK HK5 B5;obtain⟨c0,c1,c2,c3,c4,c5,c6,c7⟩:=yBn HK6.o;go_wp2_with fail
      clear c0 c1 c2 c3 c4 c5 c6 c7;refine(HOP.o _).mono ?_;rintro e w7 ⟨rfl,hb7⟩;have B7:=ι (B6.o.trans (hb7.mono B6.o.size));clear hb7 HOP B6 HK6;go_wp2;go_ret2;exact⟨_,rfl,(xR0.nil _ 0).rd,B7.o⟩
     |true=>
      have HOP:=HOY hs2;rw[hs2,show(if true=false then(3:Int) else 0)=0 from rfl,if_pos rfl,if_neg ho] at HUL;rw[HUL.o,show(if true=false then(3:Int) else 0)=0 from rfl];clear hs2 HON HOY HUL;generalize wS xI=k2 at HOK HOP;have HO:=HO1;clear HO1 ho
      go_enter Tryz.func15,Tryz.ntmps15;go_wp2_with fail
      refine(HR.o _).mono ?_;rintro e w1 ⟨rfl,hb1⟩;have B1:=ι (H0.o.1.trans (hb1.mono H0.o.1.size));have HK1:=ι (xB H0.o.2 hb1 (xG H0.o.2));clear hb1 HR H0;obtain⟨c0,c1,c2⟩:=xH1 HK1.o;go_wp2_with fail
      clear c0 c1 c2;refine(HP.o _ (HT.o _ B1.o)).mono ?_;rintro e w2 ⟨rfl,hb2⟩;have B2:=ι (B1.o.trans (hb2.mono B1.o.size));have HK2:=ι (xB HK1.o hb2 (xG HK1.o));clear hb2 HP HK1 B1;obtain⟨c0,c1,c2,c3,c4,c5,c6⟩:=qO HK2.o;go_wp2_with fail
      clear c0 c1 c2 c3 c4 c5 c6;refine(HO.o _).mono ?_;rintro e w3 ⟨rfl,hb3⟩;have B3:=ι (B2.o.trans (hb3.mono B2.o.size));have HK3:=ι (xB HK2.o hb3 (xG HK2.o));clear hb3 HO HK2 B2;go_wp2_with fail
      refine(HPU.o _).mono ?_;rintro e w4 ⟨rfl,hb4⟩;have B4:=ι (B3.o.trans (hb4.mono B3.o.size));have HK4:=ι (xB HK3.o hb4 (xG HK3.o));clear hb4 HPU HK3 B3;obtain⟨c0,c1,c2,c3,c4⟩:=xU2 HK4.o;go_wp2_with fail
      clear c0 c1 c2 c3 c4;refine(HM.o _).mono ?_;rintro e w5 ⟨rfl,hb5⟩;have B5:=ι (B4.o.trans (hb5.mono B4.o.size));have HK5:=ι (xB HK4.o hb5 (xG HK4.o));clear hb5 HM HK4 B4;obtain⟨c0,c1,c2,c3,c4,c5,c6,c7⟩:=yBn HK5.o;go_wp2_with fail
      clear c0 c1 c2 c3 c4 c5 c6 c7;refine(HOK.o _ (HT.o _ B5.o)).mono ?_;rintro e w6 ⟨rfl,hb6⟩;have B6:=ι (B5.o.trans (hb6.mono B5.o.size));have HK6:=ι (xB HK5.o hb6 (xG HK5.o));clear hb6 HOK HK5 B5;obtain⟨c0,c1,c2,c3,c4,c5,c6,c7⟩:=yBn HK6.o;go_wp2_with fail
      clear c0 c1 c2 c3 c4 c5 c6 c7;refine(HOP.o _).mono ?_;rintro e w7 ⟨rfl,hb7⟩;have B7:=ι (B6.o.trans (hb7.mono B6.o.size));clear hb7 HOP B6 HK6;have B8:=ι (B7.o.alloc B7.o.size (.cells #[.string xI,.string old] 9));have hk8:=xL w7 (.cells #[.string xI,.string old] 9)
      have HK8:=ι (And.intro (xA hk8 0) (xA hk8 1));clear hk8;go_wp2;go_ret2;refine⟨_,rfl,⟨_,_,rfl,Nat.le_refl _,λ_=>⟨_,_,rfl,σ,λj x hx=>?_⟩⟩,B8.o⟩
      have hj:j=0∨j=1:=by
       have:=(List.getElem?_eq_some_iff.1 hx).1;simp at this;omega
      rcases hj with rfl|rfl
      ·injection hx with hx;subst hx;exact HK8.o.1
      ·injection hx with hx;subst hx;exact HK8.o.2
end Go.Proofs.SH
namespace Go.Proofs.VA
open Go.RowKit Mailsack MM BB SH SV RK DS IX Go.Proofs.ST
structure LgN (w:World) (va vb:Value) (so dd:Obj) (b1 b2:Bool) (W:World):Prop where
 d:W.heap[w.heap.size]?=some (xX va vb)
 o1:W.heap[w.heap.size+1]?=some (if b1=true then so else vJ)
 o2:W.heap[w.heap.size+2]?=some (if b2=true then dd else vB)
 bel:Below w.heap.size w W
theorem LgN.below {w W W':World} {va vb:Value} {so dd:Obj} {b1 b2:Bool} (h:LgN w va vb so dd b1 b2 W) (hb:Below W.heap.size W W'):LgN w va vb so dd b1 b2 W':=
 ⟨xB h.d hb (xG h.d),xB h.o1 hb (xG h.o1),xB h.o2 hb (xG h.o2),h.bel.trans (hb.mono h.bel.size)⟩
theorem LgN.drew {w W:World} {va vb:Value} {so dd:Obj} {b1 b2:Bool} (h:LgN w va vb so dd b1 b2 W):LgN w va vb so dd b1 b2 W.drew:=h.below (Below.refl _ W).drew
theorem xQ0 (w:World) (va vb:Value) (so dd:Obj):LgN w va vb so dd false false (((w.alloc (xX va vb)).alloc vJ).alloc vB):=by
 have hb:=(((Below.refl w.heap.size w).alloc ν (xX va vb)).alloc σ vJ).alloc (by simp;omega) vB;have h2:=xL ((w.alloc (xX va vb)).alloc vJ) vB;simp only[World.size_alloc] at h2;exact⟨xK (zG _ _ _) _,xK (yX _ _ _) _,h2,hb⟩
theorem LgN.kE {w W:World} {va vb:Value} {so dd:Obj} {b2:Bool} {l:List Value} (h:LgN w va vb so dd false b2 W) (hl:l.length=7) (e:so=.cells l.toArray 30 (0,0)):LgN w va vb so dd true b2 (xU (w.heap.size+1) 0 l W):=by
 have h1:=h.o1;rw[if_neg σ] at h1;exact⟨xM ω l 0 W h.d,by rw[if_pos rfl,e];exact yU h1 hl,xM ω l 0 W h.o2,xZ ω l 0 W h.bel⟩
theorem LgN.xRy {w W:World} {va vb:Value} {so dd:Obj} {b1:Bool} {l:List Value} (h:LgN w va vb so dd b1 false W) (hl:l.length=2) (e:dd=.cells l.toArray 25 (0,0)):LgN w va vb so dd b1 true (xU (w.heap.size+2) 0 l W):=by
 have h1:=h.o2;rw[if_neg σ] at h1;exact⟨xM ω l 0 W h.d,xM ω l 0 W h.o1,by rw[if_pos rfl,e];exact yU h1 hl,xZ ω l 0 W h.bel⟩
theorem xO4 (va vb:Value) (d:Dk) (u pw xE:ByteArray) (w:World) (h:RdD w w.heap.size va vb d) (hn:xE.size≠12):
  Calls Tryz.prog 8 #[.agg #[va,vb],.string u,.string pw,.string xE] w λe w'=>e=.returned (.tuple #[xTv ⟨#[]⟩ ⟨#[]⟩ ⟨#[]⟩ 0 (.slice none 0 0) (.slice none 0 0) 0,.agg #[.slice none 0 0,.slice none 0 0],.int .i64 1])/\Below w.heap.size w w':=by
 obtain⟨A1,c1,A2,c2,rfl,rfl⟩:=yE h;have H0:=ι (xQ0 w (.slice A1 d.secs.length c1) (.slice A2 d.cache.length c2) vJ vB);have hn1:((xE.size:Int)==12)=false:=by simp;omega
 have hn2:((xE.size:Int)!=12)=true:=by simp;omega
 clear h;go_enter Tryz.func8,Tryz.ntmps8;go_upto_region 2 with fail
 obtain⟨w1,hw1⟩:∃w1,((w.alloc (xX (.slice A1 d.secs.length c1) (.slice A2 d.cache.length c2))).alloc vJ).alloc vB=w1:=⟨_,rfl⟩;rw[hw1] at H0;simp only[vO,vJ,vB] at hw1;rw[hw1];clear hw1;have h1:=H0.o.o1;have h2:=H0.o.o2;rw[if_neg σ] at h1 h2
 have HP:=ι (LgN.xRy (LgN.kE H0.o (l:=[.string ⟨#[]⟩,.string ⟨#[]⟩,.string ⟨#[]⟩,.int .i64 0,.slice none 0 0,.slice none 0 0,.int .i64 0]) rfl rfl) (l:=[.slice none 0 0,.slice none 0 0]) rfl rfl);simp only[xU,Nat.reduceAdd] at HP;have o0:=xA h1 0;have o1:=xA h1 1;have o2:=xA h1 2
 have o3:=xA h1 3;have o4:=xA h1 4;have o5:=xA h1 5;have o6:=xA h1 6;have y0:=xC h1 0;have y1:=xC h1 1;have y2:=xC h1 2;have y3:=xC h1 3;have y4:=xC h1 4;have y5:=xC h1 5;have y6:=xC h1 6;have q0:=xA h2 0;have q1:=xA h2 1;have z0:=xC h2 0;have z1:=xC h2 1
 simp only[gA,gB,gC] at o0 o1 o2 o3 o4 o5 o6 q0 q1;clear h1 h2 H0;rw[show w.heap.size+1+1=w.heap.size+2 from rfl];go_wp2;have h1:=HP.o.o1;have h2:=HP.o.o2;rw[if_pos rfl] at h1 h2;obtain⟨f0,f1,f2,f3,f4,f5,f6⟩:=qO h1;obtain⟨g0,g1⟩:=zQ h2;have HB:=ι HP.o.bel
 refine bodyPost_ret (v:=.tuple #[.agg #[.string ⟨#[]⟩,.string ⟨#[]⟩,.string ⟨#[]⟩,.int .i64 0,.slice none 0 0,.slice none 0 0,.int .i64 0],.agg #[.slice none 0 0,.slice none 0 0],.int .i64 1]) (by simp[results,Tryz.results8,go_sem,f0,f1,f2,f3,f4,f5,f6,g0,g1]) rfl ?_
 exact⟨rfl,HB.o⟩
theorem LgN.far {w W:World} {va vb:Value} {so dd:Obj} {b1 b2:Bool} (h:LgN w va vb so dd b1 b2 W) {g:Nat} (hg:w.heap.size+3<=g) (l:List Value) (i:Nat):LgN w va vb so dd b1 b2 (xU g i l W):=
 ⟨xM ω l i W h.d,xM ω l i W h.o1,xM ω l i W h.o2,xZ ω l i W h.bel⟩
structure J7 (w0:World) (so:Obj) (L:Nat->Bool) (α:Nat->Nat) (W:World):Prop where
 b:Below w0.heap.size w0 W
 n:L 7=true->w0.heap.size<=α 7/\W.heap[α 7]?=some (if L 8=true then so else vJ)
end Go.Proofs.VA
/- Contracts of functions. Conditions: as stated. -/
import Derived.Test.YtnafbinmecekeaaGreatDoorImapKeysProofB12
open Go.Proofs.Tryz
set_option maxHeartbeats 8000000
set_option maxRecDepth 100000
namespace Mailsack
def xI9 (d:Dk) (u:ByteArray) (n:Int):ByteArray:=bsA (yAa d (xSb [109] u.data.toList n))
end Mailsack
namespace Go.Proofs.RK
open Go.RowKit MM
section
variable {α:Type} {e:TypeId} {k:Nat} {f:α->List Value} {w:World} {base:Nat} {v:Value} {l:List α}
end
end Go.Proofs.RK
namespace Mailsack
theorem yD0 (x:uQ):(xJd x).length<=100000:=by
 unfold xJd;split
 ·rename_i h
  obtain⟨h1,h2,h3,h4⟩:=xLg h;unfold xZb;have a:=kU (L:=x.boxes) yBu (c:=400) (λb hb=>xGt (h3 b hb)) x.boxes.length;have b:=kU (L:=x.subs) rW (c:=17) (λb hb=>by rw[tT];have:=h4 b hb;omega) x.subs.length;rw[List.take_length] at a b;simp only[List.length_append,uJ];omega
 ·simp
theorem xVs {hd n:Bs} {z:Int} (h:z∈numberOf hd n):0<=z/\z<=4294967295:=by
 unfold numberOf at h;split at h
 ·split at h
  ·rename_i h2
   unfold kT at h2;simp only[Bool.and_eq_true,decide_eq_true_eq] at h2;simp only[List.mem_cons,List.not_mem_nil,or_false] at h;subst h;have:=h2.2;omega
  ·cases h
 ·cases h
theorem xSa {d:Dk} {k u:Bs} {z:Int} (h:z∈wR d k u):0<=z/\z<=4294967295:=by
 unfold wR xDk at h;rw[List.mem_mergeSort] at h;obtain⟨n,_,hn⟩:=List.mem_flatMap.1 h;exact xVs hn
theorem xLf:∀(l:List Op) {d:Dk},zD d=true->zD (vU d l)=true
 |[],_,h=>h
 |o::l,d,h=>by
  show zD (vU (jY d o) l)=true;refine xLf l ?_;unfold jY;split
  ·exact xCk h
  ·split
   ·rename_i h2
    simp only[Bool.and_eq_true] at h2;exact xRt h h2.2
   ·exact h
end Mailsack
namespace Go.Proofs.VA
open Go.RowKit Mailsack MM BB SH SV RK DS IX Go.Proofs.ST Go.Proofs.SE
theorem xFu {g:Nat}:∀(l:List Value) (i:Nat) (W:World) (b o:Nat),(xU g i l W).cell? ⟨b,o,none⟩=W.cell? ⟨b,o,none⟩∨b=g/\i<=o/\o<i+l.length
 |[],_,_,_,_=>.inl rfl
 |a::l,i,W,b,o=>by
  unfold xU;rcases xFu l (i+1) (W.setCell ⟨g,i,none⟩ a) b o with h|⟨h1,h2,h3⟩
  ·by_cases e:b=g/\o=i
   ·exact .inr ⟨e.1,ω,by simp;omega⟩
   ·exact .inl (h.trans (World.cell?_setCell_other _ _ _ _ (by
     intro q;injection q with q1 q2;exact e ⟨by first|exact q1|exact q1.symm,by first|exact q2|exact q2.symm⟩)))
  ·exact .inr ⟨h1,ω,by simp;omega⟩
section
variable {w W:World} {gd:Nat} {va vb bv sv:Value} {so:Obj} {x:uQ} {D:Dk} {b1 b2:Bool}
end
end Go.Proofs.VA
namespace Mailsack
open Go.Proofs.SH
def unlK (a:zU) (pw:ByteArray):ByteArray:=xCq pw a.xI a.rounds.toNat
def w32 (wr:ByteArray):ByteArray:=wr.extract 0 32
def w16 (wr:ByteArray):ByteArray:=wr.extract 32 48
theorem xU5 {wr:ByteArray} (h:wr.size=48):w32 wr++w16 wr=wr:=by
 unfold w32 w16;rw[ByteArray.extract_append_extract];simp;rw[<-h];exact ByteArray.extract_zero_size
theorem xEw {wr:ByteArray} (h:wr.size=48):(w32 wr).size=32:=by simp[w32,ByteArray.size_extract];omega
theorem xOy {wr:ByteArray} (h:wr.size=48):(w16 wr).size=16:=by simp[w16,ByteArray.size_extract];omega
def xUk (a:zU) (pw:ByteArray):Bool:=rX (tL (unlK a pw) a.xE (a.user++a.pub) (w32 a.wrapped)) (w16 a.wrapped)
def vE (a:zU) (pw:ByteArray):ByteArray:=bsA (xHi (unlK a pw) a.xE 1 (w32 a.wrapped))
def yD9 (a:zU) (pw:ByteArray):Bool:=rX (tL (vM (vE a pw)) a.xE a.pub (w32 a.old)) (w16 a.old)
def xHs (a:zU) (pw:ByteArray):ByteArray:=bsA (xHi (vM (vE a pw)) a.xE 1 (w32 a.old))
theorem kZ {a:zU} {pw:ByteArray} (h:a.wrapped.size=48):(vE a pw).size=32:=by rw[vE,yN,xD5,xEw h]
def qA (a:zU) (pw:ByteArray):Int:=
 if zR a=false then 1 else if xUk a pw=false then 10 else if rX (yL (vE a pw)) a.pub=false then 10 else if a.old.size=0 then 0 else if yD9 a pw=false then 3 else 0
def xR8 (a:zU) (pw:ByteArray):List ByteArray:=if qA a pw=0 then(if a.old.size=0 then[vE a pw] else[vE a pw,xHs a pw]) else[]
end Mailsack
namespace Go.Proofs.SH
open Go.RowKit Mailsack MM BB SV FE
theorem xHr (a:zU) (pw:ByteArray) (w:World) (hu:a.user.size<=1000) (hpw:pw.size<=1000000) (hT:vT w):
  Calls prog 86 #[vH a,.string pw] w λe w'=>∃v,e=.returned (.tuple #[v,.int .i64 (qA a pw)])/\RdS w' w'.heap.size v ((xR8 a pw).map (·.data.toList))/\ψ w w':=by
 have HR:=ι (λW=>xDp a W ω);have H0:=ι (And.intro (φ w (yI a)) (xM w (yI a)));have HT:=ι (λW (h:ψ w W)=>hT.below h ν);obtain⟨u,s,r,ep,pb,n,wr,o⟩:=a;simp only[yI,vH] at H0 HR hu⊢
 have HUE:Hid (qA ⟨u,s,r,ep,pb,n,wr,o⟩ pw=if zR ⟨u,s,r,ep,pb,n,wr,o⟩=false then 1 else if xUk ⟨u,s,r,ep,pb,n,wr,o⟩ pw=false then 10 else if rX (yL (vE ⟨u,s,r,ep,pb,n,wr,o⟩ pw)) pb=false then 10 else if o.size=0 then 0 else if yD9 ⟨u,s,r,ep,pb,n,wr,o⟩ pw=false then 3 else 0):=ι rfl
 have HUL:Hid (xR8 ⟨u,s,r,ep,pb,n,wr,o⟩ pw=if qA ⟨u,s,r,ep,pb,n,wr,o⟩ pw=0 then(if o.size=0 then[vE ⟨u,s,r,ep,pb,n,wr,o⟩ pw] else[vE ⟨u,s,r,ep,pb,n,wr,o⟩ pw,xHs ⟨u,s,r,ep,pb,n,wr,o⟩ pw]) else[]):=ι rfl;clear hT;cases hr:zR ⟨u,s,r,ep,pb,n,wr,o⟩ with
 |false=>
  have e1:qA ⟨u,s,r,ep,pb,n,wr,o⟩ pw=1:=by rw[HUE.o,hr];rfl
  have e2:xR8 ⟨u,s,r,ep,pb,n,wr,o⟩ pw=[]:=by rw[HUL.o,e1];rfl
  rw[hr] at HR;rw[e1,e2];clear HUE HUL HT hr;go_enter func86,ntmps86;go_wp2_with fail
  refine(HR.o _).mono ?_;rintro e w1 ⟨rfl,hb1⟩;have B1:=ι (H0.o.1.trans (hb1.mono H0.o.1.size));clear hb1 HR H0;go_wp2;go_ret2;exact⟨_,rfl,(xQy.nil _ 0).rd,B1.o⟩
 |true=>
  have hl:=wL hr;simp only at hl;rw[hr] at HR HUE;obtain⟨l1,l2,l3,l4,l5,l6,l7,l8,l9,l10,l11⟩:=hl;obtain⟨rn,hrn⟩:∃rn:Nat,r=(rn:Int):=⟨r.toNat,ω⟩;subst hrn;have HP:=ι (λW h=>xEe pw s rn W ω ω ω ω h);have hpz:=xI5 pw s rn;have eK:xCq pw s rn=unlK ⟨u,s,(rn:Int),ep,pb,n,wr,o⟩ pw:=rfl
  have hws:=xU5 l10;have hw1:=xEw l10;have hw2:=xOy l10;have HOY:=λ(h:xUk ⟨u,s,(rn:Int),ep,pb,n,wr,o⟩ pw=true)=>ι (λW=>xJk (xCq pw s rn) n (u++pb) (w32 wr) (w16 wr) W hpz l9 (by rw[ByteArray.size_append];omega) ω hw2 h)
  have HON:=λ(h:xUk ⟨u,s,(rn:Int),ep,pb,n,wr,o⟩ pw=false)=>ι (λW=>xNv (xCq pw s rn) n (u++pb) (w32 wr) (w16 wr) W hpz l9 (by rw[ByteArray.size_append];omega) ω hw2 h);rw[hws] at HOY HON;have eP:bsA (xHi (xCq pw s rn) n 1 (w32 wr))=vE ⟨u,s,(rn:Int),ep,pb,n,wr,o⟩ pw:=rfl
  rw[eP] at HOY;have hpz2:=kZ (a:=⟨u,s,(rn:Int),ep,pb,n,wr,o⟩) (pw:=pw) l10;have nb:¬(9223372036854775807<u.size+pb.size):=ω;have HQ:Hid (yD9 ⟨u,s,(rn:Int),ep,pb,n,wr,o⟩ pw=rX (tL (vM (vE ⟨u,s,(rn:Int),ep,pb,n,wr,o⟩ pw)) n pb (w32 o)) (w16 o)):=ι rfl
  have HQ2:Hid (xHs ⟨u,s,(rn:Int),ep,pb,n,wr,o⟩ pw=bsA (xHi (vM (vE ⟨u,s,(rn:Int),ep,pb,n,wr,o⟩ pw)) n 1 (w32 o))):=ι rfl;clear eK eP hws hw1 hw2;generalize xCq pw s rn=key at HP HOY HON;generalize vE ⟨u,s,(rn:Int),ep,pb,n,wr,o⟩ pw=xL at HOY hpz2 HUE HUL HQ HQ2
  have HPU:=ι (λW=>rF xL W hpz2);have hpub:(yL xL).size=32:=wE _ _;have HM:=ι (λW=>xJ6 (yL xL) pb W ω);cases hok:xUk ⟨u,s,(rn:Int),ep,pb,n,wr,o⟩ pw with
  |false=>
   have HO:=HON hok;have e1:qA ⟨u,s,(rn:Int),ep,pb,n,wr,o⟩ pw=10:=by rw[HUE.o,hok];rfl
   have e2:xR8 ⟨u,s,(rn:Int),ep,pb,n,wr,o⟩ pw=[]:=by rw[HUL.o,e1];rfl
   rw[e1,e2];clear HUE HUL HQ HQ2 hr hok HON HOY l1 l2 l3 l4 l5 l6 l7 l8 l9 l10 l11 hpz hpz2 hpub HM HPU;go_enter func86,ntmps86;go_wp2_with fail
   refine(HR.o _).mono ?_;rintro e w1 ⟨rfl,hb1⟩;have B1:=ι (H0.o.1.trans (hb1.mono H0.o.1.size));have HK1:=ι (xD H0.o.2 hb1 (xH H0.o.2));clear hb1 HR H0;obtain⟨c0,c1,c2⟩:=xOn HK1.o;go_wp2_with fail
   clear c0 c1 c2;refine(HP.o _ (HT.o _ B1.o)).mono ?_;rintro e w2 ⟨rfl,hb2⟩;have B2:=ι (B1.o.trans (hb2.mono B1.o.size));have HK2:=ι (xD HK1.o hb2 (xH HK1.o));clear hb2 HP HK1 B1;obtain⟨c0,c1,c2,c3,c4,c5,c6⟩:=jV HK2.o;go_wp2_with fail
   clear c0 c1 c2 c3 c4 c5 c6;refine(HO.o _).mono ?_;rintro e w3 ⟨rfl,hb3⟩;have B3:=ι (B2.o.trans (hb3.mono B2.o.size));have HK3:=ι (xD HK2.o hb3 (xH HK2.o));clear hb3 HO HK2 B2;go_wp2;go_ret2;exact⟨_,rfl,(xQy.nil _ 0).rd,B3.o⟩
  |true=>
   have HO:=HOY hok;rw[hok,if_neg σ,if_neg σ] at HUE;clear hok HON HOY hr;cases hsm:rX (yL xL) pb with
   |false=>
    rw[hsm] at HM HUE;rw[if_pos rfl] at HUE;have e2:xR8 ⟨u,s,(rn:Int),ep,pb,n,wr,o⟩ pw=[]:=by rw[HUL.o,HUE.o];rfl
    rw[HUE.o,e2];clear HUE HUL HQ HQ2 hsm l1 l2 l3 l4 l5 l6 l7 l8 l9 l10 l11 hpz hpz2 hpub;generalize yL xL=pubv at HPU HM;go_enter func86,ntmps86;go_wp2_with fail
    refine(HR.o _).mono ?_;rintro e w1 ⟨rfl,hb1⟩;have B1:=ι (H0.o.1.trans (hb1.mono H0.o.1.size));have HK1:=ι (xD H0.o.2 hb1 (xH H0.o.2));clear hb1 HR H0;obtain⟨c0,c1,c2⟩:=xOn HK1.o;go_wp2_with fail
    clear c0 c1 c2;refine(HP.o _ (HT.o _ B1.o)).mono ?_;rintro e w2 ⟨rfl,hb2⟩;have B2:=ι (B1.o.trans (hb2.mono B1.o.size));have HK2:=ι (xD HK1.o hb2 (xH HK1.o));clear hb2 HP HK1 B1;obtain⟨c0,c1,c2,c3,c4,c5,c6⟩:=jV HK2.o;go_wp2_with fail
    clear c0 c1 c2 c3 c4 c5 c6;refine(HO.o _).mono ?_;rintro e w3 ⟨rfl,hb3⟩;have B3:=ι (B2.o.trans (hb3.mono B2.o.size));have HK3:=ι (xD HK2.o hb3 (xH HK2.o));clear hb3 HO HK2 B2;go_wp2_with fail
    refine(HPU.o _).mono ?_;rintro e w4 ⟨rfl,hb4⟩;have B4:=ι (B3.o.trans (hb4.mono B3.o.size));have HK4:=ι (xD HK3.o hb4 (xH HK3.o));clear hb4 HPU HK3 B3;obtain⟨c0,c1,c2,c3,c4⟩:=xTn HK4.o;go_wp2_with fail
    clear c0 c1 c2 c3 c4;refine(HM.o _).mono ?_;rintro e w5 ⟨rfl,hb5⟩;have B5:=ι (B4.o.trans (hb5.mono B4.o.size));have HK5:=ι (xD HK4.o hb5 (xH HK4.o));clear hb5 HM HK4 B4;go_wp2;go_ret2;exact⟨_,rfl,(xQy.nil _ 0).rd,B5.o⟩
   |true=>
    rw[hsm] at HM HUE;rw[if_neg σ] at HUE
    by_cases ho:o.size=0
    ·rw[if_pos ho] at HUE;have e2:xR8 ⟨u,s,(rn:Int),ep,pb,n,wr,o⟩ pw=[xL]:=by rw[HUL.o,HUE.o,if_pos rfl,if_pos ho]
     rw[HUE.o,e2];have i6:(o.toList==[])=true:=by rw[ByteArray.toList_eq];simp;exact Array.eq_empty_of_size_eq_zero ho
     clear HUE HUL HQ HQ2 hsm l1 l2 l3 l4 l5 l6 l7 l8 l9 l10 l11 hpz hpz2 hpub ho;generalize yL xL=pubv at HPU HM;go_enter func86,ntmps86;go_wp2_with fail
     refine(HR.o _).mono ?_;rintro e w1 ⟨rfl,hb1⟩;have B1:=ι (H0.o.1.trans (hb1.mono H0.o.1.size));have HK1:=ι (xD H0.o.2 hb1 (xH H0.o.2));clear hb1 HR H0;obtain⟨c0,c1,c2⟩:=xOn HK1.o;go_wp2_with fail
     clear c0 c1 c2;refine(HP.o _ (HT.o _ B1.o)).mono ?_;rintro e w2 ⟨rfl,hb2⟩;have B2:=ι (B1.o.trans (hb2.mono B1.o.size));have HK2:=ι (xD HK1.o hb2 (xH HK1.o));clear hb2 HP HK1 B1;obtain⟨c0,c1,c2,c3,c4,c5,c6⟩:=jV HK2.o;go_wp2_with fail
     clear c0 c1 c2 c3 c4 c5 c6;refine(HO.o _).mono ?_;rintro e w3 ⟨rfl,hb3⟩;have B3:=ι (B2.o.trans (hb3.mono B2.o.size));have HK3:=ι (xD HK2.o hb3 (xH HK2.o));clear hb3 HO HK2 B2;go_wp2_with fail
     refine(HPU.o _).mono ?_;rintro e w4 ⟨rfl,hb4⟩;have B4:=ι (B3.o.trans (hb4.mono B3.o.size));have HK4:=ι (xD HK3.o hb4 (xH HK3.o));clear hb4 HPU HK3 B3;obtain⟨c0,c1,c2,c3,c4⟩:=xTn HK4.o;go_wp2_with fail
     clear c0 c1 c2 c3 c4;refine(HM.o _).mono ?_;rintro e w5 ⟨rfl,hb5⟩;have B5:=ι (B4.o.trans (hb5.mono B4.o.size));have HK5:=ι (xD HK4.o hb5 (xH HK4.o));clear hb5 HM HK4 B4;obtain⟨c0,c1,c2,c3,c4,c5,c6,c7⟩:=xH1 HK5.o;have B6:=ι (B5.o.alloc B5.o.size (.cells #[.string xL] 9))
     have hk6:=xA (xM w5 (.cells #[.string xL] 9)) 0;have HK6:=ι hk6;clear hk6;go_wp2;go_ret2;refine⟨_,rfl,⟨_,_,rfl,Nat.le_refl _,λ_=>⟨_,_,rfl,σ,λj x hx=>?_⟩⟩,B6.o⟩
     have hj:j=0:=by
      have:=(List.getElem?_eq_some_iff.1 hx).1;simpa using this
     subst hj;injection hx with hx;subst hx;exact HK6.o
    ·rw[if_neg ho] at HUE
     have i6:(o.toList==[])=false:=by
      rw[ByteArray.toList_eq];cases hx:(o.data.toList==[]) with
      |false=>rfl
      |true=>
       simp only[beq_iff_eq] at hx;exact absurd (show o.data.size=0 by rw[<-Array.length_toList,hx];rfl) ho
     have l48:o.size=48:=ω;have hws:=xU5 l48;have hw1:=xEw l48;have hw2:=xOy l48;have HOK:=ι (λW h=>xI6 xL W ω h);have hkz:=xEf xL;have HOY:=λ(h:rX (tL (vM xL) n pb (w32 o)) (w16 o)=true)=>ι (λW=>xJk (vM xL) n pb (w32 o) (w16 o) W hkz l9 ω ω hw2 h)
     have HON:=λ(h:rX (tL (vM xL) n pb (w32 o)) (w16 o)=false)=>ι (λW=>xNv (vM xL) n pb (w32 o) (w16 o) W hkz l9 ω ω hw2 h);rw[hws,<-HQ2.o] at HOY;rw[hws] at HON;rw[HQ.o] at HUE;have HO1:=HO
     have hE:qA ⟨u,s,(rn:Int),ep,pb,n,wr,o⟩ pw=if rX (tL (vM xL) n pb (w32 o)) (w16 o)=false then 3 else 0:=HUE.o;rw[hE] at HUL;rw[hE];clear hE HUE HQ hws hw1 hw2 l1 l2 l3 l4 l5 l6 l7 l8 l9 l10 l11 hsm;generalize xHs ⟨u,s,(rn:Int),ep,pb,n,wr,o⟩ pw=old at HOY HUL HQ2
     generalize yL xL=pubv at HPU HM hpub;clear HQ2 hpub hpz hkz hpz2 HO;cases hs2:rX (tL (vM xL) n pb (w32 o)) (w16 o) with
     |false=>
      have HOP:=HON hs2;rw[hs2,if_pos rfl,if_neg ω] at HUL;rw[HUL.o,if_pos rfl];clear hs2 HON HOY HUL;generalize vM xL=k2 at HOK HOP;have HO:=HO1;clear HO1 ho;go_enter func86,ntmps86;go_wp2_with fail
      refine(HR.o _).mono ?_;rintro e w1 ⟨rfl,hb1⟩;have B1:=ι (H0.o.1.trans (hb1.mono H0.o.1.size));have HK1:=ι (xD H0.o.2 hb1 (xH H0.o.2));clear hb1 HR H0;obtain⟨c0,c1,c2⟩:=xOn HK1.o;go_wp2_with fail
      clear c0 c1 c2;refine(HP.o _ (HT.o _ B1.o)).mono ?_;rintro e w2 ⟨rfl,hb2⟩;have B2:=ι (B1.o.trans (hb2.mono B1.o.size));have HK2:=ι (xD HK1.o hb2 (xH HK1.o));clear hb2 HP HK1 B1;obtain⟨c0,c1,c2,c3,c4,c5,c6⟩:=jV HK2.o;go_wp2_with fail
      clear c0 c1 c2 c3 c4 c5 c6;refine(HO.o _).mono ?_;rintro e w3 ⟨rfl,hb3⟩;have B3:=ι (B2.o.trans (hb3.mono B2.o.size));have HK3:=ι (xD HK2.o hb3 (xH HK2.o));clear hb3 HO HK2 B2;go_wp2_with fail
      refine(HPU.o _).mono ?_;rintro e w4 ⟨rfl,hb4⟩;have B4:=ι (B3.o.trans (hb4.mono B3.o.size));have HK4:=ι (xD HK3.o hb4 (xH HK3.o));clear hb4 HPU HK3 B3;obtain⟨c0,c1,c2,c3,c4⟩:=xTn HK4.o;go_wp2_with fail
      clear c0 c1 c2 c3 c4;refine(HM.o _).mono ?_;rintro e w5 ⟨rfl,hb5⟩;have B5:=ι (B4.o.trans (hb5.mono B4.o.size));have HK5:=ι (xD HK4.o hb5 (xH HK4.o));clear hb5 HM HK4 B4;obtain⟨c0,c1,c2,c3,c4,c5,c6,c7⟩:=xH1 HK5.o;go_wp2_with fail
      clear c0 c1 c2 c3 c4 c5 c6 c7;refine(HOK.o _ (HT.o _ B5.o)).mono ?_;rintro e w6 ⟨rfl,hb6⟩;have B6:=ι (B5.o.trans (hb6.mono B5.o.size));have HK6:=ι (xD HK5.o hb6 (xH HK5.o));clear hb6 HOK HK5 B5;obtain⟨c0,c1,c2,c3,c4,c5,c6,c7⟩:=xH1 HK6.o;go_wp2_with fail
      clear c0 c1 c2 c3 c4 c5 c6 c7;refine(HOP.o _).mono ?_;rintro e w7 ⟨rfl,hb7⟩;have B7:=ι (B6.o.trans (hb7.mono B6.o.size));clear hb7 HOP B6 HK6;go_wp2;go_ret2;exact⟨_,rfl,(xQy.nil _ 0).rd,B7.o⟩
     |true=>
      have HOP:=HOY hs2;rw[hs2,show(if true=false then(3:Int) else 0)=0 from rfl,if_pos rfl,if_neg ho] at HUL;rw[HUL.o,show(if true=false then(3:Int) else 0)=0 from rfl];clear hs2 HON HOY HUL;generalize vM xL=k2 at HOK HOP;have HO:=HO1;clear HO1 ho
      go_enter func86,ntmps86;go_wp2_with fail
      refine(HR.o _).mono ?_;rintro e w1 ⟨rfl,hb1⟩;have B1:=ι (H0.o.1.trans (hb1.mono H0.o.1.size));have HK1:=ι (xD H0.o.2 hb1 (xH H0.o.2));clear hb1 HR H0;obtain⟨c0,c1,c2⟩:=xOn HK1.o;go_wp2_with fail
      clear c0 c1 c2;refine(HP.o _ (HT.o _ B1.o)).mono ?_;rintro e w2 ⟨rfl,hb2⟩;have B2:=ι (B1.o.trans (hb2.mono B1.o.size));have HK2:=ι (xD HK1.o hb2 (xH HK1.o));clear hb2 HP HK1 B1;obtain⟨c0,c1,c2,c3,c4,c5,c6⟩:=jV HK2.o;go_wp2_with fail
      clear c0 c1 c2 c3 c4 c5 c6;refine(HO.o _).mono ?_;rintro e w3 ⟨rfl,hb3⟩;have B3:=ι (B2.o.trans (hb3.mono B2.o.size));have HK3:=ι (xD HK2.o hb3 (xH HK2.o));clear hb3 HO HK2 B2;go_wp2_with fail
      refine(HPU.o _).mono ?_;rintro e w4 ⟨rfl,hb4⟩;have B4:=ι (B3.o.trans (hb4.mono B3.o.size));have HK4:=ι (xD HK3.o hb4 (xH HK3.o));clear hb4 HPU HK3 B3;obtain⟨c0,c1,c2,c3,c4⟩:=xTn HK4.o;go_wp2_with fail
      clear c0 c1 c2 c3 c4;refine(HM.o _).mono ?_;rintro e w5 ⟨rfl,hb5⟩;have B5:=ι (B4.o.trans (hb5.mono B4.o.size));have HK5:=ι (xD HK4.o hb5 (xH HK4.o));clear hb5 HM HK4 B4;obtain⟨c0,c1,c2,c3,c4,c5,c6,c7⟩:=xH1 HK5.o;go_wp2_with fail
      clear c0 c1 c2 c3 c4 c5 c6 c7;refine(HOK.o _ (HT.o _ B5.o)).mono ?_;rintro e w6 ⟨rfl,hb6⟩;have B6:=ι (B5.o.trans (hb6.mono B5.o.size));have HK6:=ι (xD HK5.o hb6 (xH HK5.o));clear hb6 HOK HK5 B5;obtain⟨c0,c1,c2,c3,c4,c5,c6,c7⟩:=xH1 HK6.o;go_wp2_with fail
      clear c0 c1 c2 c3 c4 c5 c6 c7;refine(HOP.o _).mono ?_;rintro e w7 ⟨rfl,hb7⟩;have B7:=ι (B6.o.trans (hb7.mono B6.o.size));clear hb7 HOP B6 HK6;have B8:=ι (B7.o.alloc B7.o.size (.cells #[.string xL,.string old] 9));have hk8:=xM w7 (.cells #[.string xL,.string old] 9)
      have HK8:=ι (And.intro (xA hk8 0) (xA hk8 1));clear hk8;go_wp2;go_ret2;refine⟨_,rfl,⟨_,_,rfl,Nat.le_refl _,λ_=>⟨_,_,rfl,σ,λj x hx=>?_⟩⟩,B8.o⟩
      have hj:j=0∨j=1:=by
       have:=(List.getElem?_eq_some_iff.1 hx).1;simp at this;omega
      rcases hj with rfl|rfl
      ·injection hx with hx;subst hx;exact HK8.o.1
      ·injection hx with hx;subst hx;exact HK8.o.2
end Go.Proofs.SH
namespace Go.Proofs.IM
open Go.RowKit MM BU Mailsack SV RK DS IX Go.Proofs.VA
theorem xUr (T:List Tok) (v:Value) (w:World) (h:RdR 2 tkF w w.heap.size v T) (h0:∀t∈T,t.1=0) (hn:T.length<=100) (hp:0<T.length):
  Calls prog 205 #[v,.int .i64 (T.length:Nat)] w λe w'=>∃A9 c9 A c,e=.returned (.tuple #[.slice A9 T.length c9,.slice A 0 c,.bool true])/\zI 9 1 txF w' w.heap.size (.slice A9 T.length c9) (T.map (·.2))/\ψ w w':=by
 have H0:=ι h0;obtain⟨A,c,rfl,hc,h3⟩:=h;obtain⟨g,off,rfl,hg,hcs⟩:=h3 hp;have HC:=ι (And.intro hg hcs);obtain⟨n,hn9⟩:∃n,T.length=n:=⟨_,rfl⟩;have HN:=ι hn9;rw[hn9] at hc hn hp⊢
 have HX:Hid (zI 9 1 txF w w.heap.size (.slice none 0 0) ((T.map (·.2)).take 0)/\ψ w w):=ι ⟨zI.nil _ _,Below.refl _ _⟩;clear h3 hg h0 hn9 hcs;go_enter func205,ntmps205;go_wp2_with fail
 go_loopw [7,18] (λtv iv wr=>∃k:Nat,k<=n/\iv=.int .i64 k/\Hid (zI 9 1 txF wr w.heap.size tv ((T.map (·.2)).take k)/\ψ w wr)) (λ_ iv _=>n- (intOf iv).toNat)
 case atStart=>exact⟨0,Nat.zero_le _,rfl,HX⟩
 case round=>
  obtain⟨k,hk,rfl,HI⟩:=hrel;clear HX
  by_cases hlt:k<n
  ·obtain⟨x,hx⟩:∃x,T[k]?=some x:=⟨_,List.getElem?_eq_getElem (by rw[HN.o];exact hlt)⟩;have hx0:=H0.o x (List.mem_of_getElem? hx);obtain⟨x1,xs⟩:=x;simp only at hx0;subst hx0;have q0:=(HI.o.2.cell (p:=⟨g,off+k*2+0,none⟩) HC.o.1).trans (HC.o.2 k _ hx 0 _ rfl)
   have q1:=(HI.o.2.cell (p:=⟨g,off+k*2+1,none⟩) HC.o.1).trans (HC.o.2 k _ hx 1 _ rfl);rw[Nat.add_zero] at q0;have HS:Hid ((T.map (·.2)).take (k+1)=(T.map (·.2)).take k++[xs]):=ι (by rw[List.take_add_one,List.getElem?_map,hx];rfl)
   have HTL:Hid (((T.map (·.2)).take k).length=k):=ι (by rw[List.length_take,List.length_map,HN.o];omega);have HA:=ι (And.intro (HI.o.1.alloc (.cells #[.int .i64 0,xR xs] 121)) (HI.o.2.alloc HI.o.2.size (.cells #[.int .i64 0,xR xs] 121)))
   have hbx:=xM wr (.cells #[.int .i64 0,xR xs] 121);obtain⟨x0,x1⟩:=zG hbx;generalize (T.map (·.2)).take k=L at HI HS HTL HA;clear hx hbx HI;go_upto_region 7 with fail
   clear q0 q1;generalize wr.alloc (.cells #[.int .i64 0,xR xs] 121)=w3 at HA x0 x1⊢
   have HAD:Hid (∀v8 w8,xKt 9 1 txF (w3.alloc (.cells #[xR xs] 9)) w8 w.heap.size u7 v8 (L++[xs])->Hid (zI 9 1 txF w8 w.heap.size v8 ((T.map (·.2)).take (k+1))/\ψ w w8)):=ι λv8 w8 h8=>ι ⟨by rw[HS.o];exact h8.own,h8.bel (HA.o.1.alloc _) ν (HA.o.2.alloc HA.o.2.size _) (by have:=HA.o.2.size;simp;omega)⟩
   have hsz:=HA.o.2.size;go_wp2_with (at_builtin;refine vL tyTx rfl _ _ rfl rfl rfl (HA.o.1.alloc _) (RdR.lit (m:=[xs]) xFj _ _ rfl) (by have:=HTL.o;simp;omega) (by simp;omega) ?_;intro v8 w8 h8;have HA8:=HAD.o _ _ h8;clear h8)
   exact⟨⟨k+1,ω,by go_num,HA8⟩,by simp[intOf];omega⟩
  ·obtain rfl:k=n:=ω;have HO:Hid (zI 9 1 txF wr w.heap.size u7 (T.map (·.2))/\ψ w wr):=ι ⟨by have:=HI.o.1;rwa [List.take_of_length_le (by rw[List.length_map,HN.o];exact Nat.le_refl _)] at this,HI.o.2⟩;obtain⟨A9,c9,hu7,_⟩:=HO.o.1.form;rw[List.length_map,HN.o] at hu7;subst hu7
   clear HI hlt hk
   by_cases hcn:c=k
   ·subst hcn;go_upto_region 11 with fail
    refine RG.xQ (λW=>Hid (ψ wr W)) κ κ (ι (Below.refl _ _).drew) ?_;iterate 7 refine RG.dS ?_
    refine RG.xS (λw9 hw9=>?_);go_wp2;go_ret3;exact⟨_,_,_,_,rfl,HO.o.1.below hw9.o,HO.o.2.trans (hw9.o.mono HO.o.2.size)⟩
   ·have hlt:k<c:=ω;go_upto_region 11 with fail
    refine RG.xQ (λW=>Hid (ψ wr W)) κ κ (ι (Below.refl _ _).drew) ?_;iterate 7 refine RG.dS ?_
    refine RG.xS (λw9 hw9=>?_);go_wp2;go_ret3;exact⟨_,_,_,_,rfl,HO.o.1.below hw9.o,HO.o.2.trans (hw9.o.mono HO.o.2.size)⟩
theorem xMk (T:List Tok) (v:Value) (w:World) (h:RdR 2 tkF w w.heap.size v T) (h0:∀t∈T,t.1=0) (hn:T.length<=100) (hp:0<T.length):
  Calls prog 191 #[v,.int .i64 (T.length:Nat)] w λe w'=>∃A9 c9,e=.returned (.tuple #[.slice A9 T.length c9,.bool true])/\zI 9 1 txF w' w.heap.size (.slice A9 T.length c9) (T.map (·.2))/\ψ w w':=by
 have HT:=ι (xUr T v w h h0 hn hp);clear h h0 hn hp;go_enter func191,ntmps191;go_wp2_with fail
 refine HT.o.mono ?_;rintro e w1 ⟨A9,c9,A,c,rfl,ho,hb⟩;have HO:=ι (And.intro ho hb);clear ho hb;go_wp2;go_ret2;exact⟨_,_,rfl,HO.o⟩
end Go.Proofs.IM
namespace Go.Proofs.CJ
open Go.RowKit MM SV
structure CaD (ρ:Type) where
 c:Nat
 k:Nat
 E:Nat
 P:Nat
 S:Nat
 tup:ρ->Value
 x:Nat->ρ->List Value
 z:Nat->List Value
 T:Nat->TypeId
 At:ρ->World->Prop
 h1:c+1<E
 h2:E+k<=P
 h3:P+k<=S
structure CaD.Ok {ρ:Type} (C:CaD ρ):Prop where
 below:∀{R:ρ} {W W':World},C.At R W->ψ W W'->C.At R W'
 put:∀{R:ρ} {W:World} {g j:Nat},j<C.k->C.At R W->W.heap[g]?=some (.cells (C.z j).toArray (C.T j) (0,0))->C.At R (xU g 0 (C.x j R) W)
 len:∀j R,j<C.k->(C.x j R).length=(C.z j).length
 T:∀i j,i<C.k->j<C.k->i≠j->C.T i≠C.T j
structure CaJ {ρ:Type} (C:CaD ρ) (w1:World) (L:Nat->Bool) (α:Nat->Value) (W:World):Prop where
 b:ψ w1 W
 c:L C.c=true->∃R,α C.c=C.tup R/\C.At R W/\(L (C.c+1)=true->α (C.c+1)=C.tup R)/\∀j,j<C.k->(L (C.E+j)=true->α (C.E+j)=.agg (C.x j R).toArray)/\(L (C.S+j)=true->∃g,α (C.P+j)=.pointer (some ⟨g,0,none⟩)/\W.heap[g]?=some (.cells (C.x j R).toArray (C.T j) (0,0)))
 f:∀j,j<C.k->L (C.S+j)=true->L C.c=true/\L (C.P+j)=true
 n:∀j,j<C.k->L (C.P+j)=true->∃g,α (C.P+j)=.pointer (some ⟨g,0,none⟩)/\w1.heap.size<=g/\(L (C.S+j)=false->W.heap[g]?=some (.cells (C.z j).toArray (C.T j) (0,0)))
section
variable {ρ:Type} {C:CaD ρ} {w1:World} {L L':Nat->Bool} {α α':Nat->Value} {W W':World}
theorem CaJ.start (w1:World) (α:Nat->Value):CaJ C w1 (λ_=>false) α w1.drew:=⟨(Below.refl _ _).drew,λe=>(by cases e),λ_ _ e=>(by cases e),λ_ _ e=>(by cases e)⟩
theorem CaJ.congr (h:CaJ C w1 L α W) (hl:∀i,i=C.c∨i=C.c+1∨(C.E<=i/\i<C.E+C.k)∨(C.P<=i/\i<C.P+C.k)∨(C.S<=i/\i<C.S+C.k)->L i=L' i) (ha:∀i,i=C.c∨i=C.c+1∨(C.E<=i/\i<C.E+C.k)∨(C.P<=i/\i<C.P+C.k)->L i=true->α i=α' i):CaJ C w1 L' α' W:=by
 refine⟨h.b,λe=>?_,λj hj e=>?_,λj hj e=>?_⟩
 ·have e1:=(hl C.c σ).trans e;obtain⟨R,h1,h2,h3,h4⟩:=h.c e1;refine⟨R,(ha _ σ e1)▸h1,h2,λe=>?_,λj hj=>⟨λe=>?_,λe=>?_⟩⟩
  ·have e2:=(hl (C.c+1) σ).trans e;exact(ha _ σ e2)▸h3 e2
  ·have e2:=(hl (C.E+j) ω).trans e;exact(ha _ ω e2)▸(h4 j hj).1 e2
  ·have e2:=(hl (C.S+j) ω).trans e;obtain⟨g,g1,g2⟩:=(h4 j hj).2 e2;exact⟨g,(ha (C.P+j) ω (h.f j hj e2).2)▸g1,g2⟩
 ·rw[<-hl C.c σ,<-hl (C.P+j) ω];exact h.f j hj ((hl (C.S+j) ω).trans e)
 ·have e2:=(hl (C.P+j) ω).trans e;obtain⟨g,g1,g2,g3⟩:=h.n j hj e2;exact⟨g,(ha (C.P+j) ω e2)▸g1,g2,λe=>g3 ((hl (C.S+j) ω).trans e)⟩
theorem yG {L:Nat->Bool} {i j:Nat} (h:j≠i) {b:Bool}:((j==i||L j)=b)=(L j=b):=by rw[show(j==i)=false from by simpa using h,Bool.false_or]
theorem CaJ.call (h:CaJ C w1 L α W) (hm:L (C.c+1)=false) (he:∀j,j<C.k->L (C.E+j)=false) (hs:∀j,j<C.k->L (C.S+j)=false) (hb:ψ W W') {R:ρ} (hR:C.At R W'):CaJ C w1 (λj=>j==C.c||L j) (RG.wO α C.c (C.tup R)) W':=by
 have a1:=C.h1;have a2:=C.h2;have a3:=C.h3;refine⟨h.b.trans (hb.mono h.b.size),λ_=>⟨R,RG.uV _ _ _,hR,λe=>?_,λj hj=>⟨λe=>?_,λe=>?_⟩⟩,λj hj e=>?_,λj hj e=>?_⟩
 ·rw[yG ω,hm] at e;cases e
 ·rw[yG ω,he j hj] at e;cases e
 ·rw[yG ω,hs j hj] at e;cases e
 ·rw[yG ω,hs j hj] at e;cases e
 ·rw[yG ω] at e;obtain⟨g,g1,g2,g3⟩:=h.n j hj e;exact⟨g,by rw[RG.zS _ _ _ ω];exact g1,g2,λ_=>xD (g3 (hs j hj)) hb (xH (g3 (hs j hj)))⟩
theorem CaJ.move (h:CaJ C w1 L α W) (hc:L C.c=true):∃R,α C.c=C.tup R/\CaJ C w1 (λi=>i==C.c+1||L i) (RG.wO α (C.c+1) (C.tup R)) W:=by
 have a1:=C.h1;have a2:=C.h2;have a3:=C.h3;obtain⟨R,h1,h2,h3,h4⟩:=h.c hc;refine⟨R,h1,h.b,λ_=>⟨R,by rw[RG.zS _ _ _ ω];exact h1,h2,λ_=>RG.uV _ _ _,λj hj=>⟨λe=>?_,λe=>?_⟩⟩,λj hj e=>?_,λj hj e=>?_⟩
 ·rw[yG ω] at e;rw[RG.zS _ _ _ ω];exact(h4 j hj).1 e
 ·rw[yG ω] at e;rw[RG.zS _ _ _ ω];exact(h4 j hj).2 e
 ·rw[yG ω] at e;have:=h.f j hj e;exact⟨by rw[yG ω];exact this.1,by rw[yG ω];exact this.2⟩
 ·rw[yG ω] at e;obtain⟨g,g1,g2,g3⟩:=h.n j hj e;exact⟨g,by rw[RG.zS _ _ _ ω];exact g1,g2,λe=>g3 (by rw[yG ω] at e;exact e)⟩
theorem CaJ.take (h:CaJ C w1 L α W) (hc:L C.c=true) (hm:L (C.c+1)=true):∃R,α (C.c+1)=C.tup R/\∀i j,j<C.k->i=C.E+j->CaJ C w1 (λn=>n==i||L n) (RG.wO α i (.agg (C.x j R).toArray)) W:=by
 have a1:=C.h1;have a2:=C.h2;have a3:=C.h3;obtain⟨R,h1,h2,h3,h4⟩:=h.c hc;refine⟨R,h3 hm,λi j hj hi=>?_⟩;subst hi;refine⟨h.b,λ_=>⟨R,by rw[RG.zS _ _ _ ω];exact h1,h2,λ_=>by rw[RG.zS _ _ _ ω];exact h3 hm,λi hi=>⟨λe=>?_,λe=>?_⟩⟩,λi hi e=>?_,λi hi e=>?_⟩
 ·by_cases e2:i=j
  ·subst e2;exact RG.uV _ _ _
  ·rw[yG ω] at e;rw[RG.zS _ _ _ ω];exact(h4 i hi).1 e
 ·rw[yG ω] at e;rw[RG.zS _ _ _ ω];exact(h4 i hi).2 e
 ·rw[yG ω] at e;have:=h.f i hi e;exact⟨by rw[yG ω];exact this.1,by rw[yG ω];exact this.2⟩
 ·rw[yG ω] at e;obtain⟨g,g1,g2,g3⟩:=h.n i hi e;exact⟨g,by rw[RG.zS _ _ _ ω];exact g1,g2,λe=>g3 (by rw[yG ω] at e;exact e)⟩
theorem CaJ.new (h:CaJ C w1 L α W) (hO:C.Ok) {i j:Nat} (hj:j<C.k) (hi:i=C.P+j) (hs:L (C.S+j)=false):CaJ C w1 (λn=>n==i||L n) (RG.wO α i (.pointer (some ⟨W.heap.size,0,none⟩))) (W.alloc (.cells (C.z j).toArray (C.T j))):=by
 have a1:=C.h1;have a2:=C.h2;have a3:=C.h3;have ha:=φ W (.cells (C.z j).toArray (C.T j));subst hi;refine⟨h.b.alloc h.b.size _,λe=>?_,λi hi e=>?_,λi hi e=>?_⟩
 ·rw[yG ω] at e;obtain⟨R,h1,h2,h3,h4⟩:=h.c e;refine⟨R,by rw[RG.zS _ _ _ ω];exact h1,hO.below h2 ha,λe=>?_,λi hi=>⟨λe=>?_,λe=>?_⟩⟩
  ·rw[yG ω] at e;rw[RG.zS _ _ _ ω];exact h3 e
  ·rw[yG ω] at e;rw[RG.zS _ _ _ ω];exact(h4 i hi).1 e
  ·rw[yG ω] at e
   by_cases e2:i=j
   ·subst e2;rw[hs] at e;cases e
   ·obtain⟨g,g1,g2⟩:=(h4 i hi).2 e;exact⟨g,by rw[RG.zS _ _ _ ω];exact g1,xO g2 _⟩
 ·rw[yG ω] at e;have:=h.f i hi e;exact⟨by rw[yG ω];exact this.1,by simp[this.2]⟩
 ·by_cases e2:i=j
  ·subst e2;exact⟨W.heap.size,RG.uV _ _ _,h.b.size,λ_=>xM _ _⟩
  ·rw[yG ω] at e;obtain⟨g,g1,g2,g3⟩:=h.n i hi e;exact⟨g,by rw[RG.zS _ _ _ ω];exact g1,g2,λe=>xO (g3 (by rw[yG ω] at e;exact e)) _⟩
theorem CaJ.set (h:CaJ C w1 L α W) (hO:C.Ok) {i j:Nat} (hj:j<C.k) (hi:i=C.S+j) (h0:L i=false) (hc:L C.c=true) (hv:L (C.E+j)=true) (hp:L (C.P+j)=true):
  ∃R g,α (C.E+j)=.agg (C.x j R).toArray/\α (C.P+j)=.pointer (some ⟨g,0,none⟩)/\W.heap[g]?=some (.cells (C.z j).toArray (C.T j) (0,0))/\w1.heap.size<=g/\CaJ C w1 (λn=>n==i||L n) α (xU g 0 (C.x j R) W):=by
 have a1:=C.h1;have a2:=C.h2;have a3:=C.h3;subst hi;obtain⟨R,h1,h2,h3,h4⟩:=h.c hc;obtain⟨g,g1,g2,g3⟩:=h.n j hj hp;have hg:=g3 h0;have hs:=uI (b:=g) (l:=C.x j R) hg (by rw[hO.len j R hj];simp)
 have hfar:∀{i:Nat} {g':Nat} {cs:Array Value},i<C.k->i≠j->W.heap[g']?=some (.cells cs (C.T i) (0,0))->g'≠g:=λ{i g' cs} hi hne hx e=>by
  rw[e,hg] at hx;injection hx with hx;injection hx with _ hx _;exact hO.T j i hj hi (Ne.symm hne) hx
 refine⟨R,g,(h4 j hj).1 hv,g1,hg,g2,yZ g2 _ 0 _ h.b,λ_=>⟨R,h1,hO.put hj h2 hg,λe=>?_,λi hi=>⟨λe=>?_,λe=>?_⟩⟩,λi hi e=>?_,λi hi e=>?_⟩
 ·rw[yG ω] at e;exact h3 e
 ·rw[yG ω] at e;exact(h4 i hi).1 e
 ·by_cases e2:i=j
  ·subst e2;exact⟨g,g1,hs⟩
  ·rw[yG ω] at e;obtain⟨g',k1,k2⟩:=(h4 i hi).2 e;exact⟨g',k1,yX (hfar hi e2 k2) _ 0 _ k2⟩
 ·by_cases e2:i=j
  ·subst e2;exact⟨by simp[hc],by simp[hp]⟩
  ·rw[yG ω] at e;have:=h.f i hi e;exact⟨by simp[this.1],by simp[this.2]⟩
 ·rw[yG ω] at e;obtain⟨g',k1,k2,k3⟩:=h.n i hi e;refine⟨g',k1,k2,λe=>?_⟩
  by_cases e2:i=j
  ·subst e2;simp at e
  ·rw[yG ω] at e;exact yX (hfar hi e2 (k3 e)) _ 0 _ (k3 e)
theorem CaJ.done (h:CaJ C w1 (λ_=>true) α W):∃R,α C.c=C.tup R/\C.At R W/\α (C.c+1)=C.tup R/\∀j,j<C.k->α (C.E+j)=.agg (C.x j R).toArray/\∃g,α (C.P+j)=.pointer (some ⟨g,0,none⟩)/\w1.heap.size<=g/\W.heap[g]?=some (.cells (C.x j R).toArray (C.T j) (0,0)):=by
 obtain⟨R,h1,h2,h3,h4⟩:=h.c rfl;refine⟨R,h1,h2,h3 rfl,λj hj=>⟨(h4 j hj).1 rfl,?_⟩⟩;obtain⟨g,g1,g2⟩:=(h4 j hj).2 rfl;obtain⟨g',k1,k2,_⟩:=h.n j hj rfl;rw[g1] at k1;injection k1 with k1;injection k1 with k1;injection k1 with k1;subst k1;exact⟨g,g1,k2,g2⟩
end
end Go.Proofs.CJ
namespace Mailsack
def oldW (k0 xE pb:ByteArray):Option ByteArray->ByteArray
 |none=>⟨#[]⟩
 |some k=>rD (vM k0) xE pb k
def xR1 (u pb:ByteArray) (ep:Int) (pw xI xE:ByteArray) (r:Nat) (k0:ByteArray) (k1:Option ByteArray):zU:=
 ⟨u,xI,r,ep,pb,xE,rD (xCq pw xI r) xE (u++pb) k0,oldW k0 xE pb k1⟩
end Mailsack
namespace Go.Proofs.SH
open Go.RowKit Mailsack MM BB SV
theorem two_at {w:World} {B:Nat} {v:Value} {x y:List UInt8} {l:List (List UInt8)} (h:RdS w B v (x::y::l)):∃b off c,v=.slice (some ⟨b,off,none⟩) (l.length+2) c/\b<B/\w.cell? ⟨b,off,none⟩=some (xR x)/\w.cell? ⟨b,off+1,none⟩=some (xR y):=by
 obtain⟨A,c,h1,h2,h3⟩:=h;obtain⟨b,off,rfl,h4,h5⟩:=h3 σ;exact⟨b,off,c,h1,h4,h5 0 x rfl,h5 1 y rfl⟩
theorem xOw (u o1:ByteArray) (o2 ep:Int) (pb o5 o6 o7 pw xI xE xL k0:ByteArray) (k1:Option ByteArray) (r:Nat) (kv:Value) (w:World) (hr1:1<=r) (hr2:r<=64) (hn:xE.size=12) (hs:xI.size<=1000) (hu:u.size<=1000) (hpb:pb.size<=1000) (hk0:k0.size<=1000) (hk1:∀k,k1=some k->k.size<=1000) (hpw:pw.size<=1000) (hT:vT w)
  (hk:RdS w w.heap.size kv (k0.data.toList::k1.toList.map (·.data.toList))):
  Calls prog 88 #[.agg #[.string u,.string o1,.int .i64 o2,.int .i64 ep,.string pb,.string o5,.string o6,.string o7],.string pw,xAb xI xE xL r,kv] w λe w'=>
   e=.returned (.tuple #[vH (xR1 u pb ep pw xI xE r k0 k1),.int .i64 0])/\ψ w w':=by
 have HP:=ι (λW h=>xEe pw xI r W hr1 hr2 ω ω h);have hpz:=xI5 pw xI r;have HE:Hid (xR1 u pb ep pw xI xE r k0 k1=⟨u,xI,r,ep,pb,xE,rD (xCq pw xI r) xE (u++pb) k0,oldW k0 xE pb k1⟩):=ι rfl;generalize xCq pw xI r=key at HP hpz HE
 have HS:=ι (λW=>xJ4 key xE (u++pb) k0 W hpz hn (by rw[ByteArray.size_append];omega) ω);generalize rD key xE (u++pb) k0=wr at HS HE;have HT:=ι (λW (h:ψ w W)=>hT.below h ν);have nb:¬(9223372036854775807<u.size+pb.size):=ω;obtain⟨rr,hrr⟩:∃rr:Int,(r:Int)=rr:=⟨_,rfl⟩;have HRR:=ι hrr
 rw[hrr] at HP⊢
 have HI:Hid (AcM w u (.string o1) (.int .i64 o2) ep pb (.string o5) (.string o6) (.string o7) xI xE xL rr (((w.alloc (.cells #[.string u,.string o1,.int .i64 o2,.int .i64 ep,.string pb,.string o5,.string o6,.string o7] 97)).alloc (uU xI xE xL rr)).alloc (yI zT))):=ι (by
  refine⟨xO (zV w _ _) _,xO (zK w _ _) _,?_,?_⟩
  ·have:=xM ((w.alloc (.cells #[.string u,.string o1,.int .i64 o2,.int .i64 ep,.string pb,.string o5,.string o6,.string o7] 97)).alloc (uU xI xE xL rr)) (yI zT);simpa using this
  ·exact((φ w _).alloc σ _).alloc (by simp;omega) _)
 cases k1 with
 |none=>
  obtain⟨kb,ko,kc,rfl,hkb,hkc⟩:=yBk hk;have HK:=ι (λW (h:ψ w W)=>(h.cell (p:=⟨kb,ko,none⟩) hkb).trans hkc);clear hk hkc hkb hT hpw hu hpb hk0 hs hn hpz hrr hr1 hr2 hk1;simp only[Option.toList_none,List.map_nil,List.length_nil,Nat.zero_add];go_enter func88,ntmps88
  go_upto_region 1 with fail
  refine RG.yD 14 (λL W=>Hid (AcM w u (if L 7 then .string xI else .string o1) (if L 11 then .int .i64 rr else .int .i64 o2) ep pb (if L 9 then .string xE else .string o5) (.string o6) (if L 13 then .string ⟨#[]⟩ else .string o7) xI xE xL rr W)) (λL L' W h hI=>by rw[<-h 7 δ,<-h 9 δ,<-h 11 δ,<-h 13 δ];exact hI) κ κ rfl (ι HI.o.drew) ?_
  clear HI;refine RG.cS ?_;refine RG.cF (λL w9 h0 hcl xK hw9=>xKb hw9.o.f) ?_;refine RG.cS ?_;apply RG.xN
  ·rfl
  ·rfl
  ·intro L w9 h0 hcl xK hw9;have q:=xA hw9.o.f 1;simp only[gA,gB,gC] at q;repeat go_step
   refine RG.xC ?_;exact⟨xK,hw9⟩
  ·rfl
  refine RG.cS ?_;apply RG.xN
  ·rfl
  ·rfl
  ·intro L w9 h0 hcl xK hw9;have q:=xA hw9.o.f 3;simp only[gA,gB,gC] at q;repeat go_step
   refine RG.xC ?_;exact⟨xK,hw9⟩
  ·rfl
  refine RG.cS ?_;apply RG.xN
  ·rfl
  ·rfl
  ·intro L w9 h0 hcl xK hw9;have hs9:=hw9.o;rw[h0,if_neg (c:=false=true) σ] at hs9;have q:=xA hs9.a 1;have f:=xB hs9.a 1;simp only[gA,gB,gC] at q;have hp:=ι (hs9.set1 (.string xI));clear hs9;repeat go_step
   refine RG.xC ?_;refine⟨xK,?_⟩;show Hid (AcM w u (if (true:Bool)=true then .string xI else .string o1) (if L 11 then .int .i64 rr else .int .i64 o2) ep pb (if L 9 then .string xE else .string o5) (.string o6) (if L 13 then .string ⟨#[]⟩ else .string o7) xI xE xL rr _)
   rw[if_pos rfl];with_reducible exact hp
  ·rfl
  refine RG.cS ?_;apply RG.xN
  ·rfl
  ·rfl
  ·intro L w9 h0 hcl xK hw9;have hs9:=hw9.o;rw[h0,if_neg (c:=false=true) σ] at hs9;have q:=xA hs9.a 5;have f:=xB hs9.a 5;simp only[gA,gB,gC] at q;have hp:=ι (hs9.set5 (.string xE));clear hs9;repeat go_step
   refine RG.xC ?_;refine⟨xK,?_⟩;show Hid (AcM w u (if L 7 then .string xI else .string o1) (if L 11 then .int .i64 rr else .int .i64 o2) ep pb (if (true:Bool)=true then .string xE else .string o5) (.string o6) (if L 13 then .string ⟨#[]⟩ else .string o7) xI xE xL rr _)
   rw[if_pos rfl];with_reducible exact hp
  ·rfl
  refine RG.cS ?_;apply RG.xN
  ·rfl
  ·rfl
  ·intro L w9 h0 hcl xK hw9;have hs9:=hw9.o;rw[h0,if_neg (c:=false=true) σ] at hs9;have q:=xA hs9.a 2;have f:=xB hs9.a 2;simp only[gA,gB,gC] at q;have hp:=ι (hs9.set2 (.int .i64 rr));clear hs9;repeat go_step
   refine RG.xC ?_;refine⟨xK,?_⟩;show Hid (AcM w u (if L 7 then .string xI else .string o1) (if (true:Bool)=true then .int .i64 rr else .int .i64 o2) ep pb (if L 9 then .string xE else .string o5) (.string o6) (if L 13 then .string ⟨#[]⟩ else .string o7) xI xE xL rr _)
   rw[if_pos rfl];with_reducible exact hp
  ·rfl
  refine RG.cS ?_;apply RG.xN
  ·rfl
  ·rfl
  ·intro L w9 h0 hcl xK hw9;have hs9:=hw9.o;rw[h0,if_neg (c:=false=true) σ] at hs9;have q:=xA hs9.a 7;have f:=xB hs9.a 7;simp only[gA,gB,gC] at q;have hp:=ι (hs9.set7 (.string ⟨#[]⟩));clear hs9;repeat go_step
   refine RG.xC ?_;refine⟨xK,?_⟩;show Hid (AcM w u (if L 7 then .string xI else .string o1) (if L 11 then .int .i64 rr else .int .i64 o2) ep pb (if L 9 then .string xE else .string o5) (.string o6) (if (true:Bool)=true then .string ⟨#[]⟩ else .string o7) xI xE xL rr _)
   rw[if_pos rfl];with_reducible exact hp
  ·rfl
  refine RG.xZ (λw2 hw2=>?_);rw[if_pos rfl,if_pos rfl,if_pos rfl,if_pos rfl] at hw2;have c1:=xA hw2.o.a 1;have c2:=xA hw2.o.a 2;simp only[gA,gB,gC] at c1 c2;go_wp2_with fail
  refine(HP.o _ (HT.o _ hw2.o.bel)).mono ?_;rintro e w3 ⟨rfl,hb3⟩;have H3:=ι (hw2.o.below hb3);clear hb3 hw2 HP c1 c2;go_upto_region 5 with fail
  refine RG.yD 18 (λL W=>Hid (AcM w u (.string xI) (.int .i64 rr) ep pb (.string xE) (if L 16 then .string wr else .string o6) (.string ⟨#[]⟩) xI xE xL rr W)) (λL L' W h hI=>by rw[<-h 16 δ];exact hI) κ κ rfl (ι H3.o.drew) ?_;clear H3;iterate 2 refine RG.cS ?_
  apply RG.xN
  ·rfl
  ·rfl
  ·intro L w9 h0 hcl xK hw9;have q:=xA hw9.o.a 5;simp only[gA,gB,gC] at q;repeat go_step
   refine RG.xC ?_;exact⟨xK,hw9⟩
  ·rfl
  refine RG.cS ?_;refine RG.cF (λL w9 h0 hcl xK hw9=>xKb hw9.o.a) ?_;refine RG.cS ?_;apply RG.xN
  ·rfl
  ·rfl
  ·intro L w9 h0 hcl xK hw9;have q:=xA hw9.o.a 4;simp only[gA,gB,gC] at q;repeat go_step
   refine RG.xC ?_;exact⟨xK,hw9⟩
  ·rfl
  iterate 3 refine RG.cS ?_
  refine RG.cF (λL w9 h0 hcl xK hw9=>HK.o _ hw9.o.bel) ?_;apply RG.xN
  ·rfl
  ·rfl
  ·intro L w9 h0 hcl xK hw9;repeat go_step
   refine(HS.o _).mono ?_;rintro e w10 ⟨rfl,zF⟩;simp only[];repeat go_step
   refine RG.xC ?_;exact⟨xK,ι (hw9.o.below zF)⟩
  ·rfl
  iterate 4 refine RG.cS ?_
  apply RG.xN
  ·rfl
  ·rfl
  ·intro L w9 h0 hcl xK hw9;have hs9:=hw9.o;rw[h0,if_neg (c:=false=true) σ] at hs9;have q:=xA hs9.a 6;have f:=xB hs9.a 6;simp only[gA,gB,gC] at q;have hp:=ι (hs9.set6 (.string wr));clear hs9;repeat go_step
   refine RG.xC ?_;refine⟨xK,?_⟩;show Hid (AcM w u (.string xI) (.int .i64 rr) ep pb (.string xE) (if (true:Bool)=true then .string wr else .string o6) (.string ⟨#[]⟩) xI xE xL rr _);rw[if_pos rfl];with_reducible exact hp
  ·rfl
  refine RG.cS ?_;refine RG.xZ (λw5 hw5=>?_);rw[if_pos rfl] at hw5;clear HS HT HK;obtain⟨a0,a1,a2,a3,a4,a5,a6,a7⟩:=xH1 hw5.o.a
  obtain⟨o0,y0,f0,o1,y1,f1,o2,y2,f2,o3,y3,f3,o4,y4,f4,o5,y5,f5,o6,y6,f6,o7,y7,f7,HB⟩:=xKm hw5.o.o hw5.o.bel ω (.string u) (.string xI) (.int .i64 rr) (.int .i64 ep) (.string pb) (.string xE) (.string wr) (.string ⟨#[]⟩) _ rfl;clear hw5;go_wp2_with fail
  refine bodyPost_ret (v:=.tuple #[.agg #[.string u,.string xI,.int .i64 rr,.int .i64 ep,.string pb,.string xE,.string wr,.string ⟨#[]⟩],.int .i64 0]) (by simp[results,results88,go_sem,f0,f1,f2,f3,f4,f5,f6,f7]) rfl ?_;rw[HE.o,HRR.o];exact⟨rfl,HB.o⟩
 |some k1=>
  obtain⟨kb,ko,kc,rfl,hkb,hkc,hkd⟩:=two_at hk;have HK:=ι (λW (h:ψ w W)=>(h.cell (p:=⟨kb,ko,none⟩) hkb).trans hkc);have HK1:=ι (λW (h:ψ w W)=>(h.cell (p:=⟨kb,ko+1,none⟩) hkb).trans hkd);have HOK:=ι (λW (hb:ψ w W)=>xI6 k0 W ω (hT.below hb ν))
  have HS1:=ι (λW=>xJ4 (vM k0) xE pb k1 W (xEf k0) hn ω (by have:=hk1 k1 rfl;omega));have HOW:Hid (oldW k0 xE pb (some k1)=rD (vM k0) xE pb k1):=ι rfl;rw[HOW.o] at HE;generalize vM k0=ok at HOK HS1 HE;generalize rD ok xE pb k1=ow at HS1 HE
  clear hk hkc hkd hkb hT hpw hu hpb hk0 hs hn hpz hrr hr1 hr2 hk1 HOW;simp only[List.map_nil,List.length_nil,Nat.zero_add];go_enter func88,ntmps88;go_upto_region 1 with fail
  refine RG.yD 14 (λL W=>Hid (AcM w u (if L 7 then .string xI else .string o1) (if L 11 then .int .i64 rr else .int .i64 o2) ep pb (if L 9 then .string xE else .string o5) (.string o6) (if L 13 then .string ⟨#[]⟩ else .string o7) xI xE xL rr W)) (λL L' W h hI=>by rw[<-h 7 δ,<-h 9 δ,<-h 11 δ,<-h 13 δ];exact hI) κ κ rfl (ι HI.o.drew) ?_
  clear HI;refine RG.cS ?_;refine RG.cF (λL w9 h0 hcl xK hw9=>xKb hw9.o.f) ?_;refine RG.cS ?_;apply RG.xN
  ·rfl
  ·rfl
  ·intro L w9 h0 hcl xK hw9;have q:=xA hw9.o.f 1;simp only[gA,gB,gC] at q;repeat go_step
   refine RG.xC ?_;exact⟨xK,hw9⟩
  ·rfl
  refine RG.cS ?_;apply RG.xN
  ·rfl
  ·rfl
  ·intro L w9 h0 hcl xK hw9;have q:=xA hw9.o.f 3;simp only[gA,gB,gC] at q;repeat go_step
   refine RG.xC ?_;exact⟨xK,hw9⟩
  ·rfl
  refine RG.cS ?_;apply RG.xN
  ·rfl
  ·rfl
  ·intro L w9 h0 hcl xK hw9;have hs9:=hw9.o;rw[h0,if_neg (c:=false=true) σ] at hs9;have q:=xA hs9.a 1;have f:=xB hs9.a 1;simp only[gA,gB,gC] at q;have hp:=ι (hs9.set1 (.string xI));clear hs9;repeat go_step
   refine RG.xC ?_;refine⟨xK,?_⟩;show Hid (AcM w u (if (true:Bool)=true then .string xI else .string o1) (if L 11 then .int .i64 rr else .int .i64 o2) ep pb (if L 9 then .string xE else .string o5) (.string o6) (if L 13 then .string ⟨#[]⟩ else .string o7) xI xE xL rr _)
   rw[if_pos rfl];with_reducible exact hp
  ·rfl
  refine RG.cS ?_;apply RG.xN
  ·rfl
  ·rfl
  ·intro L w9 h0 hcl xK hw9;have hs9:=hw9.o;rw[h0,if_neg (c:=false=true) σ] at hs9;have q:=xA hs9.a 5;have f:=xB hs9.a 5;simp only[gA,gB,gC] at q;have hp:=ι (hs9.set5 (.string xE));clear hs9;repeat go_step
   refine RG.xC ?_;refine⟨xK,?_⟩;show Hid (AcM w u (if L 7 then .string xI else .string o1) (if L 11 then .int .i64 rr else .int .i64 o2) ep pb (if (true:Bool)=true then .string xE else .string o5) (.string o6) (if L 13 then .string ⟨#[]⟩ else .string o7) xI xE xL rr _)
   rw[if_pos rfl];with_reducible exact hp
  ·rfl
  refine RG.cS ?_;apply RG.xN
  ·rfl
  ·rfl
  ·intro L w9 h0 hcl xK hw9;have hs9:=hw9.o;rw[h0,if_neg (c:=false=true) σ] at hs9;have q:=xA hs9.a 2;have f:=xB hs9.a 2;simp only[gA,gB,gC] at q;have hp:=ι (hs9.set2 (.int .i64 rr));clear hs9;repeat go_step
   refine RG.xC ?_;refine⟨xK,?_⟩;show Hid (AcM w u (if L 7 then .string xI else .string o1) (if (true:Bool)=true then .int .i64 rr else .int .i64 o2) ep pb (if L 9 then .string xE else .string o5) (.string o6) (if L 13 then .string ⟨#[]⟩ else .string o7) xI xE xL rr _)
   rw[if_pos rfl];with_reducible exact hp
  ·rfl
  refine RG.cS ?_;apply RG.xN
  ·rfl
  ·rfl
  ·intro L w9 h0 hcl xK hw9;have hs9:=hw9.o;rw[h0,if_neg (c:=false=true) σ] at hs9;have q:=xA hs9.a 7;have f:=xB hs9.a 7;simp only[gA,gB,gC] at q;have hp:=ι (hs9.set7 (.string ⟨#[]⟩));clear hs9;repeat go_step
   refine RG.xC ?_;refine⟨xK,?_⟩;show Hid (AcM w u (if L 7 then .string xI else .string o1) (if L 11 then .int .i64 rr else .int .i64 o2) ep pb (if L 9 then .string xE else .string o5) (.string o6) (if (true:Bool)=true then .string ⟨#[]⟩ else .string o7) xI xE xL rr _)
   rw[if_pos rfl];with_reducible exact hp
  ·rfl
  refine RG.xZ (λw2 hw2=>?_);rw[if_pos rfl,if_pos rfl,if_pos rfl,if_pos rfl] at hw2;have c1:=xA hw2.o.a 1;have c2:=xA hw2.o.a 2;simp only[gA,gB,gC] at c1 c2;go_wp2_with fail
  refine(HP.o _ (HT.o _ hw2.o.bel)).mono ?_;rintro e w3 ⟨rfl,hb3⟩;have H3:=ι (hw2.o.below hb3);clear hb3 hw2 HP c1 c2;go_upto_region 5 with fail
  refine RG.yD 18 (λL W=>Hid (AcM w u (.string xI) (.int .i64 rr) ep pb (.string xE) (if L 16 then .string wr else .string o6) (.string ⟨#[]⟩) xI xE xL rr W)) (λL L' W h hI=>by rw[<-h 16 δ];exact hI) κ κ rfl (ι H3.o.drew) ?_;clear H3;iterate 2 refine RG.cS ?_
  apply RG.xN
  ·rfl
  ·rfl
  ·intro L w9 h0 hcl xK hw9;have q:=xA hw9.o.a 5;simp only[gA,gB,gC] at q;repeat go_step
   refine RG.xC ?_;exact⟨xK,hw9⟩
  ·rfl
  refine RG.cS ?_;refine RG.cF (λL w9 h0 hcl xK hw9=>xKb hw9.o.a) ?_;refine RG.cS ?_;apply RG.xN
  ·rfl
  ·rfl
  ·intro L w9 h0 hcl xK hw9;have q:=xA hw9.o.a 4;simp only[gA,gB,gC] at q;repeat go_step
   refine RG.xC ?_;exact⟨xK,hw9⟩
  ·rfl
  iterate 3 refine RG.cS ?_
  refine RG.cF (λL w9 h0 hcl xK hw9=>HK.o _ hw9.o.bel) ?_;apply RG.xN
  ·rfl
  ·rfl
  ·intro L w9 h0 hcl xK hw9;repeat go_step
   refine(HS.o _).mono ?_;rintro e w10 ⟨rfl,zF⟩;simp only[];repeat go_step
   refine RG.xC ?_;exact⟨xK,ι (hw9.o.below zF)⟩
  ·rfl
  iterate 4 refine RG.cS ?_
  apply RG.xN
  ·rfl
  ·rfl
  ·intro L w9 h0 hcl xK hw9;have hs9:=hw9.o;rw[h0,if_neg (c:=false=true) σ] at hs9;have q:=xA hs9.a 6;have f:=xB hs9.a 6;simp only[gA,gB,gC] at q;have hp:=ι (hs9.set6 (.string wr));clear hs9;repeat go_step
   refine RG.xC ?_;refine⟨xK,?_⟩;show Hid (AcM w u (.string xI) (.int .i64 rr) ep pb (.string xE) (if (true:Bool)=true then .string wr else .string o6) (.string ⟨#[]⟩) xI xE xL rr _);rw[if_pos rfl];with_reducible exact hp
  ·rfl
  refine RG.cS ?_;refine RG.xZ (λw5 hw5=>?_);rw[if_pos rfl] at hw5;have H5:=ι hw5.o;have q:=HK.o _ H5.o.bel;clear HS HT hw5;go_upto_region 10 with fail
  go_wp2_with fail
  refine(HOK.o _ H5.o.bel).mono ?_;rintro e w6 ⟨rfl,hb6⟩;have H6:=ι (H5.o.below hb6);clear hb6 H5 HOK q HK;go_upto_region 13 with fail
  refine RG.yD 15 (λL W=>Hid (AcM w u (.string xI) (.int .i64 rr) ep pb (.string xE) (.string wr) (if L 13 then .string ow else .string ⟨#[]⟩) xI xE xL rr W)) (λL L' W h hI=>by rw[<-h 13 δ];exact hI) κ κ rfl (ι H6.o.drew) ?_;clear H6;iterate 2 refine RG.cS ?_
  apply RG.xN
  ·rfl
  ·rfl
  ·intro L w9 h0 hcl xK hw9;have q:=xA hw9.o.a 5;simp only[gA,gB,gC] at q;repeat go_step
   refine RG.xC ?_;exact⟨xK,hw9⟩
  ·rfl
  refine RG.cS ?_;apply RG.xN
  ·rfl
  ·rfl
  ·intro L w9 h0 hcl xK hw9;have q:=xA hw9.o.a 4;simp only[gA,gB,gC] at q;repeat go_step
   refine RG.xC ?_;exact⟨xK,hw9⟩
  ·rfl
  iterate 2 refine RG.cS ?_
  refine RG.cF (λL w9 h0 hcl xK hw9=>HK1.o _ hw9.o.bel) ?_;apply RG.xN
  ·rfl
  ·rfl
  ·intro L w9 h0 hcl xK hw9;repeat go_step
   refine(HS1.o _).mono ?_;rintro e w10 ⟨rfl,zF⟩;simp only[];repeat go_step
   refine RG.xC ?_;exact⟨xK,ι (hw9.o.below zF)⟩
  ·rfl
  iterate 4 refine RG.cS ?_
  apply RG.xN
  ·rfl
  ·rfl
  ·intro L w9 h0 hcl xK hw9;have hs9:=hw9.o;rw[h0,if_neg (c:=false=true) σ] at hs9;have q:=xA hs9.a 7;have f:=xB hs9.a 7;simp only[gA,gB,gC] at q;have hp:=ι (hs9.set7 (.string ow));clear hs9;repeat go_step
   refine RG.xC ?_;refine⟨xK,?_⟩;show Hid (AcM w u (.string xI) (.int .i64 rr) ep pb (.string xE) (.string wr) (if (true:Bool)=true then .string ow else .string ⟨#[]⟩) xI xE xL rr _);rw[if_pos rfl];with_reducible exact hp
  ·rfl
  refine RG.cS ?_;refine RG.xZ (λw7 hw7=>?_);rw[if_pos rfl] at hw7;clear HS1 HK1;obtain⟨a0,a1,a2,a3,a4,a5,a6,a7⟩:=xH1 hw7.o.a
  obtain⟨o0,y0,f0,o1,y1,f1,o2,y2,f2,o3,y3,f3,o4,y4,f4,o5,y5,f5,o6,y6,f6,o7,y7,f7,HB⟩:=xKm hw7.o.o hw7.o.bel ω (.string u) (.string xI) (.int .i64 rr) (.int .i64 ep) (.string pb) (.string xE) (.string wr) (.string ow) _ rfl;clear hw7;go_wp2_with fail
  refine bodyPost_ret (v:=.tuple #[.agg #[.string u,.string xI,.int .i64 rr,.int .i64 ep,.string pb,.string xE,.string wr,.string ow],.int .i64 0]) (by simp[results,results88,go_sem,f0,f1,f2,f3,f4,f5,f6,f7]) rfl ?_;rw[HE.o,HRR.o];exact⟨rfl,HB.o⟩
end Go.Proofs.SH
namespace Mailsack
open Go.Proofs.SH
def xLn (a:zU) (old xI xE:ByteArray) (r:Int):Int:=if qA a old≠0 then qA a old else if uE xI xE r=false then 1 else 0
def rcgO (a:zU) (old:ByteArray):Option ByteArray:=if a.old.size=0 then none else some (xHs a old)
def xMs (a:zU) (old pw xI xE:ByteArray) (r:Int):zU:=if xLn a old xI xE r=0 then xR1 a.user a.pub a.vQ pw xI xE r.toNat (vE a old) (rcgO a old) else zT
def xTf (a:zU):zU:=⟨a.user,a.xI,a.rounds,a.vQ,a.pub,a.xE,a.wrapped,⟨#[]⟩⟩
theorem qU {a:zU} {pw:ByteArray} (h:qA a pw=0):zR a=true:=by
 unfold qA at h;cases hr:zR a with
 |true=>rfl
 |false=>rw[hr] at h;simp at h
theorem yCb {a:zU} {pw:ByteArray} (h:qA a pw=0):xR8 a pw=vE a pw::(rcgO a pw).toList:=by
 unfold xR8 rcgO;rw[if_pos h];split<;>rfl
theorem xLm {a:zU} {pw:ByteArray} (h:zR a=true):∀k,rcgO a pw=some k->k.size=32:=by
 intro k hk;unfold rcgO at hk;split at hk
 ·cases hk
 ·rename_i h0
  injection hk with hk;have:=(wL h).2.2.2.2.2.2.2.2.2.2;rw[<-hk,xHs,yN,xD5,xEw ω]
end Mailsack
namespace Go.Proofs.SH
open Go.RowKit Mailsack MM BB SV
theorem xNi (a:zU) (w:World):
  Calls prog 102 #[vH a] w λe w'=>e=.returned (vH (xTf a))/\ψ w w':=by
 obtain⟨u,s,r,ep,pb,n,wr,o⟩:=a;simp only[vH,xTf];have H0:=ι (And.intro (xO (xM w (yI ⟨u,s,r,ep,pb,n,wr,o⟩)) (yI zT)) (And.intro (zK w (yI ⟨u,s,r,ep,pb,n,wr,o⟩) (yI zT)) ((φ w (yI ⟨u,s,r,ep,pb,n,wr,o⟩)).alloc σ (yI zT))));go_enter func102,ntmps102
 go_upto_region 1 with fail
 obtain⟨w1,hw1⟩:∃w1,(w.alloc (yI ⟨u,s,r,ep,pb,n,wr,o⟩)).alloc (yI zT)=w1:=⟨_,rfl⟩;rw[hw1] at H0;simp only[yI,zT] at hw1 H0;rw[hw1];clear hw1;have c7:=xA H0.o.1 7;have f7:=xB H0.o.1 7;simp only[gA,gB,gC] at c7;have hk:=xY H0.o.1 7 (.string ⟨#[]⟩)
 simp only[List.setIfInBounds_toArray,List.set_cons_succ,List.set_cons_zero] at hk
 have H1:=ι (And.intro hk (And.intro (yC H0.o.2.1 (p:=⟨w.heap.size,7,none⟩) (by show w.heap.size+1≠w.heap.size;omega) (.string ⟨#[]⟩)) (H0.o.2.2.setCell (p:=⟨w.heap.size,7,none⟩) ν (.string ⟨#[]⟩))));clear hk H0;go_upto_region 2 with fail
 clear c7 f7;generalize w1.setCell ⟨w.heap.size,7,none⟩ (.string ⟨#[]⟩)=w2 at H1⊢;obtain⟨a0,a1,a2,a3,a4,a5,a6,a7⟩:=xH1 H1.o.1
 obtain⟨o0,y0,f0,o1,y1,f1,o2,y2,f2,o3,y3,f3,o4,y4,f4,o5,y5,f5,o6,y6,f6,o7,y7,f7,HB⟩:=xKm H1.o.2.1 H1.o.2.2 ω (.string u) (.string s) (.int .i64 r) (.int .i64 ep) (.string pb) (.string n) (.string wr) (.string ⟨#[]⟩) _ rfl;clear H1;go_wp2
 refine bodyPost_ret (v:=.agg #[.string u,.string s,.int .i64 r,.int .i64 ep,.string pb,.string n,.string wr,.string ⟨#[]⟩]) (by simp[results,results102,go_sem,f0,f1,f2,f3,f4,f5,f6,f7]) rfl ?_;exact⟨rfl,HB.o⟩
theorem xNj (a:zU) (old pw xI xE xL:ByteArray) (r:Int) (w:World) (hu:a.user.size<=1000) (ho:old.size<=1000) (hpw:pw.size<=1000) (hT:vT w):
  Calls prog 35 #[vH a,.string old,.string pw,xAb xI xE xL r] w λe w'=>
   e=.returned (.tuple #[vH (xMs a old pw xI xE r),.int .i64 (xLn a old xI xE r)])/\ψ w w':=by
 have HI:=ι (show AcM w a.user (.string a.xI) (.int .i64 a.rounds) a.vQ a.pub (.string a.xE) (.string a.wrapped) (.string a.old) xI xE xL r (((w.alloc (yI a)).alloc (uU xI xE xL r)).alloc (yI zT)) from by
  refine⟨xO (zV w _ _) _,xO (zK w _ _) _,?_,?_⟩
  ·have:=xM ((w.alloc (yI a)).alloc (uU xI xE xL r)) (yI zT);simpa using this
  ·exact((φ w _).alloc σ _).alloc (by simp;omega) _)
 have HUN:=ι (λW (hb:ψ w W)=>xHr a old W hu ω (hT.below hb ν));have HRW:=ι (λW=>rY xI xE xL r W);have HE:Hid (∀er,xLn a old xI xE r=er->er≠0->xMs a old pw xI xE r=zT):=ι (λer he hn=>by unfold xMs;rw[he,if_neg hn])
 have HE2:Hid (xLn a old xI xE r=if qA a old≠0 then qA a old else if uE xI xE r=false then 1 else 0):=ι rfl
 have HWR:Hid (qA a old=0->uE xI xE r=true->∃na,xMs a old pw xI xE r=na/\∀W kv,ψ w W->RdS W W.heap.size kv ((xR8 a old).map (·.data.toList))->Calls prog 88 #[vH a,.string pw,xAb xI xE xL r,kv] W λe w'=>e=.returned (.tuple #[vH na,.int .i64 0])/\ψ W w'):=ι (λh0 h1=>by
  refine⟨_,rfl,λW kv hb hk=>?_⟩;have hra:=qU h0;have hl:=wL hra;have hc:xLn a old xI xE r=0:=by unfold xLn;rw[if_neg (by simp[h0]),h1];rfl
  have hw:=h1;unfold uE at hw;simp only[Bool.and_eq_true,decide_eq_true_eq] at hw;rw[xMs,if_pos hc];rw[yCb h0,List.map_cons] at hk;have hrr:((r.toNat:Nat):Int)=r:=ω
  have:=xOw a.user a.xI a.rounds a.vQ a.pub a.xE a.wrapped a.old pw xI xE xL (vE a old) (rcgO a old) r.toNat kv W ω ω hw.1.1.2 ω hu ω (by rw[kZ ω];omega) (λk e=>by rw[xLm hra k e];omega) hpw (hT.below hb ν) hk;rw[hrr] at this;exact this)
 clear hu ho hpw hT;generalize qA a old=ue at HUN HE2 HWR;generalize xR8 a old=ul at HUN HWR;generalize hce:xLn a old xI xE r=ce at HE HE2⊢;generalize xMs a old pw xI xE r=ca at HE HWR⊢;clear hce;obtain⟨u,s,ar,ep,pb,n,wr,o⟩:=a;simp only[vH,yI] at HI HUN HWR⊢
 go_enter func35,ntmps35;go_upto_region 1 with fail
 obtain⟨w1,hw1⟩:∃w1,((w.alloc (.cells #[.string u,.string s,.int .i64 ar,.int .i64 ep,.string pb,.string n,.string wr,.string o] 97)).alloc (uU xI xE xL r)).alloc (yI zT)=w1:=⟨_,rfl⟩;rw[hw1] at HI;simp only[yI,zT,uU] at hw1;rw[hw1];clear hw1
 obtain⟨e0,e1,e2,e3,e4,e5,e6,e7⟩:=xH1 HI.o.a;go_wp2_with fail
 refine(HUN.o _ HI.o.bel).mono ?_;rintro e w2 ⟨v,rfl,hv,hb2⟩;have HM:=ι (HI.o.below hb2);have HV:=ι hv;obtain⟨A,c,rfl,_,_⟩:=hv;simp only[List.length_map] at HV;clear hb2 HI HUN e0 e1 e2 e3 e4 e5 e6 e7
 by_cases hue:ue=0
 case neg=>
  have her:ce=ue:=by rw[HE2.o,if_pos hue]
  obtain⟨er,xM6⟩:∃er,er=ue:=⟨_,rfl⟩;have HRR:=ι (And.intro (HE.o ue her hue) her);have hue1:(ue==0)=false:=by simpa using hue
  rw[<-xM6] at HRR hue hue1⊢;clear her xM6 HE HE2 HWR HRW HV;go_upto_region 3 with fail
  obtain⟨o0,y0,f0,o1,y1,f1,o2,y2,f2,o3,y3,f3,o4,y4,f4,o5,y5,f5,o6,y6,f6,o7,y7,f7,HB⟩:=xKm HM.o.o HM.o.bel ω (.string ⟨#[]⟩) (.string ⟨#[]⟩) (.int .i64 0) (.int .i64 0) (.string ⟨#[]⟩) (.string ⟨#[]⟩) (.string ⟨#[]⟩) (.string ⟨#[]⟩) _ rfl;clear HM;go_wp2
  refine bodyPost_ret (v:=.tuple #[.agg #[.string ⟨#[]⟩,.string ⟨#[]⟩,.int .i64 0,.int .i64 0,.string ⟨#[]⟩,.string ⟨#[]⟩,.string ⟨#[]⟩,.string ⟨#[]⟩],.int .i64 er]) (by simp[results,results35,go_sem,f0,f1,f2,f3,f4,f5,f6,f7]) rfl ?_;rw[HRR.o.1,HRR.o.2];exact⟨rfl,HB.o⟩
 subst hue;rw[if_neg σ] at HE2;obtain⟨y0,y1,y2,y3⟩:=yEd HM.o.f;go_upto_region 4 with fail
 go_wp2_with fail
 refine(HRW.o _).mono ?_;rintro e w3 ⟨rfl,hb3⟩;have HM3:=ι (HM.o.below hb3);have HV3:=ι ((HV.o.below hb3 ν).more hb3.size);clear hb3 HM HV HRW y0 y1 y2 y3;have HM:=HM3;clear HM3;cases hrw:uE xI xE r with
 |false=>
  have her:ce=1:=by rw[HE2.o,if_pos hrw]
  have HRR:=ι (And.intro (HE.o 1 her δ) her);obtain⟨er,xM6⟩:∃er:Int,er=1:=⟨_,rfl⟩;rw[<-xM6] at HRR;clear her HE HE2 HWR HV3 hrw;go_upto_region 5 with fail
  rw[<-xM6];clear xM6;obtain⟨o0,y0,f0,o1,y1,f1,o2,y2,f2,o3,y3,f3,o4,y4,f4,o5,y5,f5,o6,y6,f6,o7,y7,f7,HB⟩:=xKm HM.o.o HM.o.bel ω (.string ⟨#[]⟩) (.string ⟨#[]⟩) (.int .i64 0) (.int .i64 0) (.string ⟨#[]⟩) (.string ⟨#[]⟩) (.string ⟨#[]⟩) (.string ⟨#[]⟩) _ rfl;clear HM;go_wp2
  refine bodyPost_ret (v:=.tuple #[.agg #[.string ⟨#[]⟩,.string ⟨#[]⟩,.int .i64 0,.int .i64 0,.string ⟨#[]⟩,.string ⟨#[]⟩,.string ⟨#[]⟩,.string ⟨#[]⟩],.int .i64 er]) (by simp[results,results35,go_sem,f0,f1,f2,f3,f4,f5,f6,f7]) rfl ?_;rw[HRR.o.1,HRR.o.2];exact⟨rfl,HB.o⟩
 |true=>
  have her:ce=0:=by rw[HE2.o,if_neg (by rw[hrw];simp)]
  obtain⟨na,hna,hwr⟩:=HWR.o (by first|rfl|trivial) hrw;have HNA:=ι (And.intro hna her);have HWP:=ι hwr;clear hna hwr her HE HE2 HWR hrw;obtain⟨tu,ts,tr,te,tp,tn,tw,to_⟩:=na;simp only at HWP;obtain⟨e0,e1,e2,e3,e4,e5,e6,e7⟩:=xH1 HM.o.a;obtain⟨y0,y1,y2,y3⟩:=yEd HM.o.f
  go_upto_region 6 with fail
  go_wp2_with fail
  refine(HWP.o _ _ HM.o.bel HV3.o).mono ?_;rintro e w4 ⟨rfl,hb4⟩;have HM4:=ι (HM.o.below hb4);clear hb4 HM HV3 HWP e0 e1 e2 e3 e4 e5 e6 e7 y0 y1 y2 y3
  obtain⟨o0,y0,f0,o1,y1,f1,o2,y2,f2,o3,y3,f3,o4,y4,f4,o5,y5,f5,o6,y6,f6,o7,y7,f7,HB⟩:=xKm HM4.o.o HM4.o.bel ω (.string tu) (.string ts) (.int .i64 tr) (.int .i64 te) (.string tp) (.string tn) (.string tw) (.string to_) _ rfl;clear HM4;go_wp2
  refine bodyPost_ret (v:=.tuple #[.agg #[.string tu,.string ts,.int .i64 tr,.int .i64 te,.string tp,.string tn,.string tw,.string to_],.int .i64 0]) (by simp[results,results35,go_sem,f0,f1,f2,f3,f4,f5,f6,f7]) rfl ?_;rw[HNA.o.1,HNA.o.2];exact⟨rfl,HB.o⟩
end Go.Proofs.SH
namespace Mailsack
open Go.Proofs.SH
def xLe (a:zU) (pw xI xE xL:ByteArray) (r:Int):Int:=if qA a pw≠0 then qA a pw else if a.old.size≠0 then 8 else if uZ xI xE xL r=false then 1 else 0
def xKj (a:zU) (pw xI xE xL:ByteArray) (r:Int):zU:=if xLe a pw xI xE xL r=0 then xR1 a.user (yL xL) (1-a.vQ) pw xI xE r.toNat xL (some (vE a pw)) else zT
end Mailsack
namespace Go.Proofs.SH
open Go.RowKit Mailsack MM BB SV FE
theorem yBd (w:World) (x y:ByteArray):RdS (w.alloc (.cells #[.string x,.string y] 9)) (w.alloc (.cells #[.string x,.string y] 9)).heap.size (.slice (some ⟨w.heap.size,0,none⟩) 2 2) [x.data.toList,y.data.toList]:=by
 have hn:=xM w (.cells #[.string x,.string y] 9);refine⟨_,_,rfl,Nat.le_refl _,λ_=>⟨_,_,rfl,σ,λj z hz=>?_⟩⟩
 match j,hz with
 |0,hz=>injection hz with hz;subst hz;exact xA hn 0
 |1,hz=>injection hz with hz;subst hz;exact xA hn 1
 |j+2,hz=>simp at hz
structure RoJ (w w5:World) (k0 k1:ByteArray) (na:zU) (L:Nat->Bool) (α:Nat->Value) (W:World):Prop where
 bel:ψ w W
 st:L 12=false->ψ w5 W
 s:L 8=true->∃g,α 8=.slice (some ⟨g,0,none⟩) 2 2/\(L 12=false->RdS W W.heap.size (.slice (some ⟨g,0,none⟩) 2 2) [k0.data.toList,k1.data.toList])
 o:L 12=true->W.heap[w.heap.size+1+1]?=some (yI na)
theorem RoJ.congr {w w5:World} {k0 k1:ByteArray} {na:zU} {L L':Nat->Bool} {α α':Nat->Value} {W:World} (h:RoJ w w5 k0 k1 na L α W) (h8:L 8=L' 8) (h12:L 12=L' 12) (ha:L 8=true->α 8=α' 8):RoJ w w5 k0 k1 na L' α' W:=
 ⟨h.bel,λe=>h.st (h12.trans e),λe=>by rw[<-ha (h8.trans e),<-h12];exact h.s (h8.trans e),λe=>h.o (h12.trans e)⟩
theorem xNg (a:zU) (pw xI xE xL:ByteArray) (r:Int) (w:World) (hu:a.user.size<=1000) (hpw:pw.size<=1000) (hT:vT w):
  Calls prog 38 #[vH a,.string pw,xAb xI xE xL r] w λe w'=>
   e=.returned (.tuple #[vH (xKj a pw xI xE xL r),.int .i64 (xLe a pw xI xE xL r)])/\ψ w w':=by
 have HI:=ι (show AcM w a.user (.string a.xI) (.int .i64 a.rounds) a.vQ a.pub (.string a.xE) (.string a.wrapped) (.string a.old) xI xE xL r (((w.alloc (yI a)).alloc (uU xI xE xL r)).alloc (yI zT)) from by
  refine⟨xO (zV w _ _) _,xO (zK w _ _) _,?_,?_⟩
  ·have:=xM ((w.alloc (yI a)).alloc (uU xI xE xL r)) (yI zT);simpa using this
  ·exact((φ w _).alloc σ _).alloc (by simp;omega) _)
 have HUN:=ι (λW (hb:ψ w W)=>xHr a pw W hu ω (hT.below hb ν));have HRF:=ι (λW=>xH8 xI xE xL r W);have HE:Hid (∀er,xLe a pw xI xE xL r=er->er≠0->xKj a pw xI xE xL r=zT):=ι (λer he hn=>by unfold xKj;rw[he,if_neg hn])
 have HE2:Hid (xLe a pw xI xE xL r=if qA a pw≠0 then qA a pw else if a.old.size≠0 then 8 else if uZ xI xE xL r=false then 1 else 0):=ι rfl;have HLL:Hid (qA a pw=0->a.old.size=0->xR8 a pw=[vE a pw]):=ι (λh0 h1=>by unfold xR8;rw[if_pos h0,if_pos h1])
 have HPB:Hid (uZ xI xE xL r=true->∀W,Calls prog 79 #[.string xL] W λe w'=>e=.returned (.tuple #[.string (yL xL),.bool true])/\ψ W w'):=ι (λh W=>rF xL W (by
  unfold uZ at h;simp only[Bool.and_eq_true,decide_eq_true_eq] at h;exact h.2))
 have HEP:Hid (qA a pw=0->0<=a.vQ/\a.vQ<=1):=ι (λh0=>⟨(wL (qU h0)).2.2.2.2.2.1,(wL (qU h0)).2.2.2.2.2.2.1⟩)
 have HWR:Hid (qA a pw=0->a.old.size=0->uZ xI xE xL r=true->∃na,xKj a pw xI xE xL r=na/\∀W kv,ψ w W->RdS W W.heap.size kv [xL.data.toList,(vE a pw).data.toList]->Calls prog 88 #[.agg #[.string a.user,.string ⟨#[]⟩,.int .i64 0,.int .i64 (1-a.vQ),.string (yL xL),.string ⟨#[]⟩,.string ⟨#[]⟩,.string ⟨#[]⟩],.string pw,xAb xI xE xL r,kv] W λe w'=>e=.returned (.tuple #[vH na,.int .i64 0])/\ψ W w'):=ι (λh0 h1 h2=>by
  refine⟨_,rfl,λW kv hb hk=>?_⟩;have hra:=qU h0;have hl:=wL hra;have hc:xLe a pw xI xE xL r=0:=by unfold xLe;rw[if_neg (by simp[h0]),if_neg (by simp[h1]),h2];rfl
  have hw:=h2;unfold uZ uE at hw;simp only[Bool.and_eq_true,decide_eq_true_eq] at hw;rw[xKj,if_pos hc];have hrr:((r.toNat:Nat):Int)=r:=ω;have hpz:(yL xL).size=32:=wE _ _
  have:=xOw a.user ⟨#[]⟩ 0 (1-a.vQ) (yL xL) ⟨#[]⟩ ⟨#[]⟩ ⟨#[]⟩ pw xI xE xL xL (some (vE a pw)) r.toNat kv W ω ω hw.1.1.1.2 ω hu ω ω (λk e=>by injection e with e;rw[<-e,kZ ω];omega) hpw (hT.below hb ν) hk;rw[hrr] at this;exact this)
 clear hu hpw hT;generalize qA a pw=ue at HUN HE2 HWR HLL HEP;generalize xR8 a pw=ul at HUN HLL;generalize vE a pw=k1 at HWR HLL;generalize hce:xLe a pw xI xE xL r=ce at HE HE2⊢;generalize xKj a pw xI xE xL r=ca at HE HWR⊢;generalize yL xL=pubv at HPB HWR;clear hce
 obtain⟨u,s,ar,ep,pb,n,wr,o⟩:=a;simp only[vH,yI] at HI HUN HWR HE2 HLL HEP⊢;go_enter func38,ntmps38;go_upto_region 1 with fail
 obtain⟨w1,hw1⟩:∃w1,((w.alloc (.cells #[.string u,.string s,.int .i64 ar,.int .i64 ep,.string pb,.string n,.string wr,.string o] 97)).alloc (uU xI xE xL r)).alloc (yI zT)=w1:=⟨_,rfl⟩;rw[hw1] at HI;simp only[yI,zT,uU] at hw1;rw[hw1];clear hw1
 obtain⟨e0,e1,e2,e3,e4,e5,e6,e7⟩:=xH1 HI.o.a;go_wp2_with fail
 refine(HUN.o _ HI.o.bel).mono ?_;rintro e w2 ⟨v,rfl,hv,hb2⟩;have HM:=ι (HI.o.below hb2);have HV:=ι hv;obtain⟨A,c,rfl,_,_⟩:=hv;clear hb2 HI HUN e0 e1 e2 e3 e4 e5 e6 e7
 by_cases hue:ue=0
 case neg=>
  have her:ce=ue:=by rw[HE2.o,if_pos hue]
  obtain⟨er,xM6⟩:∃er,er=ue:=⟨_,rfl⟩;have HRR:=ι (And.intro (HE.o ue her hue) her);have hue1:(ue==0)=false:=by simpa using hue
  rw[<-xM6] at HRR hue hue1⊢;clear her xM6 HE HE2 HWR HRF HV HLL HEP HPB;go_upto_region 3 with fail
  obtain⟨o0,y0,f0,o1,y1,f1,o2,y2,f2,o3,y3,f3,o4,y4,f4,o5,y5,f5,o6,y6,f6,o7,y7,f7,HB⟩:=xKm HM.o.o HM.o.bel ω (.string ⟨#[]⟩) (.string ⟨#[]⟩) (.int .i64 0) (.int .i64 0) (.string ⟨#[]⟩) (.string ⟨#[]⟩) (.string ⟨#[]⟩) (.string ⟨#[]⟩) _ rfl;clear HM;go_wp2
  refine bodyPost_ret (v:=.tuple #[.agg #[.string ⟨#[]⟩,.string ⟨#[]⟩,.int .i64 0,.int .i64 0,.string ⟨#[]⟩,.string ⟨#[]⟩,.string ⟨#[]⟩,.string ⟨#[]⟩],.int .i64 er]) (by simp[results,results38,go_sem,f0,f1,f2,f3,f4,f5,f6,f7]) rfl ?_;rw[HRR.o.1,HRR.o.2];exact⟨rfl,HB.o⟩
 subst hue;rw[if_neg σ] at HE2;obtain⟨hp0,hp1⟩:=HEP.o rfl;have HEP2:=ι (And.intro hp0 hp1);clear HEP hp0 hp1;have e7:=xA HM.o.a 7;simp only[gA,gB,gC] at e7
 by_cases ho:o.size=0
 case neg=>
  have i6:(o.toList==[])=false:=by
   rw[ByteArray.toList_eq];cases hx:(o.data.toList==[]) with
   |false=>rfl
   |true=>
    simp only[beq_iff_eq] at hx;exact absurd (show o.data.size=0 by rw[<-Array.length_toList,hx];rfl) ho
  have her:ce=8:=by rw[HE2.o,if_pos ho]
  have HRR:=ι (And.intro (HE.o 8 her δ) her);obtain⟨er,xM6⟩:∃er:Int,er=8:=⟨_,rfl⟩;rw[<-xM6] at HRR;clear her HE HE2 HWR HRF HV HLL HPB ho HEP2;go_upto_region 5 with fail
  rw[<-xM6];clear xM6 e7;obtain⟨o0,y0,f0,o1,y1,f1,o2,y2,f2,o3,y3,f3,o4,y4,f4,o5,y5,f5,o6,y6,f6,o7,y7,f7,HB⟩:=xKm HM.o.o HM.o.bel ω (.string ⟨#[]⟩) (.string ⟨#[]⟩) (.int .i64 0) (.int .i64 0) (.string ⟨#[]⟩) (.string ⟨#[]⟩) (.string ⟨#[]⟩) (.string ⟨#[]⟩) _ rfl;clear HM;go_wp2
  refine bodyPost_ret (v:=.tuple #[.agg #[.string ⟨#[]⟩,.string ⟨#[]⟩,.int .i64 0,.int .i64 0,.string ⟨#[]⟩,.string ⟨#[]⟩,.string ⟨#[]⟩,.string ⟨#[]⟩],.int .i64 er]) (by simp[results,results38,go_sem,f0,f1,f2,f3,f4,f5,f6,f7]) rfl ?_;rw[HRR.o.1,HRR.o.2];exact⟨rfl,HB.o⟩
 have i6:(o.toList==[])=true:=by rw[ByteArray.toList_eq];simp;exact Array.eq_empty_of_size_eq_zero ho
 have HO:=ι ho;rw[if_neg (by simp[ho])] at HE2;have hul:=HLL.o rfl ho;rw[hul] at HV;subst hul;clear ho HLL;simp only[List.map_cons,List.map_nil,List.length_cons,List.length_nil,Nat.zero_add] at HV⊢;go_upto_region 6 with fail
 obtain⟨y0,y1,y2,y3⟩:=yEd HM.o.f;go_wp2_with fail
 refine(HRF.o _).mono ?_;rintro e w3 ⟨rfl,hb3⟩;have HM3:=ι (HM.o.below hb3);have HV3:=ι ((HV.o.below hb3 ν).more hb3.size);clear hb3 HM HV HRF y0 y1 y2 y3 e7 i6;have HM:=HM3;clear HM3;cases hrw:uZ xI xE xL r with
 |false=>
  have her:ce=1:=by rw[HE2.o,if_pos hrw]
  have HRR:=ι (And.intro (HE.o 1 her δ) her);obtain⟨er,xM6⟩:∃er:Int,er=1:=⟨_,rfl⟩;rw[<-xM6] at HRR;clear her HE HE2 HWR HV3 hrw HPB HO HEP2;go_upto_region 7 with fail
  rw[<-xM6];clear xM6;obtain⟨o0,y0,f0,o1,y1,f1,o2,y2,f2,o3,y3,f3,o4,y4,f4,o5,y5,f5,o6,y6,f6,o7,y7,f7,HB⟩:=xKm HM.o.o HM.o.bel ω (.string ⟨#[]⟩) (.string ⟨#[]⟩) (.int .i64 0) (.int .i64 0) (.string ⟨#[]⟩) (.string ⟨#[]⟩) (.string ⟨#[]⟩) (.string ⟨#[]⟩) _ rfl;clear HM;go_wp2
  refine bodyPost_ret (v:=.tuple #[.agg #[.string ⟨#[]⟩,.string ⟨#[]⟩,.int .i64 0,.int .i64 0,.string ⟨#[]⟩,.string ⟨#[]⟩,.string ⟨#[]⟩,.string ⟨#[]⟩],.int .i64 er]) (by simp[results,results38,go_sem,f0,f1,f2,f3,f4,f5,f6,f7]) rfl ?_;rw[HRR.o.1,HRR.o.2];exact⟨rfl,HB.o⟩
 |true=>
  have her:ce=0:=by rw[HE2.o,if_neg (by rw[hrw];simp)]
  obtain⟨na,hna,hwr⟩:=HWR.o (by first|rfl|trivial) HO.o hrw;have HNA:=ι (And.intro hna her);have HWP:=ι hwr;have HPP:=ι (HPB.o hrw);clear hna hwr her HE HE2 HWR hrw HPB HO;obtain⟨tu,ts,tr,te,tp,tn,tw,to_⟩:=na;simp only at HWP;go_upto_region 8 with fail
  have y2:=xA HM.o.f 2;simp only[gA,gB,gC] at y2;go_wp2_with fail
  refine(HPP.o _).mono ?_;rintro e w4 ⟨rfl,hb4⟩;have HM4:=ι (HM.o.below hb4);have HV4:=ι ((HV3.o.below hb4 ν).more hb4.size);clear hb4 HM HV3 HPP y2;have e0:=xA HM4.o.a 0;have e3:=xA HM4.o.a 3;simp only[gA,gB,gC] at e0 e3;obtain⟨hp0,hp1⟩:=HEP2.o;clear HEP2
  go_upto_region 12 with fail
  have hal:=φ w4 (.cells #[.string u,.string ⟨#[]⟩,.int .i64 0,.int .i64 (1-ep),.string pubv,.string ⟨#[]⟩,.string ⟨#[]⟩,.string ⟨#[]⟩] 97)
  have HM5:=ι (And.intro (HM4.o.below hal) (xM w4 (.cells #[.string u,.string ⟨#[]⟩,.int .i64 0,.int .i64 (1-ep),.string pubv,.string ⟨#[]⟩,.string ⟨#[]⟩,.string ⟨#[]⟩] 97)));have HV5:=ι ((HV4.o.below hal ν).more hal.size);clear hal HM4 HV4 e0 e3 hp0 hp1
  obtain⟨w5,hw5⟩:∃w5,w4.alloc (.cells #[.string u,.string ⟨#[]⟩,.int .i64 0,.int .i64 (1-ep),.string pubv,.string ⟨#[]⟩,.string ⟨#[]⟩,.string ⟨#[]⟩] 97)=w5:=⟨_,rfl⟩;rw[hw5] at HM5 HV5;rw[hw5];clear hw5;generalize w4.heap.size=g4 at HM5⊢;obtain⟨kb,ko,kc,hkv,hkb,hkc⟩:=yBk HV5.o
  injection hkv with hk1 hk2 hk3;subst hk1;have HK:=ι (And.intro hkb hkc);clear hk2 hk3 hkb hkc HV5;generalize 1-ep=ne at HM5 HWP⊢
  refine RG.uA [12] [8] (λL α W=>Hid (RoJ w w5 xL k1 ⟨tu,ts,tr,te,tp,tn,tw,to_⟩ L α W)) (λL L' α α' W hl ha h=>ι (h.o.congr (hl 8 σ) (hl 12 σ) (ha 8 σ))) κ κ κ (ι ⟨HM5.o.1.bel.drew,λ_=>(Below.refl _ _).drew,λe=>(by cases e),λe=>(by cases e)⟩) ?_
  refine RG.vF (λα L w9 h0 hcl xK hw9=>have hx:=xD HM5.o.2 (hw9.o.st (hcl.not 14 (i:=12) h0 κ)) (xH HM5.o.2);xH1 hx) ?_;refine RG.vS ?_;refine RG.vF (λα L w9 h0 hcl xK hw9=>have hx:=xD HM5.o.1.f (hw9.o.st (hcl.not 14 (i:=12) h0 κ)) (xH HM5.o.1.f);yEd hx) ?_;refine RG.vS ?_
  apply RG.zC
  ·rfl
  ·rfl
  ·intro α L w9 h0 hcl xK hw9;have hx:=xD HM5.o.1.f (hw9.o.st (hcl.not 14 (i:=12) h0 κ)) (xH HM5.o.1.f);have s2:=xA hx 2;simp only[gA,gB,gC] at s2;clear hx;repeat go_step
   exact RG.xC hw9
  ·intro α;rfl
  iterate 2 refine RG.vS ?_
  refine RG.vF (λα L w9 h0 hcl xK hw9=>((hw9.o.st (hcl.not 14 (i:=12) h0 κ)).cell (p:=⟨kb,ko,none⟩) HK.o.1).trans HK.o.2) ?_;apply RG.vK
  ·rfl
  ·intro α L w9 h0 hcl xK hw9;have e12:L 12=false:=hcl.not 14 (i:=12) h0 κ;have hb5:=hw9.o.st e12;have HAL:=ι (φ w9 (.cells #[.string xL,.string k1] 9));have HR2:=ι (yBd w9 xL k1);refine⟨.slice (some ⟨w9.heap.size,0,none⟩) 2 2,λbv hbv=>?_⟩;repeat go_step
   rw[<-hbv];refine RG.xC ?_;refine ι ⟨hw9.o.bel.trans (HAL.o.mono hw9.o.bel.size),λ_=>hb5.trans (HAL.o.mono hb5.size),λ_=>⟨w9.heap.size,(RG.uV _ _ _).trans hbv,λ_=>HR2.o⟩,λe=>absurd (show L 12=true by simpa using e) (by rw[e12];simp)⟩
  ·intro b α;rfl
  apply RG.zC
  ·rfl
  ·rfl
  ·intro α L w9 h0 hcl xK hw9
   have f8:L 8=true:=by
    have:=xK.yes 14 (i:=9) (j:=8) σ κ;simpa using this
   have e12:L 12=false:=hcl.not 14 (i:=12) h0 κ;have hb5:=hw9.o.st e12;obtain⟨g,q1,q2⟩:=hw9.o.s f8;have Q1:=ι q1;have Q2:=ι (q2 e12);rw[show α (0+1+1+1+1+1+1+1+1)=_ from q1];clear q1 q2;repeat go_step
   refine(HWP.o w9 _ hw9.o.bel Q2.o).mono ?_;rintro e w10 ⟨rfl,hb⟩;simp only[];repeat go_step
   rw[<-show α (0+1+1+1+1+1+1+1+1)=_ from Q1.o];refine RG.xC ?_;exact ι ⟨hw9.o.bel.trans (hb.mono hw9.o.bel.size),λ_=>hb5.trans (hb.mono hb5.size),λ_=>⟨g,Q1.o,λ_=>(Q2.o.below hb ν).more hb.size⟩,λe=>absurd e (by rw[e12];simp)⟩
  ·intro α;rfl
  iterate 2 refine RG.vS ?_
  apply RG.jK (v:=undef)
  ·rfl
  ·rfl
  ·intro α L w9 h0 hcl xK hw9;have hx:=xD HM5.o.1.o (hw9.o.st h0) (xH HM5.o.1.o);simp only[yI,zT] at hx;have hbb:=hw9.o.bel;have hs2:=uI (b:=w.heap.size+1+1) (l:=[.string tu,.string ts,.int .i64 tr,.int .i64 te,.string tp,.string tn,.string tw,.string to_]) hx rfl
   simp only[xU,Nat.reduceAdd] at hs2;have HS2:=ι hs2;obtain⟨o0,y0,f0,o1,y1,f1,o2,y2,f2,o3,y3,f3,o4,y4,f4,o5,y5,f5,o6,y6,f6,o7,y7,f7,HB⟩:=xKm hx hbb ω (.string tu) (.string ts) (.int .i64 tr) (.int .i64 te) (.string tp) (.string tn) (.string tw) (.string to_) _ rfl
   clear hx hbb hs2;repeat go_step
   refine RG.xC ?_
   exact ι ⟨HB.o,λe=>by simp at e,λe=>by
    obtain⟨g,q1,q2⟩:=hw9.o.s (by simpa using e);exact⟨g,q1,λe=>by simp at e⟩,λ_=>HS2.o⟩
  ·intro α;rfl
  refine RG.vS ?_;refine RG.qV (λα w6 hw6=>?_);have hx:=hw6.o.o rfl;simp only[yI] at hx;obtain⟨f0,f1,f2,f3,f4,f5,f6,f7⟩:=xH1 hx;have HB:=ι hw6.o.bel;clear hx hw6;go_wp2
  refine bodyPost_ret (v:=.tuple #[.agg #[.string tu,.string ts,.int .i64 tr,.int .i64 te,.string tp,.string tn,.string tw,.string to_],.int .i64 0]) (by simp[results,results38,go_sem,f0,f1,f2,f3,f4,f5,f6,f7]) rfl ?_;rw[HNA.o.1,HNA.o.2];exact⟨rfl,HB.o⟩
end Go.Proofs.SH
namespace Go.Proofs.BK
open Go.RowKit MM SV RK
structure Bk (w:World) (L:List (Nat×Obj)) (W:World):Prop where
 k:∀(i:Nat) (p:Nat×Obj),L[i]?=some p->W.heap[p.1]?=some p.2
 inc:L.Pairwise (λp q=>p.1≠q.1)
 lo:∀p∈L,w.heap.size<=p.1
 bel:ψ w W
section
variable {w W W':World} {L:List (Nat×Obj)}
theorem Bk.nil (w:World):Bk w [] w:=⟨λi p h=>by simp at h,List.Pairwise.nil,λp h=>(by cases h),Below.refl _ _⟩
theorem Bk.below (h:Bk w L W) (hb:ψ W W'):Bk w L W':=
 ⟨λi p hp=>xD (h.k i p hp) hb (xH (h.k i p hp)),h.inc,h.lo,h.bel.trans (hb.mono h.bel.size)⟩
theorem Bk.drew (h:Bk w L W):Bk w L W.drew:=h.below (Below.refl _ W).drew
theorem Bk.alloc (h:Bk w L W) (o:Obj):Bk w (L++[(W.heap.size,o)]) (W.alloc o):=by
 have hb:=φ W o;have h2:=h.below hb;refine⟨λi p hp=>?_,?_,λp hp=>?_,h2.bel⟩
 ·by_cases hi:i<L.length
  ·rw[List.getElem?_append_left hi] at hp;exact h2.k i p hp
  ·rw[List.getElem?_append_right ω] at hp
   have:i-L.length=0:=by
    have:=(List.getElem?_eq_some_iff.1 hp).1;simp at this;omega
   rw[this] at hp;injection hp with hp;subst hp;exact xM W o
 ·refine List.pairwise_append.2 ⟨h.inc,σ,λp hp q hq=>?_⟩;obtain⟨i,hi⟩:=List.getElem?_of_mem hp;rw[List.mem_singleton.1 hq];exact Nat.ne_of_lt (xH (h.k i p hi))
 ·rcases List.mem_append.1 hp with hp|hp
  ·exact h.lo p hp
  ·rw[List.mem_singleton.1 hp];exact h.bel.size
theorem Bk.two (h:Bk w L W) (o o':Obj):Bk w (L++[(W.heap.size,o),(W.heap.size+1,o')]) ((W.alloc o).alloc o'):=by
 have:=(h.alloc o).alloc o';simpa[World.size_alloc] using this
theorem Bk.add (h:Bk w L W) {g:Nat} {o:Obj} (hg:W.heap[g]?=some o) (hl:w.heap.size<=g) (hn:∀p∈L,p.1≠g):Bk w (L++[(g,o)]) W:=by
 refine⟨λi p hp=>?_,?_,λp hp=>?_,h.bel⟩
 ·by_cases hi:i<L.length
  ·rw[List.getElem?_append_left hi] at hp;exact h.k i p hp
  ·rw[List.getElem?_append_right ω] at hp
   have:i-L.length=0:=by
    have:=(List.getElem?_eq_some_iff.1 hp).1;simp at this;omega
   rw[this] at hp;injection hp with hp;subst hp;exact hg
 ·refine List.pairwise_append.2 ⟨h.inc,σ,λp hp q hq=>?_⟩;rw[List.mem_singleton.1 hq];exact hn p hp
 ·rcases List.mem_append.1 hp with hp|hp
  ·exact h.lo p hp
  ·rw[List.mem_singleton.1 hp];exact hl
theorem bk2 (w:World) (o0 o1:Obj):Bk w [(w.heap.size,o0),(w.heap.size+1,o1)] ((w.alloc o0).alloc o1):=(Bk.nil w).two o0 o1
theorem bk3 (w:World) (o0 o1 o2:Obj):Bk w [(w.heap.size,o0),(w.heap.size+1,o1),(w.heap.size+1+1,o2)] (((w.alloc o0).alloc o1).alloc o2):=by
 have:=(bk2 w o0 o1).alloc o2;simpa[World.size_alloc] using this
theorem bk4 (w:World) (o0 o1 o2 o3:Obj):Bk w [(w.heap.size,o0),(w.heap.size+1,o1),(w.heap.size+1+1,o2),(w.heap.size+1+1+1,o3)] ((((w.alloc o0).alloc o1).alloc o2).alloc o3):=by
 have:=(bk3 w o0 o1 o2).alloc o3;simpa[World.size_alloc] using this
theorem bk5 (w:World) (o0 o1 o2 o3 o4:Obj):Bk w [(w.heap.size,o0),(w.heap.size+1,o1),(w.heap.size+1+1,o2),(w.heap.size+1+1+1,o3),(w.heap.size+1+1+1+1,o4)] (((((w.alloc o0).alloc o1).alloc o2).alloc o3).alloc o4):=by
 have:=(bk4 w o0 o1 o2 o3).alloc o4;simpa[World.size_alloc] using this
theorem Bk.other (h:Bk w L W) {i j:Nat} {p q:Nat×Obj} (hp:L[i]?=some p) (hq:L[j]?=some q) (hne:i≠j):p.1≠q.1:=by
 obtain⟨hi,rfl⟩:=List.getElem?_eq_some_iff.1 hp;obtain⟨hj,rfl⟩:=List.getElem?_eq_some_iff.1 hq;have:=List.pairwise_iff_getElem.1 h.inc;rcases Nat.lt_or_gt_of_ne hne with hl|hl
 ·exact this i j hi hj hl
 ·exact(this j i hj hi hl).symm
theorem Bk.turn (h:Bk w L W) {i g:Nat} {o o':Obj} (hi:L[i]?=some (g,o)) (h1:W'.heap[g]?=some o') (h2:∀b x,b≠g->W.heap[b]?=some x->W'.heap[b]?=some x) (hb:ψ w W'):Bk w (L.set i (g,o')) W':=by
 obtain⟨hil,hie⟩:=List.getElem?_eq_some_iff.1 hi;refine⟨λj p hp=>?_,?_,λp hp=>?_,hb⟩
 ·by_cases e:i=j
  ·subst e;rw[List.getElem?_set_self hil] at hp;injection hp with hp;subst hp;exact h1
  ·rw[List.getElem?_set_ne e] at hp;exact h2 _ _ (λe2=>h.other hp hi (Ne.symm e) e2) (h.k j p hp)
 ·have e:(L.set i (g,o')).map (·.1)=L.map (·.1):=by
   apply List.ext_getElem?;intro j;rw[List.getElem?_map,List.getElem?_map]
   by_cases e:i=j
   ·subst e;rw[List.getElem?_set_self hil,hi]
    rfl
   ·rw[List.getElem?_set_ne e]
  have h3:(L.map (·.1)).Pairwise (·≠·):=List.pairwise_map.2 h.inc;rw[<-e] at h3;exact List.pairwise_map.1 h3
 ·rcases List.mem_or_eq_of_mem_set hp with hp|rfl
  ·exact h.lo p hp
  ·exact h.lo (g,o) (List.mem_of_getElem? hi)
theorem Bk.set (h:Bk w L W) {i g:Nat} {cs:Array Value} {t:TypeId} (hi:L[i]?=some (g,.cells cs t (0,0))) (l:List Value) (hl:l.length=cs.size):Bk w (L.set i (g,.cells l.toArray t (0,0))) (xU g 0 l W):=
 h.turn hi (uI (h.k i _ hi) hl) (λb x hb hx=>yX hb l 0 W hx) (yZ (h.lo _ (List.mem_of_getElem? hi)) l 0 W h.bel)
theorem Bk.put (h:Bk w L W) {i g:Nat} {cs:Array Value} {t:TypeId} (hi:L[i]?=some (g,.cells cs t (0,0))) (j:Nat) (u:Value):Bk w (L.set i (g,.cells (cs.setIfInBounds j u) t (0,0))) (W.setCell ⟨g,j,none⟩ u):=
 h.turn hi (xY (h.k i _ hi) j u) (λb x hb hx=>yC hx (p:=⟨g,j,none⟩) hb u) (h.bel.setCell (p:=⟨g,j,none⟩) (h.lo _ (List.mem_of_getElem? hi)) u)
end
end Go.Proofs.BK
/- Contracts of functions. Conditions: as stated. -/
import Derived.Test.YtnafbinmecekeaaGreatDoorImapSearchesProofB03
import Derived.Lib.SlBuf
import Derived.Laws.CopyOwn
import Derived.OpenShut
open Go.Proofs.Tryz
set_option maxHeartbeats 8000000
set_option maxRecDepth 100000
namespace Mailsack
def xJu (m:uT):Bs:=uX m.uid 4++uX m.flags 1++uX m.object 4++uX m.size 2
def xUb (b:wN):Bs:=rE b.name++uX b.validity 4++uX b.next 4++uX b.xU.length 1
def yCe (b:wN):Bs:=xUb b++(b.xU.map xJu).flatten
def xZb (x:zO):Bs:=uX x.given 4++uX x.boxes.length 1++(x.boxes.map yCe).flatten++uX x.subs.length 1++(x.subs.map rE).flatten
def yAv (x:zO):Bs:=if uZ x=true then xZb x else[]
def putE (x:zO):Int:=if uZ x=true then 0 else 1
theorem xD4 (m:uT):(xJu m).length=11:=by unfold xJu;simp[uD]
theorem rJ (s:Bs):(rE s).length=s.length+1:=rfl
theorem xD5 (b:wN):(xUb b).length=b.name.length+10:=by unfold xUb;simp[uD,rJ]
theorem xC8 {α:Type} {L:List α} {k:Nat} {x:α} (h:L[k]?=some x) (f:α->Bs):((L.take (k+1)).map f).flatten=((L.take k).map f).flatten++f x:=by
 rw[List.take_add_one,h];simp
theorem pM {α:Type} {L:List α} (f:α->Bs) {c:Nat} (h:∀x∈L,(f x).length<=c) (k:Nat):(((L.take k).map f).flatten).length<=c*k:=by
 induction k with
 |zero=>simp
 |succ k ih=>
  cases e:L[k]? with
  |none=>rw[List.take_add_one,e];simp only[Option.toList,List.append_nil];rw[Nat.mul_succ];omega
  |some x=>
   rw[xC8 e,List.length_append,Nat.mul_succ];have:=h x (List.mem_of_getElem? e);omega
theorem xH2 {given:Int}:∀{l:List wN} {i:Nat} {p:Bs},qD given l i p=true->∀b∈l,qE b=true
 |[],_,_,_,_,hb=>by cases hb
 |b::l,i,p,h,b',hb=>by
  unfold qD at h;simp only[Bool.and_eq_true] at h;rcases List.mem_cons.1 hb with rfl|hb
  ·exact h.1.1.1.1
  ·exact xH2 h.2 b' hb
theorem xJ4:∀{l:List Bs} {i:Nat} {p:Bs},xBj l i p=true->∀s∈l,rG s=true
 |[],_,_,_,_,hb=>by cases hb
 |b::l,i,p,h,b',hb=>by
  unfold xBj at h;simp only[Bool.and_eq_true] at h;rcases List.mem_cons.1 hb with rfl|hb
  ·exact h.1.1
  ·exact xJ4 h.2 b' hb
theorem xJr {s:Bs} (h:rG s=true):s.length<=16:=by
 unfold rG at h;simp only[Bool.and_eq_true,decide_eq_true_eq] at h;exact h.1.2
theorem xVj {b:wN} (h:qE b=true):b.name.length<=16/\b.xU.length<=30:=by
 unfold qE at h;simp only[Bool.and_eq_true,decide_eq_true_eq] at h;exact⟨xJr h.1.1.1.1,h.1.2⟩
theorem xSu {x:zO} (h:uZ x=true):x.boxes.length<=6/\x.subs.length<=6/\(∀b∈x.boxes,b.name.length<=16/\b.xU.length<=30)/\∀s∈x.subs,s.length<=16:=by
 unfold uZ at h;simp only[Bool.and_eq_true,decide_eq_true_eq] at h;exact⟨h.1.1.1.1.1.1.2,h.1.1.1.1.2,λb hb=>xVj (xH2 h.1.1.2 b hb),λs hs=>xJr (xJ4 h.1.2 s hs)⟩
theorem xMw {b:wN} (h:b.name.length<=16/\b.xU.length<=30):(yCe b).length<=400:=by
 unfold yCe;rw[List.length_append,xD5];have:=pM (L:=b.xU) xJu (c:=11) (λm _=>by rw[xD4];exact Nat.le_refl _) b.xU.length;rw[List.take_length] at this;omega
end Mailsack
namespace Go.Proofs.IX
open Go.RowKit Mailsack MM BU VB
structure xW3 (w1:World) (base g:Nat) (o:Obj) (w:World) (v:Value) (l:Bs):Prop where
 own:wC w base v l
 off:v.ownBlock≠some g
 blk:w.heap[g]?=some o
 below:Below base w1 w
 size:base<=w.heap.size
theorem xW3.step {w1 w w':World} {base g:Nat} {o:Obj} {v v':Value} {l l':Bs} (h:xW3 w1 base g o w v l) (ho:wC w' base v' l') (he:Ext w v w' v'):xW3 w1 base g o w' v' l':=by
 have ha:=he.away (xJ h.blk) h.off;exact⟨ho,ha.2,ha.1.trans h.blk,h.below.trans (he.below h.own h.size),Nat.le_trans h.size he.grown.size⟩
theorem xW3.begin {w1 wr:World} {base:Nat} {v:Value} {l:Bs} (ho:wC wr base v l) (hb:Below base w1 wr) (hs:base<=wr.heap.size) (o:Obj):xW3 w1 base wr.heap.size o (wr.alloc o) v l:=
 ⟨ho.alloc o,λe=>by have:=(World.ownsRow.lt ho _ e).2;omega,xI wr o,⟨hb.os,hb.tape,hb.output,Nat.le_trans hb.size σ,λk hk=>(Below.heap_alloc wr o k ω).trans (hb.block k hk)⟩,by simp;omega⟩
theorem wY {w1 w:World} {base g:Nat} {o:Obj} {v:Value} {l:Bs} (n:Int) (c:Nat) (h:xW3 w1 base g o w v l) (hl:l.length<4294967281) (hc:c<=4):
  Calls prog 71 #[v,.int .i64 n,.int .i64 c] w λe w'=>∃v',e=.returned v'/\xW3 w1 base g o w' v' (l++uX n c):=by
 refine(wF n c v l w base h.own h.size hl hc).mono ?_;rintro e w' ⟨v',rfl,h1,h2⟩;exact⟨v',rfl,h.step h1 h2⟩
theorem xS7 {w1 w:World} {base g:Nat} {o:Obj} {v:Value} {l:Bs} (s:Bs) (h:xW3 w1 base g o w v l) (hl:l.length<4294967281) (hs:s.length<=100):
  Calls prog 72 #[v,xK s] w λe w'=>∃v',e=.returned v'/\xW3 w1 base g o w' v' (l++rE s):=by
 refine(xBi ⟨s.toArray⟩ v l w base h.own h.size hl hs).mono ?_;rintro e w' ⟨v',rfl,h1,h2⟩;exact⟨v',rfl,h.step h1 h2⟩
theorem xSz (bv sv:Value) (x:zO) (w:World) (h:xIn w w.heap.size bv sv x) (hm:∀b∈x.boxes,b.xU.length<=9223372036854775807) (hl:x.boxes.length<=9223372036854775807) (hl2:x.subs.length<=9223372036854775807):
  Calls prog 29 #[.agg #[bv,sv,.int .i64 x.given]] w λe w'=>e=.returned (.tuple #[xK (yAv x),.int .i64 (putE x)])/\ψ w w':=by
 have HB:=ι h.boxes;have HS:=ι h.subs;have H1:=ι (φ w (.cells #[bv,sv,.int .i64 x.given] 28));have P1:=ι (xI w (.cells #[bv,sv,.int .i64 x.given] 28));have S1:=ι (uQ w (.cells #[bv,sv,.int .i64 x.given] 28))
 have HR:Hid (Calls prog 23 #[.agg #[bv,sv,.int .i64 x.given]] (w.alloc (.cells #[bv,sv,.int .i64 x.given] 28)) λe w'=>e=.returned (.bool (uZ x))/\Below (w.alloc (.cells #[bv,sv,.int .i64 x.given] 28)).heap.size (w.alloc (.cells #[bv,sv,.int .i64 x.given] 28)) w'):=
  ι (qA bv sv x _ ((h.below H1.o ν).more H1.o.size) hm hl hl2)
 obtain⟨A,c,rfl,hc,_⟩:=h.boxes;obtain⟨A2,c2,rfl,hc2,_⟩:=h.subs;clear h hm;have HT:Hid (yAv x=if uZ x=true then xZb x else[]):=ι rfl;have HE:Hid (putE x=if uZ x=true then 0 else 1):=ι rfl;generalize yAv x=T at HT⊢;generalize putE x=E at HE⊢;have HL:=ι (xSu (x:=x))
 generalize uZ x=R at HR HT HE HL;cases R with
 |false=>
  go_enter func29,ntmps29;go_wp2_with (go_at_call 23;refine HR.o.mono ?_;rintro e w2 ⟨rfl,hb2⟩)
  go_ret2;refine⟨?_,H1.o.trans (hb2.mono H1.o.size)⟩;rw[HT.o,HE.o]
  rfl
 |true=>
  obtain⟨h6,h6',hbx,hsx⟩:=HL.o rfl
  replace HT:Hid (T=xZb x):=ι (by rw[HT.o];rfl)
  replace HE:Hid (E=0):=ι (by rw[HE.o];rfl)
  clear HL;have HBX:=ι hbx;have HSX:=ι hsx;clear hbx hsx;obtain⟨P,hP⟩:∃P:Nat->Bs,∀k,P k=uX x.given 4++uX x.boxes.length 1++((x.boxes.take k).map yCe).flatten:=⟨_,λ_=>rfl⟩;have HP0:Hid (P 0=uX x.given 4++uX x.boxes.length 1):=ι (by rw[hP];simp)
  have HPS:Hid (∀k b,x.boxes[k]?=some b->P (k+1)=P k++yCe b):=ι (λk b hb=>by rw[hP,hP,xC8 hb];simp only[List.append_assoc])
  have HPL:Hid (∀k,(P k).length<=5+400*k):=ι (λk=>by
   rw[hP,List.length_append,List.length_append,uD,uD];have:=pM (L:=x.boxes) yCe (c:=400) (λb hb=>xMw (HBX.o b hb)) k;omega)
  have HPE:Hid (xZb x=P x.boxes.length++uX x.subs.length 1++(x.subs.map rE).flatten):=ι (by rw[hP,List.take_length];rfl);clear hP;go_enter func29,ntmps29;go_wp2_with fail
  refine HR.o.mono ?_;rintro e w2 ⟨rfl,hb2⟩;have p2:=xC P1.o hb2 (by rw[S1.o];omega);have y2:w2.cell? ⟨w.heap.size,2,none⟩=some (.int .i64 x.given):=xA p2 2;have HB2:=ι hb2;clear hb2;have y0:w2.cell? ⟨w.heap.size,0,none⟩=some (.slice A x.boxes.length c):=xA p2 0;clear p2 HR
  go_wp2_with fail
  refine(wF x.given 4 _ [] w2 (w.alloc (.cells #[.slice A x.boxes.length c,.slice A2 x.subs.length c2,.int .i64 x.given] 28)).heap.size (wC.nil _ _) HB2.o.size δ δ).mono ?_;rintro e w3 ⟨v3,rfl,ho3,he3⟩;have hb3:=HB2.o.trans (he3.below (wC.nil _ _) HB2.o.size)
  have p3:=xC P1.o hb3 (by rw[S1.o];omega);have y0':w3.cell? ⟨w.heap.size,0,none⟩=some (.slice A x.boxes.length c):=xA p3 0;have HB3:=ι hb3;have HO3:=ι ho3;clear hb3 he3 ho3 p3 y0 y2 HB2;go_wp2_with fail
  refine(wF x.boxes.length 1 _ _ w3 (w.alloc (.cells #[.slice A x.boxes.length c,.slice A2 x.subs.length c2,.int .i64 x.given] 28)).heap.size HO3.o HB3.o.size (by simp[uD]) δ).mono ?_;rintro e w4 ⟨v4,rfl,ho4,he4⟩;have hb4:=HB3.o.trans (he4.below HO3.o HB3.o.size)
  have p4:=xC P1.o hb4 (by rw[S1.o];omega);have y0:w4.cell? ⟨w.heap.size,0,none⟩=some (.slice A x.boxes.length c):=xA p4 0;have HB4:=ι hb4
  have HO4:Hid (wC w4 (w.alloc (.cells #[.slice A x.boxes.length c,.slice A2 x.subs.length c2,.int .i64 x.given] 28)).heap.size v4 (P 0)):=ι (by rw[HP0.o];exact ho4);clear hb4 he4 ho4 p4 y0' HB3 HO3;go_wp2_with fail
  go_loopw [4,25] (λlv iv wr=>∃k:Nat,k<=x.boxes.length/\iv=.int .i64 k/\Hid (wC wr (w.alloc (.cells #[.slice A x.boxes.length c,.slice A2 x.subs.length c2,.int .i64 x.given] 28)).heap.size lv (P k))/\Hid (Below (w.alloc (.cells #[.slice A x.boxes.length c,.slice A2 x.subs.length c2,.int .i64 x.given] 28)).heap.size (w.alloc (.cells #[.slice A x.boxes.length c,.slice A2 x.subs.length c2,.int .i64 x.given] 28)) wr)) (λ_ iv _=>x.boxes.length- (intOf iv).toNat)
  case atStart=>exact⟨0,Nat.zero_le _,rfl,HO4,HB4⟩
  case round=>
   obtain⟨k,hk,rfl,hown,hbel⟩:=hrel;clear HO4 HB4 y0
   by_cases hlt:k<x.boxes.length
   ·obtain⟨b,hx⟩:∃b,x.boxes[k]?=some b:=⟨_,List.getElem?_eq_getElem hlt⟩;obtain⟨g,off,c',mv,e0,hg,q0,q1,q2,q3,hmv⟩:=xDx HB.o hx;injection e0 with e0 _ e0';subst e0 e0';have hwr:ψ w wr:=H1.o.trans (hbel.o.mono H1.o.size);have r0:=(hwr.cell (p:=⟨g,off+k*4,none⟩) hg).trans q0
    have r1:=(hwr.cell (p:=⟨g,off+k*4+1,none⟩) hg).trans q1;have r2:=(hwr.cell (p:=⟨g,off+k*4+2,none⟩) hg).trans q2;have r3:=(hwr.cell (p:=⟨g,off+k*4+3,none⟩) hg).trans q3;obtain⟨hbn,hbm⟩:=HBX.o b (List.mem_of_getElem? hx);have HSt:=ι (HPS.o k b hx);have HLk:=ι (HPL.o k)
    have hmv':=hmv;obtain⟨Am,cm,rfl,hcm,_⟩:=hmv';have HMv:=ι hmv;have Hwr:=ι hwr;have HH:=ι (xW3.begin hown.o hbel.o hbel.o.size (.cells #[xK b.name,.int .i64 b.validity,.int .i64 b.next,.slice Am b.xU.length cm] 39));clear q0 q1 q2 q3 hmv hwr hx;go_wp2_with fail
    refine(xS7 b.name HH.o (by have:=HLk.o;omega) ω).mono ?_;rintro e w5 ⟨v5,rfl,hh5⟩;have HL5:Hid ((P k++rE b.name).length<=5+400*k+17):=ι (by rw[List.length_append,rJ];have:=HLk.o;omega);have HH5:=ι hh5
    have z1:w5.cell? ⟨wr.heap.size,1,none⟩=some (.int .i64 b.validity):=xA hh5.blk 1;clear hh5 HH r0 r1 r2 r3;go_wp2_with fail
    refine(wY b.validity 4 HH5.o (by have:=HL5.o;omega) δ).mono ?_;rintro e w6 ⟨v6,rfl,hh6⟩;have HL6:Hid ((P k++rE b.name++uX b.validity 4).length<=5+400*k+21):=ι (by rw[List.length_append,uD];have:=HL5.o;omega);have HH6:=ι hh6
    have z2:w6.cell? ⟨wr.heap.size,2,none⟩=some (.int .i64 b.next):=xA hh6.blk 2;clear hh6 HH5 z1 HL5;go_wp2_with fail
    refine(wY b.next 4 HH6.o (by have:=HL6.o;omega) δ).mono ?_;rintro e w7 ⟨v7,rfl,hh7⟩;have HL7:Hid ((P k++rE b.name++uX b.validity 4++uX b.next 4).length<=5+400*k+25):=ι (by rw[List.length_append,uD];have:=HL6.o;omega);have HH7:=ι hh7
    have z3:w7.cell? ⟨wr.heap.size,3,none⟩=some (.slice Am b.xU.length cm):=xA hh7.blk 3;clear hh7 HH6 z2 HL6;go_wp2_with fail
    refine(wY b.xU.length 1 HH7.o (by have:=HL7.o;omega) δ).mono ?_;rintro e w8 ⟨v8,rfl,hh8⟩;have HH8:=ι hh8;have z3':w8.cell? ⟨wr.heap.size,3,none⟩=some (.slice Am b.xU.length cm):=xA hh8.blk 3;clear hh8 HH7 z3 HL7
    obtain⟨M,hM⟩:∃M:Nat->Bs,∀j,M j=P k++xUb b++((b.xU.take j).map xJu).flatten:=⟨_,λ_=>rfl⟩;have HM0:Hid (M 0=P k++rE b.name++uX b.validity 4++uX b.next 4++uX b.xU.length 1):=ι (by rw[hM];unfold xUb;simp[List.append_assoc])
    have HMS:Hid (∀j m,b.xU[j]?=some m->M (j+1)=M j++xJu m):=ι (λj m hm=>by rw[hM,hM,xC8 hm];simp only[List.append_assoc])
    have HML:Hid (∀j,(M j).length<=5+400*k+26+11*j):=ι (λj=>by
     rw[hM,List.length_append,List.length_append,xD5];have:=pM (L:=b.xU) xJu (c:=11) (λm _=>by rw[xD4];exact Nat.le_refl _) j;have:=HLk.o;omega)
    have HME:Hid (P (k+1)=M b.xU.length):=ι (by rw[HSt.o,hM,List.take_length];unfold yCe;simp only[List.append_assoc]);clear hM;have HB8:=ι HH8.o.below
    have HO8:Hid (wC w8 (w.alloc (.cells #[.slice (some ⟨g,off,none⟩) x.boxes.length c,.slice A2 x.subs.length c2,.int .i64 x.given] 28)).heap.size v8 (M 0)):=ι (by rw[HM0.o];exact HH8.o.own);clear HH8;go_wp2_with fail
    go_loopw [4,49] (λlv iv wr=>∃j:Nat,j<=b.xU.length/\iv=.int .i64 j/\Hid (wC wr (w.alloc (.cells #[.slice (some ⟨g,off,none⟩) x.boxes.length c,.slice A2 x.subs.length c2,.int .i64 x.given] 28)).heap.size lv (M j))/\Hid (Below (w.alloc (.cells #[.slice (some ⟨g,off,none⟩) x.boxes.length c,.slice A2 x.subs.length c2,.int .i64 x.given] 28)).heap.size (w.alloc (.cells #[.slice (some ⟨g,off,none⟩) x.boxes.length c,.slice A2 x.subs.length c2,.int .i64 x.given] 28)) wr)) (λ_ iv _=>b.xU.length- (intOf iv).toNat)
    case atStart=>exact⟨0,Nat.zero_le _,rfl,HO8,HB8⟩
    case round=>
     rename_i wq _
     obtain⟨j,hj,rfl,hown2,xFp⟩:=hrel;clear HO8 HB8 z3'
     by_cases hlt2:j<b.xU.length
     ·obtain⟨m,hxm⟩:∃m,b.xU[j]?=some m:=⟨_,List.getElem?_eq_getElem hlt2⟩;obtain⟨A4,c4,e0,_,hrd⟩:=HMv.o;injection e0 with e0 _ e0';subst e0 e0';obtain⟨g4,off4,rfl,hg4,hcell⟩:=hrd ω;obtain⟨q1,q2,q3,q4⟩:=hcell j m hxm;have hwq:ψ w wr:=H1.o.trans (xFp.o.mono H1.o.size)
      have r1:=(hwq.cell (p:=⟨g4,off4+j*4,none⟩) hg4).trans q1;have r2:=(hwq.cell (p:=⟨g4,off4+j*4+1,none⟩) hg4).trans q2;have r3:=(hwq.cell (p:=⟨g4,off4+j*4+2,none⟩) hg4).trans q3;have r4:=(hwq.cell (p:=⟨g4,off4+j*4+3,none⟩) hg4).trans q4
      have HK1:=ι (xW3.begin hown2.o xFp.o xFp.o.size (.cells #[.int .i64 m.uid,.int .i64 m.flags,.int .i64 m.object,.int .i64 m.size] 58));have HMj:=ι (HML.o j);have HMs:=ι (HMS.o j m hxm);clear q1 q2 q3 q4 hcell hrd hxm hwq;go_wp2_with fail
      refine(wY m.uid 4 HK1.o (by have:=HMj.o;omega) δ).mono ?_;rintro e w9 ⟨v9,rfl,hk9⟩;have HL9:Hid ((M j++uX m.uid 4).length<=5+400*k+26+11*j+4):=ι (by rw[List.length_append,uD];have:=HMj.o;omega);have HK9:=ι hk9
      have z1:w9.cell? ⟨wr.heap.size,1,none⟩=some (.int .i64 m.flags):=xA hk9.blk 1;clear hk9 HK1 r1 r2 r3 r4;go_wp2_with fail
      refine(wY m.flags 1 HK9.o (by have:=HL9.o;omega) δ).mono ?_;rintro e w10 ⟨v10,rfl,hk10⟩;have HL10:Hid ((M j++uX m.uid 4++uX m.flags 1).length<=5+400*k+26+11*j+5):=ι (by rw[List.length_append,uD];have:=HL9.o;omega);have HK10:=ι hk10
      have z2:w10.cell? ⟨wr.heap.size,2,none⟩=some (.int .i64 m.object):=xA hk10.blk 2;clear hk10 HK9 z1 HL9;go_wp2_with fail
      refine(wY m.object 4 HK10.o (by have:=HL10.o;omega) δ).mono ?_;rintro e w11 ⟨v11,rfl,hk11⟩;have HL11:Hid ((M j++uX m.uid 4++uX m.flags 1++uX m.object 4).length<=5+400*k+26+11*j+9):=ι (by rw[List.length_append,uD];have:=HL10.o;omega);have HK11:=ι hk11
      have z3:w11.cell? ⟨wr.heap.size,3,none⟩=some (.int .i64 m.size):=xA hk11.blk 3;clear hk11 HK10 z2 HL10;go_wp2_with fail
      refine(wY m.size 2 HK11.o (by have:=HL11.o;omega) δ).mono ?_;rintro e w12 ⟨v12,rfl,hk12⟩;have HK12:=ι hk12;clear hk12 HK11 z3 HL11;go_wp2
      exact⟨⟨j+1,ω,by go_num,ι (by rw[HMs.o];unfold xJu;simp only[<-List.append_assoc];exact HK12.o.own),ι HK12.o.below⟩,by simp[intOf];omega⟩
     ·obtain rfl:j=b.xU.length:=ω;have HOx:Hid (wC wr (w.alloc (.cells #[.slice (some ⟨g,off,none⟩) x.boxes.length c,.slice A2 x.subs.length c2,.int .i64 x.given] 28)).heap.size _ (P (k+1))):=ι (by rw[HME.o];exact hown2.o);go_wp2
      exact⟨⟨k+1,ω,by go_num,HOx,xFp⟩,by simp[intOf];omega⟩
   ·obtain rfl:k=x.boxes.length:=ω;have p5:=xC P1.o hbel.o (by rw[S1.o];omega);have y1:wr.cell? ⟨w.heap.size,1,none⟩=some (.slice A2 x.subs.length c2):=xA p5 1;have HLk:=ι (HPL.o x.boxes.length)
    have HPE1:Hid (xZb x=P x.boxes.length++uX x.subs.length 1++(x.subs.map rE).flatten):=HPE;generalize P x.boxes.length=PB at hown HLk HPE1;clear p5 HPS HPL HP0 HPE;go_wp2_with fail
    refine(wF x.subs.length 1 _ _ wr (w.alloc (.cells #[.slice A x.boxes.length c,.slice A2 x.subs.length c2,.int .i64 x.given] 28)).heap.size hown.o hbel.o.size (by have:=HLk.o;omega) δ).mono ?_;rintro e w5 ⟨v5,rfl,ho5,he5⟩
    have hb5:=hbel.o.trans (he5.below hown.o hbel.o.size);have p5:=xC P1.o hb5 (by rw[S1.o];omega);have y1':w5.cell? ⟨w.heap.size,1,none⟩=some (.slice A2 x.subs.length c2):=xA p5 1
    obtain⟨M,hM⟩:∃M:Nat->Bs,∀j,M j=PB++uX x.subs.length 1++((x.subs.take j).map rE).flatten:=⟨_,λ_=>rfl⟩;have HM0:Hid (M 0=PB++uX x.subs.length 1):=ι (by rw[hM];simp)
    have HMS:Hid (∀j s,x.subs[j]?=some s->M (j+1)=M j++rE s):=ι (λj m hm=>by rw[hM,hM,xC8 hm];simp only[List.append_assoc])
    have HML:Hid (∀j,(M j).length<=5+400*x.boxes.length+1+17*j):=ι (λj=>by
     rw[hM,List.length_append,List.length_append,uD];have:=pM (L:=x.subs) rE (c:=17) (λm hm=>by rw[rJ];have:=HSX.o m hm;omega) j;have:=HLk.o;omega)
    have HME:Hid (T=M x.subs.length):=ι (by rw[HT.o,HPE1.o,hM,List.take_length]);clear hM;have HB5:=ι hb5;have HO5:Hid (wC w5 (w.alloc (.cells #[.slice A x.boxes.length c,.slice A2 x.subs.length c2,.int .i64 x.given] 28)).heap.size v5 (M 0)):=ι (by rw[HM0.o];exact ho5)
    clear hown hbel y1 ho5 he5 hb5 p5 HPE1 HLk HM0;go_wp2_with fail
    go_loopw [4,79] (λlv iv wr=>∃j:Nat,j<=x.subs.length/\iv=.int .i64 j/\Hid (wC wr (w.alloc (.cells #[.slice A x.boxes.length c,.slice A2 x.subs.length c2,.int .i64 x.given] 28)).heap.size lv (M j))/\Hid (Below (w.alloc (.cells #[.slice A x.boxes.length c,.slice A2 x.subs.length c2,.int .i64 x.given] 28)).heap.size (w.alloc (.cells #[.slice A x.boxes.length c,.slice A2 x.subs.length c2,.int .i64 x.given] 28)) wr)) (λ_ iv _=>x.subs.length- (intOf iv).toNat)
    case atStart=>exact⟨0,Nat.zero_le _,rfl,HO5,HB5⟩
    case round=>
     obtain⟨j,hj,rfl,hown2,xFp⟩:=hrel;clear HO5 HB5 y1'
     by_cases hlt2:j<x.subs.length
     ·obtain⟨s,hxm⟩:∃s,x.subs[j]?=some s:=⟨_,List.getElem?_eq_getElem hlt2⟩;obtain⟨A4,c4,e0,_,hrd⟩:=HS.o;injection e0 with e0 _ e0';subst e0 e0';obtain⟨g,off,rfl,hg,hcell⟩:=hrd ω;have q1:=hcell j s hxm;have hwq:ψ w wr:=H1.o.trans (xFp.o.mono H1.o.size)
      have r1:=(hwq.cell (p:=⟨g,off+j,none⟩) hg).trans q1;have HMj:=ι (HML.o j);have HMs:=ι (HMS.o j s hxm);have hsl:=HSX.o s (List.mem_of_getElem? hxm);clear q1 hcell hrd hxm hwq;go_wp2_with fail
      refine(xBi ⟨s.toArray⟩ _ _ wr (w.alloc (.cells #[.slice A x.boxes.length c,.slice (some ⟨g,off,none⟩) x.subs.length c2,.int .i64 x.given] 28)).heap.size hown2.o xFp.o.size (by have:=HMj.o;omega) (by show s.length<=100;omega)).mono ?_;rintro e w6 ⟨v6,rfl,ho6,he6⟩
      have HB6:=ι (xFp.o.trans (he6.below hown2.o xFp.o.size));have HO6:=ι ho6;clear ho6 he6;go_wp2;exact⟨⟨j+1,ω,by go_num,ι (by rw[HMs.o];exact HO6.o),HB6⟩,by simp[intOf];omega⟩
     ·obtain rfl:j=x.subs.length:=ω;have hcv:=xV9 hown2.o;go_wp2;go_ret2;exact⟨by rw[HME.o,HE.o];rfl,H1.o.trans (xFp.o.mono H1.o.size)⟩
end Go.Proofs.IX
namespace Mailsack
structure RdP where
 rest:Bs
 bad:Bool
def oct (z:Int):UInt8:=UInt8.ofNat (z % 256).toNat
theorem xAy (z:Int):((oct z).toNat:Int)=z % 256:=by
 unfold oct;have h1:=Int.emod_nonneg z (b:=256) δ;have h2:=Int.emod_lt_of_pos z (b:=256) δ;rw[UInt8.toNat_ofNat',Nat.mod_eq_of_lt ω];omega
def xO (n:Nat):Bs:=List.replicate n 0
theorem yS (n:Nat):(xO n).length=n:=by simp[xO]
end Mailsack
namespace Go.Proofs.BB
open Go.RowKit Mailsack MM
def xX (l:Bs):Array Value:=(l.map λb=>Value.int .u8 (b.toNat:Int)).toArray
theorem uG (l:Bs):(xX l).size=l.length:=by simp[xX]
theorem kU {l:Bs} {i:Nat} (h:i<l.length):(xX l)[i]?=some (.int .u8 ((l.getD i 0).toNat:Int)):=by
 simp[xX,List.getD_eq_getElem?_getD,List.getElem?_eq_getElem h]
theorem xOe (l:Bs) (i:Nat) (b:UInt8):(xX l).setIfInBounds i (.int .u8 (b.toNat:Int))=xX (l.set i b):=by
 simp[xX,List.map_set]
theorem xCb (l:Bs) (i:Nat) (z:Int):(xX l).setIfInBounds i (.int .u8 (z % 256))=xX (l.set i (oct z)):=by
 rw[<-xAy,xOe]
theorem xIf (l:Bs):∀v∈(xX l).toList,v.oneCell'=true:=by
 intro v hv;simp[xX] at hv;obtain⟨b,_,rfl⟩:=hv
 rfl
theorem xV0 (n:Nat):madeCells (Value.cells (.int .u8 0)) (n*1)=xX (xO n):=by
 unfold xO;apply Array.ext_getElem?;intro i
 by_cases h:i<n
 ·have:(xX (List.replicate n 0))[i]?=some (.int .u8 0):=by rw[kU (by simpa using h)];simp[List.getD_eq_getElem?_getD,h]
  rw[this];simp[madeCells,Value.cells,h,Nat.mod_one]
 ·rw[Array.getElem?_eq_none (by simp[madeCells];omega),Array.getElem?_eq_none (by rw[uG];simp;omega)]
def wZ (W:World) (g:Nat) (l:Bs):Prop:=W.heap[g]?=some (.cells (xX l) 5 (0,0))
theorem wZ.blk {W:World} {g:Nat} {l:Bs} (h:wZ W g l):W.heap[g]?=some (.cells (xX l) 5 (0,0)):=h
theorem wZ.cell {W:World} {g:Nat} {l:Bs} (h:wZ W g l) {i:Nat} (hi:i<l.length):W.cell? ⟨g,i,none⟩=some (.int .u8 ((l.getD i 0).toNat:Int)):=by rw[xA h.blk,kU hi]
theorem wZ.free {W:World} {g:Nat} {l:Bs} (h:wZ W g l) (i:Nat):W.frozen? ⟨g,i,none⟩=false:=xD h.blk i
theorem wZ.put {W:World} {g:Nat} {l:Bs} (h:wZ W g l) (i:Nat) (z:Int):wZ (W.setCell ⟨g,i,none⟩ (.int .u8 (z % 256))) g (l.set i (oct z)):=by
 have:=yC h.blk i (.int .u8 (z % 256));rw[xCb] at this;exact this
theorem made (W:World) (n c:Nat) (hc:n<=c) (hm:c<=281474976710656):(Instr.makeSlice 125 (.int .i64 (n:Int)) (.int .i64 (c:Int))).run prog W=.ok (.slice (some ⟨W.heap.size,0,none⟩) n c) (W.alloc (.cells (xX (xO c)) 5)):=by
 have hinfo:(prog.info? 5).map (λi=>(i.zero,i.size,i.bytes))=some (some (.int .u8 0),1,1):=κ;cases hq:prog.info? 5 with
 |none=>rw[hq] at hinfo;cases hinfo
 |some i=>
  rw[hq] at hinfo;simp only[Option.map_some,Option.some.injEq,Prod.mk.injEq] at hinfo;obtain⟨hz,hs,hb⟩:=hinfo;have h:=run_make (P:=prog) (w:=W) 125 5 i _ underlying125 hq hz .i64 .i64 (n:Int) (c:Int) ω ω (by rw[hb];omega) ω;simp only[Int.toNat_natCast] at h
  rw[hs,xV0] at h;exact h
theorem copied {W:World} {g:Nat} {l:Bs} (h:wZ W g l) (ty:TypeId) (dLen dCap:Nat) (s:ByteArray) (h1:s.size<=dLen) (h2:s.size<=l.length):
  (Builtin.copy_ #[125,9] ty #[.slice (some ⟨g,0,none⟩) dLen dCap,.string s]).run prog W=.ok (goInt s.size) (W.setRow g (xX (s.data.toList++l.drop s.size))):=by
 have h3:=Lib.run_copy_row_string (P:=prog) W 125 9 ty 5 g 0 dLen dCap s (xX l) _ underlying125 κ h.blk h1 (by rw[uG];omega)
 have h4:((xX l).toList.take 0++Lib.byteCells s.data.toList++(xX l).toList.drop (0+s.size)).toArray=xX (s.data.toList++l.drop s.size):=by
  simp[xX,Lib.byteCells,List.map_drop]
 rw[h3,h4]
theorem wZ.row {W:World} {g:Nat} {l:Bs} (h:wZ W g l) (l':Bs):wZ (W.setRow g (xX l')) g l':=setRow_heap W g _ _ _ _ h.blk
theorem xS6 {W:World} {g:Nat} {l:Bs} (h:wZ W g l) (n cap:Nat) (hn:n<=l.length):(convert 125 9 (.slice (some ⟨g,0,none⟩) n cap)).run prog W=.ok (.string ⟨(l.take n).toArray⟩) W:=by
 have h1:=run_convert_bytes_back (P:=prog) W 125 9 5 ⟨g,0,none⟩ cap (l.take n) underlying125 underlying5 underlying9 (λj hj=>by
  have hj':j<l.length:=by rw[List.length_take] at hj;omega
  have hadd:(⟨g,0,none⟩:Addr).add j=⟨g,j,none⟩:=by unfold Addr.add;split<;>simp_all
  rw[hadd,h.cell hj',List.getElem_take,List.getD_eq_getElem?_getD,List.getElem?_eq_getElem hj']
  rfl)
 rw[List.length_take,Nat.min_eq_left hn] at h1;exact h1
def vJ (l:List Bs):Array Value:=(l.map xK).toArray
theorem xK8 (l:List Bs):(vJ l).size=l.length:=by simp[vJ]
theorem xOc {l:List Bs} {i:Nat} {x:Bs} (h:l[i]?=some x):(vJ l)[i]?=some (xK x):=by
 simp[vJ,h]
theorem xYh (l:List Bs) (i:Nat) (x:Bs):(vJ l).setIfInBounds i (xK x)=vJ (l.set i x):=by
 simp[vJ,List.map_set]
theorem xUy (n:Nat):madeCells (Value.cells (.string ⟨#[]⟩)) (n*1)=vJ (List.replicate n []):=by
 apply Array.ext_getElem?;intro i
 by_cases h:i<n
 ·have:(vJ (List.replicate n []))[i]?=some (xK []):=xOc (by simp[h]);rw[this];simp[madeCells,Value.cells,h,Nat.mod_one,xK]
 ·rw[Array.getElem?_eq_none (by simp[madeCells];omega),Array.getElem?_eq_none (by rw[xK8];simp;omega)]
def jU (W:World) (g:Nat) (l:List Bs):Prop:=W.heap[g]?=some (.cells (vJ l) 9 (0,0))
theorem jU.blk {W:World} {g:Nat} {l:List Bs} (h:jU W g l):W.heap[g]?=some (.cells (vJ l) 9 (0,0)):=h
theorem jU.lt {W:World} {g:Nat} {l:List Bs} (h:jU W g l):g<W.heap.size:=xJ h.blk
theorem jU.cell {W:World} {g:Nat} {l:List Bs} (h:jU W g l) {i:Nat} {x:Bs} (hi:l[i]?=some x):W.cell? ⟨g,i,none⟩=some (xK x):=by rw[xA h.blk,xOc hi]
theorem jU.free {W:World} {g:Nat} {l:List Bs} (h:jU W g l) (i:Nat):W.frozen? ⟨g,i,none⟩=false:=xD h.blk i
theorem jU.put {W:World} {g:Nat} {l:List Bs} (h:jU W g l) (i:Nat) (x:Bs):jU (W.setCell ⟨g,i,none⟩ (xK x)) g (l.set i x):=by
 have:=yC h.blk i (xK x);rw[xYh] at this;exact this
theorem jU.below {W W':World} {B g:Nat} {l:List Bs} (h:jU W g l) (hb:Below B W W') (hg:g<B):jU W' g l:=xC h.blk hb hg
theorem jU.far {W:World} {g:Nat} {l:List Bs} (h:jU W g l) {p:Addr} (hp:g≠p.block) (u:Value):jU (W.setCell p u) g l:=zL h.blk hp u
theorem jU.rd {W:World} {g:Nat} {l:List Bs} (h:jU W g l) (c:Nat) (hc:l.length<=c):RdS W (g+1) (.slice (some ⟨g,0,none⟩) l.length c) l:=
 ⟨_,c,rfl,hc,λ_=>⟨g,0,rfl,Nat.lt_succ_self g,λj x hx=>by rw[Nat.zero_add];exact h.cell hx⟩⟩
theorem madeS (W:World) (n:Nat) (hm:n<=1000000):(Instr.makeSlice 22 (.int .i64 (n:Int)) (.int .i64 (n:Int))).run prog W=.ok (.slice (some ⟨W.heap.size,0,none⟩) n n) (W.alloc (.cells (vJ (List.replicate n [])) 9)):=by
 have hinfo:(prog.info? 9).map (λi=>(i.zero,i.size,i.bytes))=some (some (.string ⟨#[]⟩),1,16):=κ;cases hq:prog.info? 9 with
 |none=>rw[hq] at hinfo;cases hinfo
 |some i=>
  rw[hq] at hinfo;simp only[Option.map_some,Option.some.injEq,Prod.mk.injEq] at hinfo;obtain⟨hz,hs,hb⟩:=hinfo;have h:=run_make (P:=prog) (w:=W) 22 9 i _ underlying22 hq hz .i64 .i64 (n:Int) (n:Int) ω ω (by rw[hb];omega) ω;simp only[Int.toNat_natCast] at h
  rw[hs,xUy] at h;exact h
end Go.Proofs.BB
namespace Mailsack
structure Wr where
 at_:Int
 data:Bs
structure Dk where
 secs:List Bs
 cache:List Wr
end Mailsack
namespace Go.Proofs.DS
open Go.RowKit Mailsack MM BB
abbrev yQ (a b:Value):Obj:=.cells #[a,b] 25
end Go.Proofs.DS
namespace Mailsack
def U32 (x:Int):Prop:=0<=x/\x<4294967296
theorem pY (op:Go.BinOp) (x y:Int):U32 (Go.bits op .u32 x y):=by
 have h:=Go.wf_bits op .u32 x y;simp[Go.Lit.wf] at h;have e1:Go.IntKind.u32.min=0:=δ;have e2:Go.IntKind.u32.max=4294967295:=δ;unfold U32;omega
def xGb (x:Int) (s:Nat):Int:=Go.bits .or .u32 (x*2^s % 4294967296) (x / 2^(32-s))
theorem xBn (x:Int) (s:Nat):U32 (xGb x s):=pY _ _ _
end Mailsack
namespace Go.Proofs.SH
open Go.RowKit Mailsack
theorem jJ (x k:Int) (s:Nat) (w:World) (h0:U32 x) (hk:bits BinOp.and IntKind.u64 (IntKind.u64.wrap k) 31=(s:Int)) (hs:s<32):
  Calls prog 395 #[.int .u32 x,.int .i64 k] w λe w'=>e=.returned (.int .u32 (xGb x s))/\w'=w:=by
 obtain⟨h0,h1⟩:=h0;go_enter func395,ntmps395;go_wp2;go_ret;exact⟨rfl,rfl⟩
def yG (ws:List Int):Array Value:=(ws.map λx=>Value.int .u32 x).toArray
theorem yH (ws:List Int):(yG ws).size=ws.length:=by simp[yG]
theorem zY {ws:List Int} {i:Nat} (h:i<ws.length):(yG ws)[i]?=some (.int .u32 (ws.getD i 0)):=by
 simp[yG,List.getD_eq_getElem?_getD,List.getElem?_eq_getElem h]
theorem xCa (ws:List Int) (i:Nat) (x:Int):(yG ws).setIfInBounds i (.int .u32 x)=yG (ws.set i x):=by
 simp[yG,List.map_set]
end Go.Proofs.SH
namespace Mailsack
def yO (s:ByteArray) (i:Nat):Int:=((s.data.toList.getD i 0).toNat:Int)
theorem yZ (s:ByteArray) (i:Nat):0<=yO s i/\yO s i<256:=by
 unfold yO;have:=(s.data.toList.getD i 0).toNat_lt;omega
def yA3 (c0 c1 c2 c3:Int):Int:=Go.bits .or .u32 (Go.bits .or .u32 (Go.bits .or .u32 (c0*16777216) (c1*65536)) (c2*256)) c3
def xG1 (b:ByteArray) (k:Nat):Int:=yA3 (yO (b.extract (4*k) (4*k+4)) 0) (yO (b.extract (4*k) (4*k+4)) 1) (yO (b.extract (4*k) (4*k+4)) 2) (yO (b.extract (4*k) (4*k+4)) 3)
theorem xOz (b:ByteArray) (k:Nat):U32 (xG1 b k):=by unfold xG1 yA3;exact pY _ _ _
def xSs (b:ByteArray):Nat->List Int
 |0=>List.replicate 64 0
 |k+1=>(xSs b k).set k (xG1 b k)
def xXp (ws:List Int) (i:Nat):Int:=
 ((ws.getD (i-16) 0+Go.bits .xor .u32 (Go.bits .xor .u32 (xGb (ws.getD (i-15) 0) 25) (xGb (ws.getD (i-15) 0) 14)) (ws.getD (i-15) 0 / 8)+ws.getD (i-7) 0) % 4294967296+Go.bits .xor .u32 (Go.bits .xor .u32 (xGb (ws.getD (i-2) 0) 15) (xGb (ws.getD (i-2) 0) 13)) (ws.getD (i-2) 0 / 1024)) % 4294967296
def xPe (b:ByteArray):Nat->List Int
 |0=>xSs b 16
 |k+1=>(xPe b k).set (16+k) (xXp (xPe b k) (16+k))
def kZ (b:ByteArray):List Int:=xPe b 48
def wO (ws:List Int):Prop:=∀i,U32 (ws.getD i 0)
theorem wO.set {ws:List Int} (h:wO ws) (i:Nat) {x:Int} (hx:U32 x):wO (ws.set i x):=by
 intro j;rw[List.getD_eq_getElem?_getD,List.getElem?_set];split
 ·split
  ·exact hx
  ·exact⟨δ,δ⟩
 ·have:=h j
  rwa [List.getD_eq_getElem?_getD] at this
theorem xHj (b:ByteArray):∀k,(xSs b k).length=64
 |0=>by simp[xSs]
 |k+1=>by simp[xSs,xHj b k]
theorem xBm (b:ByteArray):∀k,(xPe b k).length=64
 |0=>xHj b 16
 |k+1=>by simp[xPe,xBm b k]
theorem xZa (b:ByteArray):∀k,wO (xSs b k)
 |0=>λi=>by
  unfold xSs;rw[List.getD_eq_getElem?_getD,List.getElem?_replicate];split<;>exact⟨δ,δ⟩
 |k+1=>(xZa b k).set k (xOz b k)
theorem vD (x:Int):U32 (x % 4294967296):=⟨ω,ω⟩
theorem xSr (b:ByteArray):∀k,wO (xPe b k)
 |0=>xZa b 16
 |k+1=>(xSr b k).set (16+k) (vD _)
end Mailsack
namespace Go.Proofs.SH
open Go.RowKit Mailsack MM
theorem zG {P:Program} {t:TypeId} (ht:P.underlying t=some .string) (s:ByteArray) (n:Int) (i:Nat) (hn:n=i) (hi:i<s.size) (w:World):(Instr.index t (.string s) (.int .i64 n)).run P w=.ok (.int .u8 (yO s i)) w:=by
 subst hn;rw[run_index_string _ _ _ _ _ ht,dif_pos ⟨ω,ω⟩];simp[yO,List.getD_eq_getElem?_getD,List.getElem?_eq_getElem (show i<s.data.toList.length by simpa using hi)]
 rfl
theorem qN (ws:List Int):(yG ws).all (·.oneCell')=true:=by
 simp[yG,Value.oneCell']
structure xFh (w:World) (ws:List Int) (W:World):Prop where
 blk:W.heap[w.heap.size+1]?=some (.cells (yG ws) 438 (0,0))
 res:W.heap[w.heap.size]?=some (.cells (yG (List.replicate 64 0)) 438 (0,0))
 bel:ψ w W
theorem xFh.drew {w:World} {ws:List Int} {W:World} (h:xFh w ws W):xFh w ws W.drew:=⟨h.blk,h.res,h.bel.drew⟩
theorem xFh.put {w:World} {ws:List Int} {W:World} (h:xFh w ws W) (i:Nat) (x:Int):xFh w (ws.set i x) (W.setCell ⟨w.heap.size+1,i,none⟩ (.int .u32 x)):=by
 refine⟨?_,zL h.res (p:=⟨w.heap.size+1,i,none⟩) σ _,h.bel.setCell (p:=⟨w.heap.size+1,i,none⟩) σ _⟩;have:=yC h.blk i (.int .u32 x);rw[xCa] at this;exact this
theorem xN7 {w:World} {ws:List Int} {z:Int} {i j:Nat} {c:Bool} {W:World} (hj:j<ws.length) (hne:j≠i) (h:xFh w (if c=true then ws.set i z else ws) W):W.cell? ⟨w.heap.size+1,j,none⟩=some (.int .u32 (ws.getD j 0)):=by
 rw[xA h.blk];cases c
 ·exact zY hj
 ·rw[if_pos rfl,zY (by simpa using hj),List.getD_eq_getElem?_getD,List.getElem?_set,if_neg (Ne.symm hne),<-List.getD_eq_getElem?_getD]
theorem xJb (b:ByteArray) (w:World) (hb:b.size=64):
  Calls prog 394 #[.string b] w λe w'=>e=.returned (.agg (yG (kZ b)))/\ψ w w':=by
 go_enter func394,ntmps394;go_wp2_with fail
 go_loopw [11] (λiv wr=>∃k:Nat,k<=16/\iv=.int .i64 k/\Hid (xFh w (xSs b k) wr)) (λiv _=>16- (intOf iv).toNat)
 case atStart=>exact⟨0,δ,rfl,ι ⟨zD _ _ _,zK _ _ _,((φ w _).alloc σ _)⟩⟩
 case round=>
  obtain⟨k,hk,rfl,hr⟩:=hrel
  by_cases hlt:k<16
  ·go_upto_region 6 with fail
   have hl:=xHj b k;have HW:Hid (xSs b (k+1)=(xSs b k).set k (xG1 b k)):=ι rfl;obtain⟨z,hz⟩:∃z,xG1 b k=z:=⟨_,rfl⟩;rw[hz] at HW;generalize xSs b k=ws at hr hl HW
   refine RG.yI [20] (λL W=>Hid (xFh w (if L 20 then ws.set k z else ws) W)) (λL L' W h hI=>by rw[<-h 20 δ];exact hI) κ κ δ (ι hr.o.drew) ?_;iterate 2 refine RG.lS ?_
   unfold xG1 at hz;obtain⟨x,hx⟩:∃x,b.extract (4*k) (4*k+4)=x:=⟨_,rfl⟩;rw[hx] at hz⊢;have hxs:x.size=4:=by rw[<-hx,ByteArray.size_extract];omega
   have i0:=λw=>zG (P:=prog) underlying9 x 0 0 rfl ω w;have i1:=λw=>zG (P:=prog) underlying9 x 1 1 rfl ω w;have i2:=λw=>zG (P:=prog) underlying9 x 2 2 rfl ω w;have i3:=λw=>zG (P:=prog) underlying9 x 3 3 rfl ω w;obtain⟨r00,r01⟩:=yZ x 0
   obtain⟨r10,r11⟩:=yZ x 1;obtain⟨r20,r21⟩:=yZ x 2;obtain⟨r30,r31⟩:=yZ x 3;generalize yO x 0=c0 at i0 r00 r01 hz;generalize yO x 1=c1 at i1 r10 r11 hz;generalize yO x 2=c2 at i2 r20 r21 hz;generalize yO x 3=c3 at i3 r30 r31 hz;unfold yA3 at hz;have HZ:=ι hz;clear hx hz
   iterate 17 refine RG.lS ?_
   rw[HZ.o];refine RG.lS ?_;apply RG.xV
   ·rfl
   ·intro L w9 h0 _ hw9;rw[h0,if_neg σ] at hw9;have q1:=xA hw9.o.blk k;rw[zY ω] at q1;have q2:=xD hw9.o.blk k;repeat go_step
    refine RG.xB ?_;have hp:=ι (hw9.o.put k z);rw[if_pos σ];with_reducible exact hp
   ·rfl
   refine RG.xY (λw9 hw9=>?_);rw[if_pos rfl,<-HW.o] at hw9;clear i0 i1 i2 i3;go_wp2;exact⟨⟨k+1,ω,by go_num,hw9⟩,by simp[intOf];omega⟩
  ·obtain rfl:k=16:=ω;have hr0:Hid (xFh w (xPe b 0) wr):=hr;clear hr;go_wp2_with fail
   go_loopw [6] (λiv wr=>∃i:Nat,16<=i/\i<=64/\iv=.int .i64 i/\Hid (xFh w (xPe b (i-16)) wr)) (λiv _=>64- (intOf iv).toNat)
   case atStart=>exact⟨16,δ,δ,rfl,hr0⟩
   case round=>
    clear hr0;obtain⟨i,hi,hk,rfl,hr⟩:=hrel
    by_cases hlt:i<64
    ·have hl:=xBm b (i-16);have hu:=xSr b (i-16)
     have HW:Hid (xPe b (i+1-16)=(xPe b (i-16)).set i (xXp (xPe b (i-16)) i)):=ι (by
      obtain⟨k,rfl⟩:∃k,i=16+k:=⟨i-16,ω⟩;rw[show 16+k+1-16=k+1 by omega,show 16+k-16=k by omega]
      rfl)
     obtain⟨z,hz⟩:∃z,xXp (xPe b (i-16)) i=z:=⟨_,rfl⟩;rw[hz] at HW;generalize xPe b (i-16)=ws at hr hl HW hz hu;unfold xXp at hz;have u16:=hu (i-16);have u15:=hu (i-15);have u7':=hu (i-7);have u2:=hu (i-2)
     have g16:∀W,Hid (xFh w ws W)->W.cell? ⟨w.heap.size+1,i-16,none⟩=some (.int .u32 (ws.getD (i-16) 0)):=λW h=>by rw[xA h.o.blk,zY ω]
     have g15:∀W,Hid (xFh w ws W)->W.cell? ⟨w.heap.size+1,i-15,none⟩=some (.int .u32 (ws.getD (i-15) 0)):=λW h=>by rw[xA h.o.blk,zY ω]
     have g7:∀W,Hid (xFh w ws W)->W.cell? ⟨w.heap.size+1,i-7,none⟩=some (.int .u32 (ws.getD (i-7) 0)):=λW h=>by rw[xA h.o.blk,zY ω]
     have g2:∀W,Hid (xFh w ws W)->W.cell? ⟨w.heap.size+1,i-2,none⟩=some (.int .u32 (ws.getD (i-2) 0)):=λW h=>by rw[xA h.o.blk,zY ω]
     have c16:∀(c:Bool) W,Hid (xFh w (if c=true then ws.set i z else ws) W)->W.cell? ⟨w.heap.size+1,i-16,none⟩=some (.int .u32 (ws.getD (i-16) 0)):=λc W h=>xN7 (i:=i) ω ω h.o
     have c7:∀(c:Bool) W,Hid (xFh w (if c=true then ws.set i z else ws) W)->W.cell? ⟨w.heap.size+1,i-7,none⟩=some (.int .u32 (ws.getD (i-7) 0)):=λc W h=>xN7 (i:=i) ω ω h.o;generalize ws.getD (i-16) 0=v16 at hz u16 g16 c16;generalize ws.getD (i-15) 0=v15 at hz u15 g15
     generalize ws.getD (i-7) 0=v7 at hz u7' g7 c7;generalize ws.getD (i-2) 0=v2 at hz u2 g2;have C16:=ι c16;have C7:=ι c7;have G15:=ι g15;have G2:=ι g2;have HZ:=ι hz;have R1:=ι (λW=>jJ v15 (-7) 25 W u15 δ δ);have R2:=ι (λW=>jJ v15 (-18) 14 W u15 δ δ)
     have R3:=ι (λW=>jJ v2 (-17) 15 W u2 δ δ);have R4:=ι (λW=>jJ v2 (-19) 13 W u2 δ δ);obtain⟨u160,u161⟩:=u16;obtain⟨u150,u151⟩:=u15;obtain⟨u70',u71'⟩:=u7';obtain⟨u20',u21'⟩:=u2;clear hu hz g16 g15 g7 g2 c16 c7;go_upto_region 11 with fail
     refine RG.xH (λW=>Hid (xFh w ws W)) κ κ (ι hr.o.drew) ?_;iterate 2 refine RG.dS ?_
     rw[show((i:Int)-15)=((i-15:Nat):Int) by omega];iterate 2 refine RG.dF (λw9 hw9=>G15.o _ hw9) ?_
     iterate 2 refine RG.dS ?_
     rw[show((i:Int)-2)=((i-2:Nat):Int) by omega];iterate 2 refine RG.dF (λw9 hw9=>G2.o _ hw9) ?_
     iterate 2 refine RG.dS ?_
     refine RG.xL (λw9 hw9=>?_);clear hr;go_upto_region 12 with fail
     refine RG.yD (λW=>Hid (xFh w ws W)) hw9 ?_;clear hw9;refine RG.dS ?_;apply RG.xG
     ·intro w9 hw9;repeat go_step
      refine(R1.o _).mono ?_;rintro e w10 ⟨rfl,rfl⟩;simp only[];repeat go_step
      exact RG.xB hw9
     ·rfl
     refine RG.dS ?_;apply RG.xG
     ·intro w9 hw9;repeat go_step
      refine(R2.o _).mono ?_;rintro e w10 ⟨rfl,rfl⟩;simp only[];repeat go_step
      exact RG.xB hw9
     ·rfl
     iterate 5 refine RG.dS ?_
     refine RG.xL (λw10 hw10=>?_);go_upto_region 13 with fail
     refine RG.yD (λW=>Hid (xFh w ws W)) hw10 ?_;clear hw10;refine RG.dS ?_;apply RG.xG
     ·intro w9 hw9;repeat go_step
      refine(R3.o _).mono ?_;rintro e w10 ⟨rfl,rfl⟩;simp only[];repeat go_step
      exact RG.xB hw9
     ·rfl
     refine RG.dS ?_;apply RG.xG
     ·intro w9 hw9;repeat go_step
      refine(R4.o _).mono ?_;rintro e w10 ⟨rfl,rfl⟩;simp only[];repeat go_step
      exact RG.xB hw9
     ·rfl
     iterate 5 refine RG.dS ?_
     refine RG.xL (λw11 hw11=>?_);go_upto_region 14 with fail
     refine RG.yI [15] (λL W=>Hid (xFh w (if L 15 then ws.set i z else ws) W)) (λL L' W h hI=>by rw[<-h 15 δ];exact hI) κ κ δ (ι hw11.o.drew) ?_;iterate 3 refine RG.lS ?_
     rw[show((i:Int)-16)=((i-16:Nat):Int) by omega];iterate 2 refine RG.lF (λL w9 hw9=>C16.o _ _ hw9) ?_
     iterate 4 refine RG.lS ?_
     rw[show((i:Int)-7)=((i-7:Nat):Int) by omega];iterate 2 refine RG.lF (λL w9 hw9=>C7.o _ _ hw9) ?_
     iterate 3 refine RG.lS ?_
     rw[HZ.o];refine RG.lS ?_;apply RG.xV
     ·rfl
     ·intro L w9 h0 _ hw9;rw[h0,if_neg σ] at hw9;have q1:=xA hw9.o.blk i;rw[zY ω] at q1;have q2:=xD hw9.o.blk i;repeat go_step
      refine RG.xB ?_;have hp:=ι (hw9.o.put i z);rw[if_pos σ];with_reducible exact hp
     ·rfl
     refine RG.xY (λw12 hw12=>?_);rw[if_pos rfl,<-HW.o] at hw12;go_wp2;exact⟨⟨i+1,ω,ω,by go_num,hw12⟩,by simp[intOf];omega⟩
    ·obtain rfl:i=64:=ω;have hr2:Hid (xFh w (kZ b) wr):=hr;clear hr;have hi64:(prog.info? 438).map (·.size)=some (yG (kZ b)).size:=by rw[yH];unfold kZ;rw[xBm];kernel_rfl
     have ho64:(yG (List.replicate 64 0)).size=(yG (kZ b)).size:=by rw[yH,yH];unfold kZ;rw[xBm,List.length_replicate]
     have h1:=qN (kZ b);have HI:=ι hi64;have HO:=ι ho64;have H1:=ι h1;clear hi64 ho64 h1
     go_wp2_with (first|refine wpList_load_row rfl _ _ rfl (w.heap.size+1) rfl _ _ (0,0) _ hr2.o.blk underlying438 rfl HI.o ?_|refine wpList_store_row rfl _ _ _ rfl w.heap.size _ rfl rfl _ _ hr2.o.res HI.o HO.o H1.o ?_)
     refine bodyPost_ret (results_cell_row rfl _ _ w.heap.size _ _ (0,0) _ rfl (setRow_heap _ _ _ _ _ _ hr2.o.res) underlying438 rfl HI.o) rfl ?_;exact⟨rfl,below_setRow hr2.o.bel ν _⟩
end Go.Proofs.SH
namespace Mailsack
def xAi (x:Wr) (n:Nat):Bool:=decide (0<=x.at_)&&decide (x.at_<n)&&decide (x.data.length=64)
def zM (d:Dk):Bool:=decide (1<=d.secs.length)&&decide (d.secs.length<=1024)&&d.secs.all (λs=>decide (s.length=64))&&d.cache.all (λx=>xAi x d.secs.length)
theorem xOq {α:Type} {f:α->Bool} {L:List α} {k:Nat} {x:α} (h:L[k]?=some x) (hf:f x=true) (h0:∀r∈L.take k,f r=true):∀r∈L.take (k+1),f r=true:=by
 intro q hq;rw[List.take_add_one,h] at hq;rcases List.mem_append.1 hq with hq|hq
 ·exact h0 q hq
 ·simp at hq;subst hq;exact hf
theorem all_false {α:Type} {f:α->Bool} {L:List α} {k:Nat} {x:α} (h:L[k]?=some x) (hf:f x=false):L.all f=false:=by
 rw[List.all_eq_false];exact⟨x,List.mem_of_getElem? h,by rw[hf];simp⟩
theorem all_true {α:Type} {f:α->Bool} {L:List α} (h:∀r∈L.take L.length,f r=true):L.all f=true:=by
 rw[List.take_length] at h;exact List.all_eq_true.2 h
end Mailsack
namespace Go.Proofs.DS
open Go.RowKit Mailsack MM BB
def RdW (w:World) (B:Nat) (v:Value) (L:List Wr):Prop:=
 ∃A c,v=.slice A L.length c/\L.length<=c/\(0<L.length->∃b off,A=some ⟨b,off,none⟩/\b<B/\∀j x,L[j]?=some x->w.cell? ⟨b,off+j*2,none⟩=some (.int .i64 x.at_)/\w.cell? ⟨b,off+j*2+1,none⟩=some (xK x.data))
theorem RdW.keep {w w':World} {B:Nat} {v:Value} {L:List Wr} (h:RdW w B v L) (hk:∀p:Addr,p.block<B->w'.cell? p=w.cell? p):RdW w' B v L:=by
 obtain⟨A,c,h1,h2,h3⟩:=h;refine⟨A,c,h1,h2,λhn=>?_⟩;obtain⟨b,off,h4,h5,h6⟩:=h3 hn;exact⟨b,off,h4,h5,λj x hx=>⟨(hk _ h5).trans (h6 j x hx).1,(hk _ h5).trans (h6 j x hx).2⟩⟩
theorem RdW.below {w w':World} {B B':Nat} {v:Value} {L:List Wr} (h:RdW w B v L) (hb:Below B' w w') (hB:B<=B'):RdW w' B v L:=h.keep λ_ hp=>hb.cell ω
theorem RdW.more {w:World} {B B':Nat} {v:Value} {L:List Wr} (h:RdW w B v L) (hB:B<=B'):RdW w B' v L:=by
 obtain⟨A,c,h1,h2,h3⟩:=h;refine⟨A,c,h1,h2,λhn=>?_⟩;obtain⟨b,off,h4,h5,h6⟩:=h3 hn;exact⟨b,off,h4,ω,h6⟩
theorem RdW.nil0 (w:World) (B:Nat):RdW w B (.slice none 0 0) []:=⟨none,0,rfl,Nat.le_refl _,λh=>by simp at h⟩
structure RdD (w:World) (B:Nat) (a b:Value) (d:Dk):Prop where
 s:RdS w B a d.secs
 c:RdW w B b d.cache
 ls:d.secs.length<=1000000
 lc:d.cache.length<=1000000
theorem RdD.below {w w':World} {B B':Nat} {a b:Value} {d:Dk} (h:RdD w B a b d) (hb:Below B' w w') (hB:B<=B'):RdD w' B a b d:=⟨h.s.below hb hB,h.c.below hb hB,h.ls,h.lc⟩
theorem RdD.more {w:World} {B B':Nat} {a b:Value} {d:Dk} (h:RdD w B a b d) (hB:B<=B'):RdD w B' a b d:=⟨h.s.more hB,h.c.more hB,h.ls,h.lc⟩
theorem xYd (x:Wr) (n:Nat) (w:World):
  Calls prog 148 #[.agg #[.int .i64 x.at_,xK x.data],.int .i64 n] w λe w'=>e=.returned (.bool (xAi x n))/\ψ w w':=by
 obtain⟨a,s⟩:=x;obtain⟨sb,hsb⟩:∃sb:ByteArray,(⟨s.toArray⟩:ByteArray)=sb:=⟨_,rfl⟩;have HF:Hid (xAi ⟨a,s⟩ n=(decide (0<=a)&&decide (a<n)&&decide (sb.size=64))):=ι (by rw[<-hsb];rfl);show Calls prog 148 #[.agg #[.int .i64 a,.string ⟨s.toArray⟩],.int .i64 n] w _;rw[hsb]
 have hB:=xI w (.cells #[.int .i64 a,.string sb] 154);have c0:=xA hB 0;have c1:=xA hB 1;have HB:=ι (φ w (.cells #[.int .i64 a,.string sb] 154));clear hB hsb
 by_cases h1:0<=a
 ·by_cases h2:a<n
  ·by_cases h3:sb.size=64
   ·have h3i:(sb.size:Int)=64:=ω;have h3b:((sb.size:Int)==64)=true:=by simpa using h3i
    have HR:Hid (xAi ⟨a,s⟩ n=true):=ι (by rw[HF.o];simp[h1,h2,h3]);clear h3;go_enter func148,ntmps148;go_wp2;go_ret;exact⟨by rw[HR.o];rfl,HB.o⟩
   ·have h3i:¬((sb.size:Int)=64):=ω;have h3b:((sb.size:Int)==64)=false:=by simpa using h3i
    have HR:Hid (xAi ⟨a,s⟩ n=false):=ι (by rw[HF.o];simp[h3]);clear h3;go_enter func148,ntmps148;go_wp2;go_ret;exact⟨by rw[HR.o];rfl,HB.o⟩
  ·have HR:Hid (xAi ⟨a,s⟩ n=false):=ι (by rw[HF.o];simp[h2]);go_enter func148,ntmps148;go_wp2;go_ret;exact⟨by rw[HR.o];rfl,HB.o⟩
 ·have HR:Hid (xAi ⟨a,s⟩ n=false):=ι (by rw[HF.o];simp[h1]);go_enter func148,ntmps148;go_wp2;go_ret;exact⟨by rw[HR.o];rfl,HB.o⟩
theorem qA (va vb:Value) (d:Dk) (w:World) (h:RdD w w.heap.size va vb d):
  Calls prog 70 #[.agg #[va,vb]] w λe w'=>e=.returned (.bool (zM d))/\ψ w w':=by
 obtain⟨S,C⟩:=d;obtain⟨⟨A1,c1,rfl,hc1,h1⟩,⟨A2,c2,rfl,hc2,h2⟩,hls,hlc⟩:=h;have H1:=ι h1;have H2:=ι h2;simp only at hc1 hc2 hls hlc H1 H2⊢;have HF:Hid (zM ⟨S,C⟩=(decide (1<=S.length)&&decide (S.length<=1024)&&S.all (λs=>decide (s.length=64))&&C.all (λx=>xAi x S.length))):=ι rfl
 have hB:=xI w (yQ (.slice A1 S.length c1) (.slice A2 C.length c2));have HB:=ι (φ w (yQ (.slice A1 S.length c1) (.slice A2 C.length c2)));have b0:=xA hB 0;have HBK:=ι hB;clear hB h1 h2
 by_cases g1:1<=S.length
 ·by_cases g2:S.length<=1024
  ·have i1:¬((S.length:Int)<1):=ω;have i2:¬(1024<(S.length:Int)):=ω;have HF2:Hid (zM ⟨S,C⟩=(S.all (λs=>decide (s.length=64))&&C.all (λx=>xAi x S.length))):=ι (by rw[HF.o];simp[g1,g2]);clear HF;go_enter func70,ntmps70;go_wp2_with fail
   obtain⟨b,off,rfl,hbw,hcs⟩:=H1.o ω;have HCS:=ι hcs;clear H1 hcs b0;generalize w.alloc (yQ (.slice (some ⟨b,off,none⟩) S.length c1) (.slice A2 C.length c2))=w0 at HB HBK⊢
   go_loopw [20] (λiv wr=>∃k:Nat,k<=S.length/\iv=.int .i64 k/\wr=w0/\Hid (∀r∈S.take k,decide (r.length=64)=true)) (λiv _=>S.length- (intOf iv).toNat)
   case atStart=>exact⟨0,Nat.zero_le _,rfl,rfl,ι σ⟩
   case round=>
    obtain⟨k,hk,rfl,rfl,hok⟩:=hrel
    by_cases hlt:k<S.length
    ·obtain⟨x,hx⟩:∃x,S[k]?=some x:=⟨_,List.getElem?_eq_getElem hlt⟩;have q0:=(HB.o.cell (p:=⟨b,off+k,none⟩) hbw).trans (HCS.o k x hx);have HX:=ι hx;clear hx;obtain⟨xb,hxb⟩:∃xb:ByteArray,(⟨x.toArray⟩:ByteArray)=xb:=⟨_,rfl⟩;have hxs:xb.size=x.length:=by rw[<-hxb];rfl
     have q1:wr.cell? ⟨b,off+k,none⟩=some (.string xb):=by rw[<-hxb];exact q0
     clear q0 hxb
     by_cases h64:x.length=64
     ·have e1:((xb.size:Int)!=64)=false:=by simp;omega
      have e2:(xb.size:Int)=64:=ω;have HO:=ι (xOq HX.o (by simpa using h64) hok.o);clear h64 hxs;go_wp2;exact⟨⟨k+1,ω,by go_num,trivial,HO⟩,by simp[intOf];omega⟩
     ·have e1:((xb.size:Int)!=64)=true:=by simp;omega
      have e2:¬((xb.size:Int)=64):=ω;have HR:Hid (zM ⟨S,C⟩=false):=ι (by rw[HF2.o,all_false HX.o (by simpa using h64)];rfl);clear h64 hxs;go_wp2;go_ret;exact⟨by rw[HR.o];rfl,HB.o⟩
    ·obtain rfl:k=S.length:=ω;have HF3:Hid (zM ⟨S,C⟩=C.all (λx=>xAi x S.length)):=ι (by rw[HF2.o,all_true hok.o];rfl);clear HF2 hok HCS hlt;have b1:=xA HBK.o 1;go_wp2_with fail
     clear b1
     go_loopw [31] (λiv wx=>∃k:Nat,k<=C.length/\iv=.int .i64 k/\Hid (ψ wr wx)/\Hid (∀r∈C.take k,xAi r S.length=true)) (λiv _=>C.length- (intOf iv).toNat)
     case atStart=>exact⟨0,Nat.zero_le _,rfl,ι (Below.refl _ _),ι σ⟩
     case round=>
      obtain⟨k,hk,rfl,hbx,hok⟩:=hrel
      by_cases hlt:k<C.length
      ·obtain⟨b2,xT9,rfl,hb2,hc2⟩:=H2.o ω;obtain⟨x,hx⟩:∃x,C[k]?=some x:=⟨_,List.getElem?_eq_getElem hlt⟩;obtain⟨p0,p1⟩:=hc2 k x hx;have HBX:=ι (HB.o.trans (hbx.o.mono HB.o.size));have q0:=(HBX.o.cell (p:=⟨b2,xT9+k*2,none⟩) hb2).trans p0
       have q1:=(HBX.o.cell (p:=⟨b2,xT9+k*2+1,none⟩) hb2).trans p1;have HX:=ι hx;have HFT:=ι (λW=>xYd x S.length W);have b0:=xA (xM (xC HBK.o hbx.o (xJ HBK.o)) (.cells #[.int .i64 x.at_,.string ⟨x.data.toArray⟩] 154)) 0
       have HA:=ι (φ wr (.cells #[.int .i64 x.at_,.string ⟨x.data.toArray⟩] 154));obtain⟨a,s⟩:=x;simp only at q0 q1 HFT b0 HA;clear hc2 hx p0 p1 H2;go_wp2_with fail
       refine(HFT.o _).mono ?_;rintro e w5 ⟨rfl,hb5⟩;have HB5:=ι (hbx.o.trans ((HA.o.trans (hb5.mono HA.o.size)).mono hbx.o.size));clear hb5 HA b0 q0 q1 HFT;cases hft:xAi ⟨a,s⟩ S.length with
       |true=>
        have HO:=ι (xOq HX.o hft hok.o);clear hft;go_wp2;exact⟨⟨k+1,ω,by go_num,HB5,HO⟩,by simp[intOf];omega⟩
       |false=>
        have HR:Hid (zM ⟨S,C⟩=false):=ι (by rw[HF3.o,all_false HX.o hft]);clear hft;go_wp2;go_ret;exact⟨by rw[HR.o];rfl,HB.o.trans (HB5.o.mono HB.o.size)⟩
      ·obtain rfl:k=C.length:=ω;have HR:Hid (zM ⟨S,C⟩=true):=ι (by rw[HF3.o,all_true hok.o]);clear hlt;go_wp2;go_ret;exact⟨by rw[HR.o];rfl,HB.o.trans (hbx.o.mono HB.o.size)⟩
  ·have i1:¬((S.length:Int)<1):=ω;have i2:1024<(S.length:Int):=ω;have HR:Hid (zM ⟨S,C⟩=false):=ι (by rw[HF.o];simp[g2]);go_enter func70,ntmps70;go_wp2;go_ret;exact⟨by rw[HR.o];rfl,HB.o⟩
 ·have i1:(S.length:Int)<1:=ω;have HR:Hid (zM ⟨S,C⟩=false):=ι (by rw[HF.o];simp[g1]);go_enter func70,ntmps70;go_wp2;go_ret;exact⟨by rw[HR.o];rfl,HB.o⟩
end Go.Proofs.DS
namespace Mailsack
def wrD (C:List Wr) (k:Nat):Wr:=C.getD k ⟨0,[]⟩
def tL (c:Nat->Bool) (C:List Wr) (S:List Bs):Nat->List Bs
 |0=>S
 |k+1=>if c k=true then(tL c C S k).set (wrD C k).at_.toNat (wrD C k).data else tL c C S k
theorem rQ (c:Nat->Bool) (C:List Wr) (S:List Bs):∀k,(tL c C S k).length=S.length
 |0=>rfl
 |k+1=>by
  unfold tL;split
  ·rw[List.length_set,rQ c C S k]
  ·exact rQ c C S k
def zH (d:Dk):Dk:=if zM d=true then⟨tL (λ_=>true) d.cache d.secs d.cache.length,[]⟩ else d
theorem xPh {d:Dk} (h:zM d=true):1<=d.secs.length/\d.secs.length<=1024:=by
 unfold zM at h;simp only[Bool.and_eq_true,decide_eq_true_eq] at h;exact⟨h.1.1.1,h.1.1.2⟩
theorem xSv {d:Dk} (h:zM d=true) {k:Nat} {x:Wr} (hx:d.cache[k]?=some x):0<=x.at_/\x.at_<d.secs.length/\x.data.length=64:=by
 unfold zM at h;simp only[Bool.and_eq_true] at h;have:=List.all_eq_true.1 h.2 x (List.mem_of_getElem? hx);unfold xAi at this;simp only[Bool.and_eq_true,decide_eq_true_eq] at this;exact⟨this.1.1,this.1.2,this.2⟩
end Mailsack
namespace Go.Proofs.DS
open Go.RowKit Mailsack MM BB
theorem xMj (l:List Bs):(vJ l).toList=l.map xK:=by simp[vJ]
theorem jU.row {W:World} {g:Nat} {l:List Bs} (h:jU W g l) (l':List Bs):jU (W.setRow g (vJ l')) g l':=setRow_heap W g _ _ _ _ h.blk
theorem yC5 {W:World} {g:Nat} {l:List Bs} (h:jU W g l) (S:List Bs) (hl:l.length=S.length) (b off c cd:Nat) (ty:TypeId) (hsrc:∀j x,S[j]?=some x->W.cell? ⟨b,off+j,none⟩=some (xK x)):
  (Builtin.copy_ #[22,22] ty #[.slice (some ⟨g,0,none⟩) S.length cd,.slice (some ⟨b,off,none⟩) S.length c]).run prog W=.ok (goInt S.length) (W.setRow g (vJ S)):=by
 have h3:=run_copy_row (P:=prog) W 22 22 ty 9 g 0 S.length cd ⟨b,off,none⟩ S.length c (vJ l) _ (S.map xK) underlying22 κ h.blk σ (λj v hv=>by
  rw[List.getElem?_map] at hv;obtain⟨x,hx,rfl⟩:=Option.map_eq_some_iff.1 hv;have hadd:(⟨b,off,none⟩:Addr).add j=⟨b,off+j,none⟩:=by unfold Addr.add;split<;>simp_all
  rw[hadd];exact hsrc j x hx) (by rw[xK8];simp;omega) (λv hv=>by
  obtain⟨x,_,rfl⟩:=List.mem_map.1 hv
  rfl)
 have hrow:((vJ l).toList.take 0++S.map xK++(vJ l).toList.drop (0+(S.map xK).length)).toArray=vJ S:=by
  rw[xMj];simp[vJ,<-hl]
 rw[h3,hrow];simp
theorem xS4 (w:World) (o o' o'':Obj):(((w.alloc o).alloc o').alloc o'').heap[w.heap.size+1+1]?=some o'':=by
 have:=xI ((w.alloc o).alloc o') o''
 rwa [show((w.alloc o).alloc o').heap.size=w.heap.size+1+1 by simp] at this
structure PfI (w:World) (g:Nat) (va vb:Value) (l:List Bs) (W:World):Prop where
 box:W.heap[w.heap.size]?=some (yQ va vb)
 res:W.heap[w.heap.size+1]?=some (yQ (.slice none 0 0) (.slice none 0 0))
 row:jU W g l
 bel:ψ w W
 lo:w.heap.size+1<g
theorem PfI.call {w:World} {g:Nat} {va vb:Value} {l:List Bs} {W W':World} (h:PfI w g va vb l W) (hb:ψ W W'):PfI w g va vb l W':=
 ⟨xC h.box hb (xJ h.box),xC h.res hb (xJ h.res),h.row.below hb h.row.lt,h.bel.trans (hb.mono h.bel.size),h.lo⟩
theorem PfI.put {w:World} {g:Nat} {va vb:Value} {l:List Bs} {W:World} (h:PfI w g va vb l W) (i:Nat) (x:Bs):PfI w g va vb (l.set i x) (W.setCell ⟨g,i,none⟩ (xK x)):=
 ⟨zL h.box (p:=⟨g,i,none⟩) (by have:=h.lo;simp;omega) _,zL h.res (p:=⟨g,i,none⟩) (by have:=h.lo;simp;omega) _,h.row.put i x,h.bel.setCell (p:=⟨g,i,none⟩) (by have:=h.lo;simp;omega) _,h.lo⟩
theorem xLu (va vb:Value) (d:Dk) (fid:FuncId) (fr:Array Value) (c:Nat->Bool) (w:World) (h:RdD w w.heap.size va vb d) (hr:zM d=true) (hE:∀args W,(callFunc fid args).run prog W=.ok (.enter fid args) W)
  (hc:∀i W,i<d.cache.length->ψ w W->Calls prog fid (#[.int .i64 (i:Int)]++fr) W λe w'=>e=.returned (.bool (c i))/\ψ W w'):
  Calls prog 177 #[.agg #[va,vb],.func (.func fid) #[] fr] w λe w'=>∃g,e=.returned (.agg #[.slice (some ⟨g,0,none⟩) d.secs.length d.secs.length,.slice none 0 0])/\jU w' g (tL c d.cache d.secs d.cache.length)/\w.heap.size<g/\ψ w w':=by
 obtain⟨hn1,hn2⟩:=xPh hr;have HFIT:=ι (λ(k:Nat) (x:Wr) (hx:d.cache[k]?=some x)=>xSv hr hx);have HC:=ι hc;obtain⟨S,C⟩:=d;obtain⟨⟨A1,c1,rfl,hc1,h1⟩,⟨A2,c2,rfl,hc2,h2⟩,hls,hlc⟩:=h;simp only at hn1 hn2 hc1 hc2 h1 h2 hls hlc HFIT HC⊢;obtain⟨b,off,rfl,hbw,hcs⟩:=h1 ω;have HCS:=ι hcs
 have H2:=ι h2;have t0:=zK w (yQ (.slice (some ⟨b,off,none⟩) S.length c1) (.slice A2 C.length c2)) (yQ (.slice none 0 0) (.slice none 0 0));have t1:=zD w (yQ (.slice (some ⟨b,off,none⟩) S.length c1) (.slice A2 C.length c2)) (yQ (.slice none 0 0) (.slice none 0 0))
 have HB0:=ι ((φ w (yQ (.slice (some ⟨b,off,none⟩) S.length c1) (.slice A2 C.length c2))).alloc σ (yQ (.slice none 0 0) (.slice none 0 0)));have HT0:=ι t0;have HT1:=ι t1;have k0:=xA t0 0;have hmk:=λW=>madeS W S.length ω;clear hr hc hcs h1 h2 t0 t1
 go_enter func177,ntmps177;go_upto_region 2 with fail
 have HP:Hid (PfI w (w.heap.size+1+1) (.slice (some ⟨b,off,none⟩) S.length c1) (.slice A2 C.length c2) (List.replicate S.length []) (((w.alloc (yQ (.slice (some ⟨b,off,none⟩) S.length c1) (.slice A2 C.length c2))).alloc (yQ (.slice none 0 0) (.slice none 0 0))).alloc (.cells (vJ (List.replicate S.length [])) 9))):=
  ι ⟨xM HT0.o _,xM HT1.o _,xS4 _ _ _ _,HB0.o.alloc HB0.o.size _,ω⟩
 generalize ((w.alloc (yQ (.slice (some ⟨b,off,none⟩) S.length c1) (.slice A2 C.length c2))).alloc (yQ (.slice none 0 0) (.slice none 0 0))).alloc (.cells (vJ (List.replicate S.length [])) 9)=w3 at HP⊢;generalize w.heap.size+1+1=g at HP⊢;clear k0 hmk HT0 HT1 HB0
 have k0:=xA HP.o.box 0;have hcp:=yC5 HP.o.row S σ b off c1 S.length 3 (λj x hx=>(HP.o.bel.cell (p:=⟨b,off+j,none⟩) hbw).trans (HCS.o j x hx));go_upto_region 3 with fail
 have HP2:Hid (PfI w g (.slice (some ⟨b,off,none⟩) S.length c1) (.slice A2 C.length c2) (tL c C S 0) (w3.setRow g (vJ S))):=
  ι ⟨by rw[setRow_other _ _ _ _ (by have:=HP.o.lo;omega)];exact HP.o.box,by rw[setRow_other _ _ _ _ (by have:=HP.o.lo;omega)];exact HP.o.res,jU.row HP.o.row S,below_setRow HP.o.bel (by have:=HP.o.lo;omega) _,HP.o.lo⟩
 generalize w3.setRow g (vJ S)=w4 at HP2⊢;clear HP hcp HCS k0;have k1:=xA HP2.o.box 1;go_wp2_with fail
 clear k1
 go_loopw [19] (λiv wr=>∃k:Nat,k<=C.length/\iv=.int .i64 k/\Hid (PfI w g (.slice (some ⟨b,off,none⟩) S.length c1) (.slice A2 C.length c2) (tL c C S k) wr)) (λiv _=>C.length- (intOf iv).toNat)
 case atStart=>exact⟨0,Nat.zero_le _,rfl,HP2⟩
 case round=>
  obtain⟨k,hk,rfl,hr⟩:=hrel;clear HP2
  by_cases hlt:k<C.length
  ·obtain⟨b2,xT9,rfl,hb2,hc2⟩:=H2.o ω;obtain⟨x,hx⟩:∃x,C[k]?=some x:=⟨_,List.getElem?_eq_getElem hlt⟩;obtain⟨p0,p1⟩:=hc2 k x hx;have q0:=(hr.o.bel.cell (p:=⟨b2,xT9+k*2,none⟩) hb2).trans p0;have q1:=(hr.o.bel.cell (p:=⟨b2,xT9+k*2+1,none⟩) hb2).trans p1
   obtain⟨f0,f1,f2⟩:=HFIT.o k x hx;have HD:Hid (wrD C k=x):=ι (by unfold wrD;rw[List.getD_eq_getElem?_getD,hx];rfl);obtain⟨a,s⟩:=x;simp only at q0 q1 f0 f1 f2;have HA:=ι (hr.o.call (φ wr (.cells #[.int .i64 a,xK s] 154)));have hbk:=xI wr (.cells #[.int .i64 a,xK s] 154)
   have hcc:=HC.o k (wr.alloc (.cells #[.int .i64 a,xK s] 154)) hlt HA.o.bel;have HBK:=ι hbk;have HCC:=ι hcc;clear hc2 hx p0 p1 H2 hbk hcc;go_wp2_with fail
   refine HCC.o.mono ?_;rintro e w5 ⟨rfl,hb5⟩;have hk5:=xC HBK.o hb5 (xJ HBK.o);have HR5:=ι (HA.o.call hb5);have m0:=xA hk5 0;have m1:=xA hk5 1;clear HA HBK HCC hb5 hk5 q0 q1 hr;cases hck:c k with
   |true=>
    have HPL:Hid (tL c C S (k+1)=(tL c C S k).set a.toNat s):=ι (by rw[tL,if_pos hck,HD.o]);obtain⟨an,rfl⟩:∃an:Nat,a=an:=⟨a.toNat,ω⟩;have hal:an<(tL c C S k).length:=by rw[rQ];omega
    obtain⟨y,hy⟩:∃y,(tL c C S k)[an]?=some y:=⟨_,List.getElem?_eq_getElem hal⟩;have cy:=HR5.o.row.cell hy;have yy:=HR5.o.row.free an;have HE5:=ι (HR5.o.put an s);have hpl:=HPL.o;simp only[Int.toNat_natCast] at hpl;rw[<-hpl] at HE5;clear hck HPL hal hy hpl HD;go_wp2
    exact⟨⟨k+1,ω,by go_num,HE5⟩,by simp[intOf];omega⟩
   |false=>
    have HPL:Hid (tL c C S (k+1)=tL c C S k):=ι (by rw[tL,if_neg (by rw[hck];simp)]);clear hck HD;go_wp2;exact⟨⟨k+1,ω,by go_num,by rw[HPL.o];exact HR5⟩,by simp[intOf];omega⟩
  ·obtain rfl:k=C.length:=ω;have c0:=xA hr.o.res 0;have c1:=xA hr.o.res 1;have y0:=xD hr.o.res 0;have y1:=xD hr.o.res 1;have hB:=yC (yC hr.o.res 0 (.slice (some ⟨g,0,none⟩) S.length S.length)) 1 (.slice none 0 0);have f0:=xA hB 0;have f1:=xA hB 1
   simp only[List.setIfInBounds_toArray,List.set_cons_zero,List.set_cons_succ,gA,gC,gB] at f0 f1;clear hB hlt H2 HC HFIT;have HL:Hid (w.heap.size+1<g):=ι hr.o.lo;go_wp2
   refine bodyPost_ret (v:=.agg #[.slice (some ⟨g,0,none⟩) S.length S.length,.slice none 0 0]) (by simp[results,results177,go_sem,f0,f1]) rfl ?_;have hlo:=HL.o;refine⟨g,rfl,?_,ω,?_⟩
   ·exact(hr.o.row.far (p:=⟨w.heap.size+1,0,none⟩) (by simp;omega) _).far (p:=⟨w.heap.size+1,1,none⟩) (by simp;omega) _
   ·exact(hr.o.bel.setCell (p:=⟨w.heap.size+1,0,none⟩) σ _).setCell (p:=⟨w.heap.size+1,1,none⟩) σ _
theorem xVs (i:Int) (w:World):Calls prog 178 #[.int .i64 i] w λe w'=>e=.returned (.bool true)/\ψ w w':=by
 go_enter func178,ntmps178;go_wp2;go_ret;exact⟨rfl,Below.refl _ _⟩
theorem xUj (va vb:Value) (d:Dk) (w:World) (h:RdD w w.heap.size va vb d):
  Calls prog 91 #[.agg #[va,vb]] w λe w'=>∃va' vb',e=.returned (.agg #[va',vb'])/\RdD w' w'.heap.size va' vb' (zH d)/\(zM d=true->∃g,va'=.slice (some ⟨g,0,none⟩) d.secs.length d.secs.length/\jU w' g (zH d).secs)/\ψ w w':=by
 obtain⟨A1,c1,rfl,_,_⟩:=h.s;obtain⟨A2,c2,rfl,_,_⟩:=h.c;have t0:=zK w (yQ (.slice A1 d.secs.length c1) (.slice A2 d.cache.length c2)) (yQ (.slice none 0 0) (.slice none 0 0))
 have t1:=zD w (yQ (.slice A1 d.secs.length c1) (.slice A2 d.cache.length c2)) (yQ (.slice none 0 0) (.slice none 0 0));have HB0:=ι ((φ w (yQ (.slice A1 d.secs.length c1) (.slice A2 d.cache.length c2))).alloc σ (yQ (.slice none 0 0) (.slice none 0 0)));have HD:=ι h
 have HRT:=ι (λW (hb:ψ w W)=>qA _ _ d W ((h.below hb ν).more hb.size));have HT0:=ι t0;have HT1:=ι t1;have k0:=xA t0 0;have k1:=xA t0 1;clear h t0 t1;go_enter func91,ntmps91;go_wp2_with fail
 refine(HRT.o _ HB0.o).mono ?_;rintro e w1 ⟨rfl,hb1⟩;have HB1:=ι (HB0.o.trans (hb1.mono HB0.o.size));have HT0':=ι (xC HT0.o hb1 (xJ HT0.o));have xYz:=ι (xC HT1.o hb1 (xJ HT1.o));clear HT0 HT1 HB0 hb1 k0 k1 HRT;have k0:=xA HT0'.o 0;have k1:=xA HT0'.o 1;cases hr:zM d with
 |false=>
  have j0:=xA xYz.o 0;have j1:=xA xYz.o 1;have y0:=xD xYz.o 0;have y1:=xD xYz.o 1;have hB:=yC (yC xYz.o 0 (.slice A1 d.secs.length c1)) 1 (.slice A2 d.cache.length c2);have f0:=xA hB 0;have f1:=xA hB 1
  simp only[List.setIfInBounds_toArray,List.set_cons_zero,List.set_cons_succ,gA,gC,gB] at f0 f1;have HF:Hid (zH d=d):=ι (by unfold zH;rw[if_neg (by rw[hr];simp)]);have HRF:=ι hr;clear hB hr;go_wp2
  refine bodyPost_ret (v:=.agg #[.slice A1 d.secs.length c1,.slice A2 d.cache.length c2]) (by simp[results,results91,go_sem,f0,f1]) rfl ?_
  have hb:=(HB1.o.setCell (p:=⟨w.heap.size+1,0,none⟩) σ (.slice A1 d.secs.length c1)).setCell (p:=⟨w.heap.size+1,1,none⟩) σ (.slice A2 d.cache.length c2);refine⟨_,_,rfl,?_,(λh=>by rw[HRF.o] at h;cases h),hb⟩;rw[HF.o];exact(HD.o.below hb ν).more hb.size
 |true=>
  have HPF:=ι (xLu _ _ d 178 #[] (λ_=>true) w1 ((HD.o.below HB1.o ν).more HB1.o.size) hr (λargs W=>enters_of func178 κ rfl args W) (λi W _ _=>by have:=xVs i W;simpa using this))
  have HF:Hid (zH d=⟨tL (λ_=>true) d.cache d.secs d.cache.length,[]⟩):=ι (by unfold zH;rw[if_pos hr]);clear hr;go_wp2_with fail
  refine HPF.o.mono ?_;rintro e w2 ⟨g,rfl,hs,hg,hb2⟩;have HT2:=ι (xC xYz.o hb2 (xJ xYz.o));have HS2:=ι hs;have HB2:=ι (HB1.o.trans (hb2.mono HB1.o.size));have hgw:w.heap.size+1<g:=by have:=xJ xYz.o;omega
  clear HPF hs hg hb2 HT0' xYz HB1 k0 k1;have j0:=xA HT2.o 0;have j1:=xA HT2.o 1;have y0:=xD HT2.o 0;have y1:=xD HT2.o 1;have hB:=yC (yC HT2.o 0 (.slice (some ⟨g,0,none⟩) d.secs.length d.secs.length)) 1 (.slice none 0 0);have f0:=xA hB 0;have f1:=xA hB 1
  simp only[List.setIfInBounds_toArray,List.set_cons_zero,List.set_cons_succ,gA,gC,gB] at f0 f1;clear hB;go_wp2;refine bodyPost_ret (v:=.agg #[.slice (some ⟨g,0,none⟩) d.secs.length d.secs.length,.slice none 0 0]) (by simp[results,results91,go_sem,f0,f1]) rfl ?_
  have hb:=(HB2.o.setCell (p:=⟨w.heap.size+1,0,none⟩) σ (.slice (some ⟨g,0,none⟩) d.secs.length d.secs.length)).setCell (p:=⟨w.heap.size+1,1,none⟩) σ (.slice none 0 0)
  have hs2:=(HS2.o.far (p:=⟨w.heap.size+1,0,none⟩) (by simp;omega) (.slice (some ⟨g,0,none⟩) d.secs.length d.secs.length)).far (p:=⟨w.heap.size+1,1,none⟩) (by simp;omega) (.slice none 0 0);refine⟨_,_,rfl,?_,λ_=>⟨g,rfl,?_⟩,hb⟩
  ·rw[HF.o];refine⟨?_,RdW.nil0 _ _,?_,σ⟩
   ·have hl:=rQ (λ_=>true) d.cache d.secs d.cache.length;have:=hs2.rd d.secs.length ω;rw[hl] at this;exact this.more (by have:=hs2.lt;omega)
   ·show(tL _ _ _ _).length<=_;rw[rQ];exact HD.o.ls
  ·rw[HF.o];exact hs2
end Go.Proofs.DS
namespace Go.Proofs.BB
open Go.RowKit Mailsack MM
theorem xX7 {P:Program} (w:World) (base:Nat) (t u ty e:TypeId) (i:TypeInfo) (ht:P.underlying t=some (.slice e)) (hu:P.underlying u=some .string) (hi:P.info? e=some i) (hz:i.zero=some (.int .u8 0))
  (hsize:i.size=1) (hby:i.bytes=1) (g n cap:Nat) (xs:List Value) (hown:w.ownsRow base e 1 (.slice (some ⟨g,0,none⟩) n cap) n xs) (s:ByteArray)
  (h63:n+s.size<=maxLen) (hbytes:n+s.size<=140737488355328) (hbase:base<=w.heap.size):
  ∃v' w',(Builtin.append_ #[t,u] ty #[.slice (some ⟨g,0,none⟩) n cap,.string s]).run P w=.ok v' w'/\w'.ownsRow base e 1 v' (n+s.size) (xs++Lib.strCells s)/\w.grownBy w' (some g)/\
   (v'.ownBlock=some g∨v'.ownBlock=some w.heap.size):=by
 obtain⟨v',w',hr,h2,h3,_⟩:=Lib.run_append_own_string (P:=P) w base t u ty e i ht hu hi hz hsize hby _ n xs hown s h63 hbytes hbase;refine⟨v',w',hr,h2,h3,?_⟩;have hsmall:n+s.size<=9223372036854775807:=by simp only[maxLen] at h63;omega
 have hxl:xs.length=n:=by simpa using hown.1
 rcases hown.2 with ⟨h,_⟩|⟨g',cap',cur,h,hbg,hg,hnc,hcm,hcs,htake⟩
 ·cases h
 ·injection h with h h' h'';injection h with h;injection h with h;subst h h''
  by_cases hroom:n+s.size<=cap
  ·have hcs':cur.size=cap:=by simpa using hcs
   have hq:=Lib.run_append_room_string (P:=P) w t u ty e i ht hu hi hsize g n cap cur hg s hroom ω;rw[hq] at hr;injection hr with hv hw;exact .inl (by rw[<-hv];rfl)
  ·have holds:∀j u,xs[j]?=some u->w.cell? ((⟨g,0,none⟩:Addr).add j)=some u:=hown.cells (g:=g) rfl
   have hq:=Lib.run_append_grow_string (P:=P) w t u ty e i (.int .u8 0) ht hu hi hz ⟨g,0,none⟩ n cap xs (by rw[hsize];simpa using hxl) holds s ω ω (by rw[hby];exact growslice_fits ω ω);rw[hq] at hr;injection hr with hv hw;exact .inr (by rw[<-hv];rfl)
theorem xE5 {P:Program} {w:World} {ops:Array Oper} {rest:List Oper} {o:Oper} {a:Act} {Q:Exit->Act->World->Prop} (hgd:o.guard=none) (sl x:Operand) (t u:TypeId)
  (ho:o.op=.call {callee:=.builtin .append,args:=#[sl,x],argTypes:=#[t,u]})
  (base:Nat) (e:TypeId) (i:TypeInfo) (ht:P.underlying t=some (.slice e)) (hu:P.underlying u=some .string) (hi:P.info? e=some i) (hz:i.zero=some (.int .u8 0))
  (hsize:i.size=1) (hby:i.bytes=1)
  (g n cap:Nat) (xs:List Value) (hs:a.eval sl=.slice (some ⟨g,0,none⟩) n cap) (hown:w.ownsRow base e 1 (.slice (some ⟨g,0,none⟩) n cap) n xs) (s:ByteArray) (hx:a.eval x=.string s)
  (h63:n+s.size<=maxLen) (hbytes:n+s.size<=140737488355328) (hbase:base<=w.heap.size)
  (h:∀v' w',w'.ownsRow base e 1 v' (n+s.size) (xs++Lib.strCells s)->w.grownBy w' (some g)->(v'.ownBlock=some g∨v'.ownBlock=some w.heap.size)->wpList P ops Q rest (a.put o.dst v') w'):wpList P ops Q (o::rest) a w:=by
 refine wpList_plain hgd λK hK=>?_;obtain⟨v',w',hr,h2,h3,h4⟩:=xX7 (P:=P) w base t u o.type e i ht hu hi hz hsize hby g n cap xs hown s h63 hbytes hbase;unfold Oper.wp execOp
 simp only[ho,resolve,invoke,builtin,Sem.run_bind,Sem.run_pure,Result.andThen_ok,List.map_toArray,List.map_cons,List.map_nil,hs,hx,hr];exact hK _ _ (h v' w' h2 h3 h4)
theorem xQ8:(prog.info? 5).map (λi=>(i.zero,i.size,i.bytes))=some (some (.int .u8 0),1,1):=κ
theorem kP {P:Program} {t:TypeId} {z:Value} {n b:Nat} (h:(P.info? t).map (λi=>(i.zero,i.size,i.bytes))=some (some z,n,b)):∃i,P.info? t=some i/\i.zero=some z/\i.size=n/\i.bytes=b:=by
 cases hq:P.info? t with
 |none=>rw[hq] at h;cases h
 |some i=>
  rw[hq] at h;simp only[Option.map_some,Option.some.injEq,Prod.mk.injEq] at h;exact⟨i,rfl,h.1,h.2.1,h.2.2⟩
def zT (w:World) (base:Nat) (v:Value) (l:Bs):Prop:=w.ownsRow base 5 1 v l.length (l.map λc=>Value.int .u8 (c.toNat:Int))
theorem zT.row {w:World} {base:Nat} {v:Value} {l:Bs} (h:zT w base v l):w.ownsRow base 5 1 v l.length (l.map λc=>Value.int .u8 (c.toNat:Int)):=h
theorem zT.of {w:World} {base:Nat} {v:Value} {l m:Bs} (h:w.ownsRow base 5 1 v (l.length+m.length) (l.map (λc=>Value.int .u8 (c.toNat:Int))++m.map (λc=>Value.int .u8 (c.toNat:Int)))):zT w base v (l++m):=by
 unfold zT;rw[List.length_append,List.map_append];exact h
theorem zT.alloc {w:World} {base:Nat} {v:Value} {l:Bs} (h:zT w base v l) (o:Obj):zT (w.alloc o) base v l:=World.ownsRow.alloc h o
theorem zT.grown {w w':World} {base:Nat} {v:Value} {l:Bs} {row:Option Nat} (h:zT w base v l) (hg:w.grownBy w' row) (hne:v.ownBlock=none∨v.ownBlock≠row):zT w' base v l:=h.row.kept hg hne
theorem zT.below {w w':World} {base:Nat} {v:Value} {l:Bs} (h:zT w base v l) (hb:ψ w w'):zT w' base v l:=
 h.grown (vL hb none) (by cases v.ownBlock<;>simp)
theorem zT.drew {w:World} {base:Nat} {v:Value} {l:Bs} (h:zT w base v l):zT w.drew base v l:=h
theorem zT.form {w:World} {base:Nat} {v:Value} {l:Bs} (h:zT w base v l):∃A c,v=.slice A l.length c/\l.length<=c:=by
 rcases h.2 with ⟨h1,h2⟩|⟨g,cap,cur,h1,_,_,h2,_⟩
 ·exact⟨none,0,by rw[h1,h2],ω⟩
 ·exact⟨_,_,h1,h2⟩
theorem zT.room (w:World) (c:Nat) (base:Nat) (hb:base<=w.heap.size) (hc:c<=9223372036854775807):zT (w.alloc (.cells (xX (xO c)) 5)) base (.slice (some ⟨w.heap.size,0,none⟩) 0 c) []:=
 ⟨rfl,.inr ⟨w.heap.size,c,_,rfl,hb,xI _ _,Nat.zero_le _,by unfold maxLen;exact hc,by rw[uG,yS,Nat.mul_one],σ⟩⟩
theorem zT.head {w:World} {g:Nat} {l:Bs} (h:wZ w g l) (n:Nat) (base:Nat) (hb:base<=g) (hn:n<=l.length) (hc:l.length<=9223372036854775807):zT w base (.slice (some ⟨g,0,none⟩) n l.length) (l.take n):=by
 have hl:(l.take n).length=n:=by rw[List.length_take];omega
 unfold zT;rw[hl];refine⟨by simp;omega,.inr ⟨g,l.length,_,rfl,hb,h.blk,hn,by unfold maxLen;exact hc,by rw[uG,Nat.mul_one],?_⟩⟩;rw[Nat.mul_one,List.map_take]
 rfl
theorem zT.text {w:World} {base:Nat} {v:Value} {l:Bs} (h:zT w base v l):(convert 125 9 v).run prog w=.ok (xK l) w:=by
 rcases h.2 with ⟨h1,h2⟩|⟨g,cap,cur,h1,_,_,h2,_⟩
 ·have:l=[]:=List.eq_nil_of_length_eq_zero h2;subst this;have h0:∀W:World,(convert 125 9 (.slice none 0 0)).run prog W=.ok (.string ⟨#[]⟩) W:=λ_=>by kernel_rfl
  rw[h1];exact h0 w
 ·rw[h1];refine run_convert_bytes_back w _ _ 5 ⟨g,0,none⟩ cap l underlying125 underlying5 underlying9 (λj hj=>?_);exact World.ownsRow.cells h (g:=g) (by rw[h1];rfl) j _ (by simp[hj])
theorem xPi {w w2 w1:World} {B n:Nat} {tv:Value} {xs:List Value} {E:TypeId} {o:Obj} (hT:w2.ownsRow B E 1 tv n xs) (hg:(w2.alloc o).grownBy w1 tv.ownBlock) (hb:Below B w w2) (hB:B<=w2.heap.size):Below B w w1:=
 (hb.alloc hB o).grown hg (by simp;omega) (λk hk=>(World.ownsRow.lt hT k hk).1)
theorem xVf (w:World) (xs:List Value) (t:TypeId):∀j u,xs[j]?=some u->(w.alloc (.cells xs.toArray t)).cell? ((⟨w.heap.size,0,none⟩:Addr).add j)=some u:=by
 intro j u hj;have hadd:(⟨w.heap.size,0,none⟩:Addr).add j=⟨w.heap.size,j,none⟩:=by unfold Addr.add;split<;>simp_all
 rw[hadd,xA (xI w (.cells xs.toArray t)) j];simpa using hj
end Go.Proofs.BB
/- Contracts of functions. Conditions: as stated. -/
import Derived.Test.YtacahegificeoaaGreatDoorImapLoginsProofB26
set_option maxHeartbeats 8000000
set_option maxRecDepth 100000
namespace Mailsack
def xNp (n:Int):Bool:=decide (1<=n/\n<=4294967295)
def xD3 (n:Int):Bool:=decide (0<=n/\n<=63)
def qI (o s f:Int):Bool:=xNp o&&decide (0<=s/\s<=700)&&xD3 f
def chN (c:Nat):Bool:=decide (97<=c/\c<=122∨65<=c/\c<=90∨48<=c/\c<=57∨c=45∨c=47∨c=95)
def chP (c:UInt8):Bool:=chN c.toNat
def xAg (s:Bs):Bool:=decide (1<=s.length/\s.length<=16)&&s.all chP
theorem yBu {s:ByteArray} {k:Nat} (h:k<s.size) (f:UInt8->Bool):(s.data.toList.drop k).all f=(f s[k]&&(s.data.toList.drop (k+1)).all f):=by
 have h':k<s.data.toList.length:=by rw[Array.length_toList];exact h
 rw[List.drop_eq_getElem_cons h',List.all_cons]
 rfl
def xBw:Bs:=[73,78,66,79,88]
def xEi (next:Int):List uH->Int->Bool
 |[],_=>true
 |m::l,last=>decide (last<m.uid)&&decide (m.uid<next)&&qI m.object m.size m.flags&&xEi next l m.uid
def rQ (b:jV):Bool:=xAg b.name&&xNp b.validity&&xNp b.next&&decide (b.yB.length<=30)&&xEi b.next b.yB 0
def leS (a b:Bs):Bool:=Go.Op.bytesLess a b||a==b
def rP (given:Int):List jV->Nat->Bs->Bool
 |[],_,_=>true
 |b::l,i,p=>rQ b&&decide (b.validity<given)&&!(decide (0<i)&&b.name==xBw)&&!(decide (1<i)&&leS b.name p)&&rP given l (i+1) b.name
def xCm:List Bs->Nat->Bs->Bool
 |[],_,_=>true
 |s::l,i,p=>xAg s&&!(decide (0<i)&&leS s p)&&xCm l (i+1) s
def uL (l:List jV):Nat:=(l.map (·.yB.length)).sum
def zI (x:yD):Bool:=
 decide (1<=x.boxes.length)&&decide (x.boxes.length<=6)&&(x.boxes.head?.map (·.name)==some xBw)&&decide (x.subs.length<=6)&&xNp x.given&&rP x.given x.boxes 0 []&&xCm x.subs 0 []&&decide (uL x.boxes<=30)
end Mailsack
namespace Go.Proofs.IX
open Go.RowKit Mailsack MM
theorem tN (n:Int) (w:World):Calls Tryz.prog 20 #[.int .i64 n] w λe w'=>e=.returned (.bool (xNp n))/\w'=w:=by
 unfold xNp
 by_cases h1:1<=n
 ·by_cases h2:n<=4294967295
  all_goals
   go_enter Tryz.func20,Tryz.ntmps20;go_wp2;go_ret;exact⟨by simp[h1,h2],rfl⟩
 ·go_enter Tryz.func20,Tryz.ntmps20;go_wp2;go_ret;exact⟨by simp;omega,rfl⟩
theorem xH8 (n:Int) (w:World):Calls Tryz.prog 105 #[.int .i64 n] w λe w'=>e=.returned (.bool (xD3 n))/\w'=w:=by
 unfold xD3
 by_cases h1:0<=n
 ·by_cases h2:n<=63
  all_goals
   go_enter Tryz.func105,Tryz.ntmps105;go_wp2;go_ret;exact⟨by simp[h1,h2],rfl⟩
 ·go_enter Tryz.func105,Tryz.ntmps105;go_wp2;go_ret;exact⟨by simp;omega,rfl⟩
theorem rZ (o s f:Int) (w:World):Calls Tryz.prog 47 #[.int .i64 o,.int .i64 s,.int .i64 f] w λe w'=>e=.returned (.bool (qI o s f))/\w'=w:=by
 have HR:Hid (qI o s f=(xNp o&&decide (0<=s/\s<=700)&&xD3 f)):=ι rfl;generalize qI o s f=R at HR⊢;have HP:=ι (λW=>tN o W);have HF:=ι (λW=>xH8 f W);cases hp:xNp o with
 |false=>
  rw[hp] at HP HR;clear hp;go_enter Tryz.func47,Tryz.ntmps47;go_wp2_with (go_at_call 20;refine(HP.o _).mono ?_;rintro e w' ⟨rfl,rfl⟩)
  go_ret;exact⟨by rw[HR.o];simp,rfl⟩
 |true=>
  rw[hp] at HP HR;clear hp;generalize xD3 f=b at HF HR
  by_cases h1:0<=s
  ·by_cases h2:s<=700
   ·have Hf:Hid (R=b):=ι (by rw[HR.o];simp[h1,h2]);go_enter Tryz.func47,Tryz.ntmps47;go_wp2_with (first|(go_at_call 20;refine(HP.o _).mono ?_;rintro e w' ⟨rfl,rfl⟩)|(go_at_call 105;refine(HF.o _).mono ?_;rintro e w' ⟨rfl,rfl⟩))
    go_ret;exact⟨by rw[Hf.o];rfl,rfl⟩
   ·have Hf:Hid (R=false):=ι (by rw[HR.o];simp[h1,h2]);go_enter Tryz.func47,Tryz.ntmps47;go_wp2_with (go_at_call 20;refine(HP.o _).mono ?_;rintro e w' ⟨rfl,rfl⟩)
    go_ret;exact⟨by rw[Hf.o];rfl,rfl⟩
  ·have Hf:Hid (R=false):=ι (by rw[HR.o];simp[h1]);go_enter Tryz.func47,Tryz.ntmps47;go_wp2_with (go_at_call 20;refine(HP.o _).mono ?_;rintro e w' ⟨rfl,rfl⟩)
   go_ret;exact⟨by rw[Hf.o];rfl,rfl⟩
theorem xCt (s:ByteArray) (w:World):Calls Tryz.prog 22 #[.string s] w λe w'=>e=.returned (.bool (xAg s.data.toList))/\w'=w:=by
 have hsl:s.data.toList.length=s.size:=Array.length_toList
 by_cases h1:1<=s.size
 ·by_cases h2:s.size<=16
  ·have hdone:Hid (xAg s.data.toList=(s.data.toList.drop 0).all chP):=ι (by unfold xAg;simp[hsl,h1,h2]);have Hsl:=ι hsl;clear hsl;go_enter Tryz.func22,Tryz.ntmps22;go_wp2
   go_loop [17] (λiv=>∃k:Nat,k<=s.size/\iv=.int .i64 k/\Hid (xAg s.data.toList=(s.data.toList.drop k).all chP)) (λiv=>s.size- (intOf iv).toNat)
   case atStart=>exact⟨0,ω,rfl,hdone⟩
   case round=>
    obtain⟨k,hk,rfl,hr⟩:=hrel;clear hdone
    by_cases hlt:k<s.size
    ·have HS:Hid ((s.data.toList.drop k).all chP=(chN s[k].toNat&&(s.data.toList.drop (k+1)).all chP)):=ι (yBu hlt chP)
     by_cases e95:(s[k].toNat:Int)=95
     all_goals
      go_wp2
      all_goals first
       |(go_ret;exact⟨by rw[hr.o,HS.o,show chN s[k].toNat=false from decide_eq_false (by first|omega|(simp at *;omega))];rfl,rfl⟩)
       |exact⟨⟨k+1,ω,by go_num,ι (by rw[hr.o,HS.o,show chN s[k].toNat=true from decide_eq_true (by first|omega|(simp at *;omega)),Bool.true_and])⟩,by simp[intOf];omega⟩
    ·go_wp2;go_ret;refine⟨?_,rfl⟩;rw[hr.o,List.drop_eq_nil_iff.2 (by have:=Hsl.o;omega)]
     rfl
  ·have Hf:=ι (show xAg s.data.toList=false by unfold xAg;simp[hsl,h2]);clear hsl;go_enter Tryz.func22,Tryz.ntmps22;go_wp2;go_ret;exact⟨by rw[Hf.o];rfl,rfl⟩
 ·have Hf:=ι (show xAg s.data.toList=false by unfold xAg;rw[decide_eq_false ω];rfl);clear hsl;go_enter Tryz.func22,Tryz.ntmps22;go_wp2;go_ret;exact⟨by rw[Hf.o];rfl,rfl⟩
theorem xO3 {L:List uH} {k:Nat} {m:uH} (h:L[k]?=some m) (next last:Int):xEi next (L.drop k) last=(decide (last<m.uid)&&decide (m.uid<next)&&qI m.object m.size m.flags&&xEi next (L.drop (k+1)) m.uid):=by
 have hk:k<L.length:=(List.getElem?_eq_some_iff.1 h).1;rw[List.drop_eq_getElem_cons hk];have:L[k]=m:=(List.getElem?_eq_some_iff.1 h).2;rw[this]
 rfl
theorem qF {B:Nat} {a w:World} (h:Below B a w) (hB:B<=a.heap.size) (o:Obj):Below B a (w.alloc o):=h.alloc (Nat.le_trans hB h.size) o
theorem xL7 (b:jV) (mv:Value) (w:World) (hm:vG w w.heap.size mv b.yB) (hl:b.yB.length<=9223372036854775807):
  Calls Tryz.prog 21 #[.agg #[xO b.name,.int .i64 b.validity,.int .i64 b.next,mv]] w λe w'=>e=.returned (.bool (rQ b))/\Below w.heap.size w w':=by
 obtain⟨A,c,rfl,hc,hrd⟩:=hm;have HN:=ι (λW=>xCt ⟨b.name.toArray⟩ W);have HV:=ι (λW=>tN b.validity W);have HX:=ι (λW=>tN b.next W);rw[show(⟨b.name.toArray⟩:ByteArray).data.toList=b.name from rfl] at HN
 have HR:Hid (rQ b=(xAg b.name&&xNp b.validity&&xNp b.next&&decide (b.yB.length<=30)&&xEi b.next (b.yB.drop 0) 0)):=ι rfl;generalize rQ b=R at HR⊢;generalize xAg b.name=r1 at HN HR;generalize xNp b.validity=r2 at HV HR;generalize xNp b.next=r3 at HX HR
 have H1:=ι ((Below.refl w.heap.size w).alloc ν (.cells #[xO b.name,.int .i64 b.validity,.int .i64 b.next,.slice A b.yB.length c] 68));have P1:=ι (xL w (.cells #[xO b.name,.int .i64 b.validity,.int .i64 b.next,.slice A b.yB.length c] 68));have Hrd:=ι hrd;clear hrd
 by_cases hok:(r1=true/\r2=true/\r3=true)/\b.yB.length<=30
 ·obtain⟨⟨rfl,rfl,rfl⟩,h30⟩:=hok
  replace HR:Hid (R=xEi b.next (b.yB.drop 0) 0):=ι (by rw[HR.o];simp[h30])
  go_enter Tryz.func21,Tryz.ntmps21
  go_wp2_with (first|(go_at_call 22;refine(HN.o _).mono ?_;rintro e w' ⟨rfl,rfl⟩)|(go_at_call_of 20 (Value.int IntKind.i64 b.validity);refine(HV.o _).mono ?_;rintro e w' ⟨rfl,rfl⟩)|(go_at_call_of 20 (Value.int IntKind.i64 b.next);refine(HX.o _).mono ?_;rintro e w' ⟨rfl,rfl⟩))
  go_loopw [3,31] (λlv iv wr=>∃(k:Nat) (last:Int),k<=b.yB.length/\lv=.int .i64 last/\iv=.int .i64 k/\Hid (R=xEi b.next (b.yB.drop k) last)/\Hid (Below (w.alloc (.cells #[xO b.name,.int .i64 b.validity,.int .i64 b.next,.slice A b.yB.length c] 68)).heap.size (w.alloc (.cells #[xO b.name,.int .i64 b.validity,.int .i64 b.next,.slice A b.yB.length c] 68)) wr)) (λ_ iv _=>b.yB.length- (intOf iv).toNat)
  case atStart=>exact⟨0,0,Nat.zero_le _,rfl,rfl,HR,ι (Below.refl _ _)⟩
  case round=>
   obtain⟨k,last,hk,rfl,rfl,hR,hb⟩:=hrel;clear HR
   by_cases hlt:k<b.yB.length
   ·obtain⟨g,off,rfl,hg,hcell⟩:=Hrd.o ω;obtain⟨m,hm⟩:∃m,b.yB[k]?=some m:=⟨_,List.getElem?_eq_getElem hlt⟩;obtain⟨q1,q2,q3,q4⟩:=hcell k m hm;have kp:∀p:Addr,p.block<w.heap.size->wr.cell? p=w.cell? p:=λp hp=>(hb.o.cell (by simp;omega)).trans (H1.o.cell hp)
    have c1:=(kp ⟨g,off+k*4,none⟩ hg).trans q1;have c2:=(kp ⟨g,off+k*4+1,none⟩ hg).trans q2;have c3:=(kp ⟨g,off+k*4+2,none⟩ hg).trans q3;have c4:=(kp ⟨g,off+k*4+3,none⟩ hg).trans q4;have c5:wr.cell? ⟨w.heap.size,2,none⟩=some (.int .i64 b.next):=xA (xB P1.o hb.o σ) 2
    have c6:(wr.alloc (.cells #[.int .i64 m.uid,.int .i64 m.flags,.int .i64 m.object,.int .i64 m.size] 122)).cell? ⟨w.heap.size,2,none⟩=some (.int .i64 b.next):=xA (xK (xB P1.o hb.o σ) _) 2;have hsz:w.heap.size+1<=wr.heap.size:=by have:=hb.o.size;simpa using this
    have HS:=ι (hR.o.trans (xO3 hm b.next last));have HM:=ι (λW=>rZ m.object m.size m.flags W);generalize qI m.object m.size m.flags=r at HM HS;clear q1 q2 q3 q4 kp hcell hm hR
    have HB9:=ι (qF hb.o ν (.cells #[.int .i64 m.uid,.int .i64 m.flags,.int .i64 m.object,.int .i64 m.size] 122))
    by_cases u1:last<m.uid
    ·by_cases u2:m.uid<b.next
     ·cases r with
      |true=>
       have HT:Hid (R=xEi b.next (b.yB.drop (k+1)) m.uid):=ι (by rw[HS.o];simp[u1,u2]);go_wp2_with (go_at_call 47;refine(HM.o _).mono ?_;rintro e w' ⟨rfl,rfl⟩)
       exact⟨⟨k+1,m.uid,ω,rfl,by go_num,HT,HB9⟩,by simp[intOf];omega⟩
      |false=>
       have HF:Hid (R=false):=ι (by rw[HS.o];simp);go_wp2_with (go_at_call 47;refine(HM.o _).mono ?_;rintro e w' ⟨rfl,rfl⟩)
       go_ret;exact⟨by rw[HF.o];rfl,H1.o.trans (HB9.o.mono H1.o.size)⟩
     ·have HF:Hid (R=false):=ι (by rw[HS.o];simp[u2]);go_wp2;go_ret;exact⟨by rw[HF.o];rfl,H1.o.trans (HB9.o.mono H1.o.size)⟩
    ·have HF:Hid (R=false):=ι (by rw[HS.o];simp[u1]);go_wp2;go_ret;exact⟨by rw[HF.o];rfl,H1.o.trans (HB9.o.mono H1.o.size)⟩
   ·go_wp2;go_ret;refine⟨?_,H1.o.trans (hb.o.mono H1.o.size)⟩;rw[hR.o,List.drop_eq_nil_iff.2 ω]
    rfl
 ·have HF:Hid (R=false):=ι (by
   rw[HR.o];rcases Nat.lt_or_ge 30 b.yB.length with h30|h30
   ·rw[decide_eq_false ω];simp
   ·cases r1<;>cases r2<;>cases r3<;>simp_all)
  have key:r1=false∨(r1=true/\r2=false)∨(r1=true/\r2=true/\r3=false)∨(r1=true/\r2=true/\r3=true/\30<b.yB.length):=by
   cases r1<;>cases r2<;>cases r3<;>simp_all
  clear hok HR;rcases key with rfl|⟨rfl,rfl⟩|⟨rfl,rfl,rfl⟩|⟨rfl,rfl,rfl,h30⟩
  all_goals
   go_enter Tryz.func21,Tryz.ntmps21
   go_wp2_with (first|(go_at_call 22;refine(HN.o _).mono ?_;rintro e w' ⟨rfl,rfl⟩)|(go_at_call_of 20 (Value.int IntKind.i64 b.validity);refine(HV.o _).mono ?_;rintro e w' ⟨rfl,rfl⟩)|(go_at_call_of 20 (Value.int IntKind.i64 b.next);refine(HX.o _).mono ?_;rintro e w' ⟨rfl,rfl⟩))
   go_ret;exact⟨by rw[HF.o];rfl,H1.o⟩
end Go.Proofs.IX
namespace Mailsack
theorem xOu {L:List jV} {k:Nat} {b:jV} (h:L[k]?=some b) (given:Int) (p:Bs):rP given (L.drop k) k p=(rQ b&&decide (b.validity<given)&&!(decide (0<k)&&b.name==xBw)&&!(decide (1<k)&&leS b.name p)&&rP given (L.drop (k+1)) (k+1) b.name):=by
 have hk:k<L.length:=(List.getElem?_eq_some_iff.1 h).1;rw[List.drop_eq_getElem_cons hk];have:L[k]=b:=(List.getElem?_eq_some_iff.1 h).2;rw[this]
 rfl
theorem xRj {L:List Bs} {k:Nat} {s:Bs} (h:L[k]?=some s) (p:Bs):xCm (L.drop k) k p=(xAg s&&!(decide (0<k)&&leS s p)&&xCm (L.drop (k+1)) (k+1) s):=by
 have hk:k<L.length:=(List.getElem?_eq_some_iff.1 h).1;rw[List.drop_eq_getElem_cons hk];have:L[k]=s:=(List.getElem?_eq_some_iff.1 h).2;rw[this]
 rfl
theorem xFp {L:List jV} {k:Nat} {b:jV} (h:L[k]?=some b):uL (L.take (k+1))=uL (L.take k)+b.yB.length:=by
 unfold uL;rw[List.take_add_one,h];simp
end Mailsack
namespace Go.Proofs.IX
open Go.RowKit Mailsack MM
theorem xFh {w:World} {B:Nat} {v:Value} {L:List jV} (h:jU w B v L) {k:Nat} {x:jV} (hx:L[k]?=some x):∃b off c mv,v=.slice (some ⟨b,off,none⟩) L.length c/\b<B/\w.cell? ⟨b,off+k*4,none⟩=some (xO x.name)/\w.cell? ⟨b,off+k*4+1,none⟩=some (.int .i64 x.validity)/\
  w.cell? ⟨b,off+k*4+2,none⟩=some (.int .i64 x.next)/\w.cell? ⟨b,off+k*4+3,none⟩=some mv/\vG w B mv x.yB:=by
 obtain⟨A,c,rfl,_,hr⟩:=h;obtain⟨b,off,rfl,hb,hc⟩:=hr (by have:=(List.getElem?_eq_some_iff.1 hx).1;omega);obtain⟨mv,h1,h2,h3,h4,h5⟩:=hc k x hx;exact⟨b,off,c,mv,rfl,hb,h1,h2,h3,h4,h5⟩
theorem wE (bv sv:Value) (x:yD) (w:World) (h:xHk w w.heap.size bv sv x) (hm:∀b∈x.boxes,b.yB.length<=9223372036854775807) (hl:x.boxes.length<=9223372036854775807) (hl2:x.subs.length<=9223372036854775807):
  Calls Tryz.prog 11 #[.agg #[bv,sv,.int .i64 x.given]] w λe w'=>e=.returned (.bool (zI x))/\Below w.heap.size w w':=by
 have HB:=ι h.boxes;have HS:=ι h.subs;have HM:=ι hm;obtain⟨A,c,rfl,hc,_⟩:=h.boxes;obtain⟨A2,c2,rfl,hc2,_⟩:=h.subs
 have HR:Hid (zI x=(decide (1<=x.boxes.length)&&decide (x.boxes.length<=6)&&(x.boxes.head?.map (·.name)==some xBw)&&decide (x.subs.length<=6)&&xNp x.given&&rP x.given x.boxes 0 []&&xCm x.subs 0 []&&decide (uL x.boxes<=30))):=ι rfl;generalize zI x=R at HR⊢
 have H1:=ι ((Below.refl w.heap.size w).alloc ν (.cells #[.slice A x.boxes.length c,.slice A2 x.subs.length c2,.int .i64 x.given] 28));have P1:=ι (xL w (.cells #[.slice A x.boxes.length c,.slice A2 x.subs.length c2,.int .i64 x.given] 28));have HG:=ι (λW=>tN x.given W);clear h hm
 by_cases h1:1<=x.boxes.length/\x.boxes.length<=6
 ·obtain⟨b0,hb0⟩:∃b0,x.boxes[0]?=some b0:=⟨_,List.getElem?_eq_getElem h1.1⟩;obtain⟨g,off,c',mv0,e0,hg,q0,_⟩:=xFh HB.o hb0;injection e0 with e0 _ e0';subst e0 e0';have q0':w.cell? ⟨g,off,none⟩=some (xO b0.name):=by simpa using q0
  obtain⟨nb,hnb⟩:∃nb:ByteArray,(⟨b0.name.toArray⟩:ByteArray)=nb:=⟨_,rfl⟩;have q1:(w.alloc (.cells #[.slice (some ⟨g,off,none⟩) x.boxes.length c,.slice A2 x.subs.length c2,.int .i64 x.given] 28)).cell? ⟨g,off,none⟩=some (.string nb):=by rw[<-hnb];exact(H1.o.cell hg).trans q0'
  have hin:(nb.toList==[73,78,66,79,88])=(b0.name==xBw):=by rw[<-hnb,ByteArray.toList_eq];rfl
  have hhead:(x.boxes.head?.map (·.name)==some xBw)=(b0.name==xBw):=by
   rw[List.head?_eq_getElem?,hb0];simp
  rw[hhead] at HR;obtain⟨h1a,h1b⟩:=h1;rw[decide_eq_true h1a,decide_eq_true h1b] at HR;generalize (b0.name==xBw)=r1 at hin HR;clear hhead q0 q0' hnb hb0;cases r1 with
  |false=>
   have HF:Hid (R=false):=ι (by rw[HR.o];simp);go_enter Tryz.func11,Tryz.ntmps11;go_wp2;go_ret;exact⟨by rw[HF.o];rfl,H1.o⟩
  |true=>
   by_cases h2:x.subs.length<=6
   ·rw[decide_eq_true h2] at HR;generalize xNp x.given=r2 at HG HR;cases r2 with
    |false=>
     have HF:Hid (R=false):=ι (by rw[HR.o];simp);go_enter Tryz.func11,Tryz.ntmps11;go_wp2_with (go_at_call 20;refine(HG.o _).mono ?_;rintro e w' ⟨rfl,rfl⟩)
     go_ret;exact⟨by rw[HF.o];rfl,H1.o⟩
    |true=>
     replace HR:Hid (R=(rP x.given (x.boxes.drop 0) 0 []&&(xCm x.subs 0 []&&decide (uL x.boxes<=30)))):=ι (by rw[HR.o];simp[Bool.and_assoc])
     go_enter Tryz.func11,Tryz.ntmps11;go_wp2_with (go_at_call 20;refine(HG.o _).mono ?_;rintro e w' ⟨rfl,rfl⟩)
     clear hin q1;generalize hrest:(xCm x.subs 0 []&&decide (uL x.boxes<=30))=Q at HR;have HQ:=ι hrest;clear hrest
     go_loopw [3,39] (λtv iv wr=>∃(k tot:Nat) (p:Bs),k<=x.boxes.length/\tot<=30*k/\tv=.int .i64 tot/\iv=.int .i64 k/\Hid (R=(rP x.given (x.boxes.drop k) k p&&Q)/\tot=uL (x.boxes.take k)/\(∀j,k=j+1->∃b,x.boxes[j]?=some b/\b.name=p)/\Below (w.alloc (.cells #[.slice (some ⟨g,off,none⟩) x.boxes.length c,.slice A2 x.subs.length c2,.int .i64 x.given] 28)).heap.size (w.alloc (.cells #[.slice (some ⟨g,off,none⟩) x.boxes.length c,.slice A2 x.subs.length c2,.int .i64 x.given] 28)) wr)) (λ_ iv _=>x.boxes.length- (intOf iv).toNat)
     case atStart=>exact⟨0,0,[],Nat.zero_le _,δ,rfl,rfl,ι ⟨HR.o,rfl,λj hj=>by omega,Below.refl _ _⟩⟩
     case round=>
      obtain⟨k,tot,p,hk,htot,rfl,rfl,hr⟩:=hrel;clear HR
      by_cases hlt:k<x.boxes.length
      ·obtain⟨b,hx⟩:∃b,x.boxes[k]?=some b:=⟨_,List.getElem?_eq_getElem hlt⟩;obtain⟨g',off',c',mv,e0,_,q0,q1,q2,q3,hmv⟩:=xFh HB.o hx;injection e0 with e0 _ e0';injection e0 with e0;injection e0 with e1 e2;subst e1 e2 e0'
       have hwr:Below w.heap.size w wr:=H1.o.trans (hr.o.2.2.2.mono H1.o.size);obtain⟨nb,hnb⟩:∃nb:ByteArray,(⟨b.name.toArray⟩:ByteArray)=nb:=⟨_,rfl⟩;have r0:wr.cell? ⟨g,off+k*4,none⟩=some (.string nb):=by rw[<-hnb];exact(hwr.cell hg).trans q0
       have r1:=(hwr.cell (p:=⟨g,off+k*4+1,none⟩) hg).trans q1;have r2:=(hwr.cell (p:=⟨g,off+k*4+2,none⟩) hg).trans q2;have r3:=(hwr.cell (p:=⟨g,off+k*4+3,none⟩) hg).trans q3
       have HRB:Hid (∀W,Below w.heap.size w W->Calls Tryz.prog 21 #[.agg #[.string nb,.int .i64 b.validity,.int .i64 b.next,mv]] W λe w'=>e=.returned (.bool (rQ b))/\Below W.heap.size W w'):=ι (λW hb=>by
        have:=xL7 b mv W ((hmv.below hb ν).more hb.size) (HM.o b (List.mem_of_getElem? hx));rw[<-hnb];exact this)
       have hml:rQ b=true->b.yB.length<=30:=λh=>by
        unfold rQ at h;simp only[Bool.and_eq_true,decide_eq_true_eq] at h;exact h.1.2
       have HSt:=ι (xOu hx x.given p);have HTk:=ι (xFp hx);have hi1:(nb.toList==[73,78,66,79,88])=(b.name==xBw):=by rw[<-hnb,ByteArray.toList_eq];rfl
       have HNB:=ι hnb;have Hx:=ι hx;have Hwr:=ι hwr;obtain⟨Am,cm,rfl,hcm,_⟩:=hmv;clear q0 q1 q2 q3 hnb hwr hx;generalize rQ b=rb at HRB hml HSt;generalize (b.name==xBw)=i1 at hi1 HSt;go_wp2_with fail
       have hb8:=ι (qF (Below.refl wr.heap.size wr) ν (.cells #[.string nb,.int .i64 b.validity,.int .i64 b.next,.slice Am b.yB.length cm] 68));have pb8:=ι (xL wr (.cells #[.string nb,.int .i64 b.validity,.int .i64 b.next,.slice Am b.yB.length cm] 68))
       refine(HRB.o _ (Hwr.o.trans (hb8.o.mono Hwr.o.size))).mono ?_;rintro e w3 ⟨rfl,hb3⟩;have xOc:=hb8.o.trans (hb3.mono hb8.o.size);have HB3:=ι (Hwr.o.trans (xOc.mono Hwr.o.size));have HBe:=ι (hr.o.2.2.2.trans (xOc.mono hr.o.2.2.2.size));have pb3:=xB pb8.o hb3 σ
       have z0:w3.cell? ⟨wr.heap.size,0,none⟩=some (.string nb):=xA pb3 0;have z1:w3.cell? ⟨wr.heap.size,1,none⟩=some (.int .i64 b.validity):=xA pb3 1;have z3:w3.cell? ⟨wr.heap.size,3,none⟩=some (.slice Am b.yB.length cm):=xA pb3 3;have p3:=xB P1.o HBe.o σ
       have y0:w3.cell? ⟨w.heap.size,0,none⟩=some (.slice (some ⟨g,off,none⟩) x.boxes.length c):=xA p3 0;have y2:w3.cell? ⟨w.heap.size,2,none⟩=some (.int .i64 x.given):=xA p3 2;clear hb3 xOc pb3 p3 r0 r1 r2 r3 HRB hb8 pb8;cases rb with
       |false=>
        have HF:Hid (R=false):=ι (by rw[hr.o.1,HSt.o];simp);go_wp2;go_ret;exact⟨by rw[HF.o];rfl,HB3.o⟩
       |true=>
        have hml':=hml rfl;clear hml
        by_cases hv:b.validity<x.given
        ·have hzl:wr.heap.size<w3.heap.size:=World.block_lt_of_cell? w3 _ z0;have hyl:w.heap.size<w3.heap.size:=World.block_lt_of_cell? w3 _ y0;have hgl:g<w3.heap.size:=Nat.lt_trans hg hyl;rcases Nat.lt_trichotomy k 1 with h|h|h
         ·obtain rfl:k=0:=by omega
          have HT:Hid (R=(rP x.given (x.boxes.drop (0+1)) (0+1) b.name&&Q)):=ι (by rw[hr.o.1,HSt.o];simp[hv]);go_upto_region 11 with fail
          refine RG.xP (λW=>Hid (Below w3.heap.size w3 W)) κ κ (ι (Below.refl _ _).drew) ?_
          iterate 23 refine RG.dF (λw9 hw9=>have z0':=(hw9.o.cell (p:=⟨wr.heap.size,0,none⟩) hzl).trans z0;have y0':=(hw9.o.cell (p:=⟨w.heap.size,0,none⟩) hyl).trans y0;And.intro (z0') y0') ?_
          refine RG.xS (λw4 hb4=>?_);have HB4:=ι (HB3.o.trans (hb4.o.mono HB3.o.size));have HBe4:=ι (HBe.o.trans (hb4.o.mono HBe.o.size));have z3':=(hb4.o.cell (p:=⟨wr.heap.size,3,none⟩) hzl).trans z3;clear hb4;go_wp2
          exact⟨⟨0+1,tot+b.yB.length,b.name,ω,ω,by go_num,by go_num,ι ⟨HT.o,by rw[HTk.o,<-hr.o.2.1],λi hi=>⟨b,by rw[show i=0 by omega];exact Hx.o,rfl⟩,HBe4.o⟩⟩,by simp[intOf];omega⟩
         ·subst h;cases i1
          ·have HT:Hid (R=(rP x.given (x.boxes.drop (1+1)) (1+1) b.name&&Q)):=ι (by rw[hr.o.1,HSt.o];simp[hv]);go_upto_region 11 with fail
           refine RG.xP (λW=>Hid (Below w3.heap.size w3 W)) κ κ (ι (Below.refl _ _).drew) ?_
           iterate 23 refine RG.dF (λw9 hw9=>have z0':=(hw9.o.cell (p:=⟨wr.heap.size,0,none⟩) hzl).trans z0;have y0':=(hw9.o.cell (p:=⟨w.heap.size,0,none⟩) hyl).trans y0;And.intro (z0') y0') ?_
           refine RG.xS (λw4 hb4=>?_);have HB4:=ι (HB3.o.trans (hb4.o.mono HB3.o.size));have HBe4:=ι (HBe.o.trans (hb4.o.mono HBe.o.size));have z3':=(hb4.o.cell (p:=⟨wr.heap.size,3,none⟩) hzl).trans z3;clear hb4;go_wp2
           exact⟨⟨1+1,tot+b.yB.length,b.name,ω,ω,by go_num,by go_num,ι ⟨HT.o,by rw[HTk.o,<-hr.o.2.1],λi hi=>⟨b,by rw[show i=1 by omega];exact Hx.o,rfl⟩,HBe4.o⟩⟩,by simp[intOf];omega⟩
          ·have HF:Hid (R=false):=ι (by rw[hr.o.1,HSt.o];simp[hv]);have hp1:nb.toList=[73,78,66,79,88]:=beq_iff_eq.1 hi1;go_upto_region 11 with fail
           refine RG.xP (λW=>Hid (Below w3.heap.size w3 W)) κ κ (ι (Below.refl _ _).drew) ?_
           iterate 23
            apply RG.xJ
            ·intro w9 hw9;have z0':=(hw9.o.cell (p:=⟨wr.heap.size,0,none⟩) hzl).trans z0;have y0':=(hw9.o.cell (p:=⟨w.heap.size,0,none⟩) hyl).trans y0;repeat (first|go_big_skip|go_step)
             with_reducible exact RG.xD hw9
            ·rfl
           refine RG.xS (λw4 hb4=>?_);have HB4:=ι (HB3.o.trans (hb4.o.mono HB3.o.size));clear hb4;go_wp2;go_ret;exact⟨by rw[HF.o];rfl,HB4.o⟩
         ·obtain⟨j,rfl⟩:∃j,k=j+1:=⟨k-1,ω⟩;obtain⟨b',hx',hp'⟩:=hr.o.2.2.1 j rfl;obtain⟨g',off',c',mv,e0,_,q0,_⟩:=xFh HB.o hx';injection e0 with e0 _ e0';injection e0 with e0;injection e0 with e1 e2;subst e1 e2 e0';rw[hp'] at q0
          obtain⟨pb,hpb⟩:∃pb:ByteArray,(⟨p.toArray⟩:ByteArray)=pb:=⟨_,rfl⟩;have v0:w3.cell? ⟨g,off+j*4,none⟩=some (.string pb):=by rw[<-hpb];exact(HB3.o.cell hg).trans q0
          have hi2:(Op.bytesLess nb.toList pb.toList||nb.toList==pb.toList)=leS b.name p:=by rw[<-HNB.o,<-hpb,ByteArray.toList_eq,ByteArray.toList_eq];rfl
          clear q0 hpb hx' hp';have hj0:0<j:=by omega
          cases i1
          ·generalize leS b.name p=i2 at hi2 HSt;cases i2
           ·have HT:Hid (R=(rP x.given (x.boxes.drop ((j+1)+1)) ((j+1)+1) b.name&&Q)):=ι (by rw[hr.o.1,HSt.o];simp[hv]);go_upto_region 11 with fail
            refine RG.xP (λW=>Hid (Below w3.heap.size w3 W)) κ κ (ι (Below.refl _ _).drew) ?_
            iterate 23 refine RG.dF (λw9 hw9=>have z0':=(hw9.o.cell (p:=⟨wr.heap.size,0,none⟩) hzl).trans z0;have y0':=(hw9.o.cell (p:=⟨w.heap.size,0,none⟩) hyl).trans y0;have v0':=(hw9.o.cell (p:=⟨g,off+j*4,none⟩) hgl).trans v0;And.intro (z0') (And.intro (y0') v0')) ?_
            refine RG.xS (λw4 hb4=>?_);have HB4:=ι (HB3.o.trans (hb4.o.mono HB3.o.size));have HBe4:=ι (HBe.o.trans (hb4.o.mono HBe.o.size));have z3':=(hb4.o.cell (p:=⟨wr.heap.size,3,none⟩) hzl).trans z3;clear hb4;go_wp2
            exact⟨⟨(j+1)+1,tot+b.yB.length,b.name,ω,ω,by go_num,by go_num,ι ⟨HT.o,by rw[HTk.o,<-hr.o.2.1],λi hi=>⟨b,by rw[show i=j+1 by omega];exact Hx.o,rfl⟩,HBe4.o⟩⟩,by simp[intOf];omega⟩
           ·have HF:Hid (R=false):=ι (by rw[hr.o.1,HSt.o];simp[hv,hj0]);go_upto_region 11 with fail
            refine RG.xP (λW=>Hid (Below w3.heap.size w3 W)) κ κ (ι (Below.refl _ _).drew) ?_
            iterate 23 refine RG.dF (λw9 hw9=>have z0':=(hw9.o.cell (p:=⟨wr.heap.size,0,none⟩) hzl).trans z0;have y0':=(hw9.o.cell (p:=⟨w.heap.size,0,none⟩) hyl).trans y0;have v0':=(hw9.o.cell (p:=⟨g,off+j*4,none⟩) hgl).trans v0;And.intro (z0') (And.intro (y0') v0')) ?_
            refine RG.xS (λw4 hb4=>?_);have HB4:=ι (HB3.o.trans (hb4.o.mono HB3.o.size));clear hb4;go_wp2;go_ret;exact⟨by rw[HF.o];rfl,HB4.o⟩
          ·have HF:Hid (R=false):=ι (by rw[hr.o.1,HSt.o];simp[hv]);have hp1:nb.toList=[73,78,66,79,88]:=beq_iff_eq.1 hi1;go_upto_region 11 with fail
           refine RG.xP (λW=>Hid (Below w3.heap.size w3 W)) κ κ (ι (Below.refl _ _).drew) ?_
           iterate 23
            apply RG.xJ
            ·intro w9 hw9;have z0':=(hw9.o.cell (p:=⟨wr.heap.size,0,none⟩) hzl).trans z0;have y0':=(hw9.o.cell (p:=⟨w.heap.size,0,none⟩) hyl).trans y0;have v0':=(hw9.o.cell (p:=⟨g,off+j*4,none⟩) hgl).trans v0;repeat (first|go_big_skip|go_step)
             with_reducible exact RG.xD hw9
            ·rfl
           refine RG.xS (λw4 hb4=>?_);have HB4:=ι (HB3.o.trans (hb4.o.mono HB3.o.size));clear hb4;go_wp2;go_ret;exact⟨by rw[HF.o];rfl,HB4.o⟩
        ·have HF:Hid (R=false):=ι (by rw[hr.o.1,HSt.o];simp[hv]);go_wp2;go_ret;exact⟨by rw[HF.o];rfl,HB3.o⟩
      ·obtain rfl:k=x.boxes.length:=by omega
       have HE:Hid (R=(xCm (x.subs.drop 0) 0 []&&decide (tot<=30))/\∀j,(0:Nat)=j+1->x.subs[j]?=some []):=ι ⟨by rw[hr.o.1,List.drop_length,<-HQ.o,hr.o.2.1,List.take_length];simp[rP],λj hj=>by omega⟩
       have HWR:Hid (Below w.heap.size w wr):=ι (H1.o.trans (hr.o.2.2.2.mono H1.o.size));have y1:wr.cell? ⟨w.heap.size,1,none⟩=some (.slice A2 x.subs.length c2):=xA (xB P1.o hr.o.2.2.2 σ) 1;clear hr;go_wp2_with fail
       go_loop [86] (λiv=>∃(k:Nat) (p:Bs),k<=x.subs.length/\iv=.int .i64 k/\Hid (R=(xCm (x.subs.drop k) k p&&decide (tot<=30))/\∀j,k=j+1->x.subs[j]?=some p)) (λiv=>x.subs.length- (intOf iv).toNat)
       case atStart=>exact⟨0,[],Nat.zero_le _,rfl,HE⟩
       case round=>
        obtain⟨k,p,hk,rfl,hr⟩:=hrel;clear HE
        by_cases hlt:k<x.subs.length
        ·obtain⟨s,hx⟩:∃s,x.subs[k]?=some s:=⟨_,List.getElem?_eq_getElem hlt⟩;obtain⟨A3,c3,e0,_,hrd⟩:=HS.o;injection e0 with e0 _ e0';subst e0 e0';obtain⟨g2,xW0,rfl,hg2,hcell⟩:=hrd ω;have q0:=(HWR.o.cell (p:=⟨g2,xW0+k,none⟩) hg2).trans (hcell k s hx)
         obtain⟨sb,hsb⟩:∃sb:ByteArray,(⟨s.toArray⟩:ByteArray)=sb:=⟨_,rfl⟩;have r0:wr.cell? ⟨g2,xW0+k,none⟩=some (.string sb):=by rw[<-hsb];exact q0
         have HSt:=ι (xRj hx p)
         have HN:Hid (∀W,Calls Tryz.prog 22 #[.string sb] W λe w'=>e=.returned (.bool (xAg s))/\w'=W):=ι (λW=>by
          have:=xCt sb W;rw[show sb.data.toList=s by rw[<-hsb]] at this;exact this)
         generalize xAg s=rn at HN HSt;have Hx:=ι hx;rcases Nat.eq_zero_or_pos k with h|h
         ·subst h;clear q0 hsb hx hcell hrd;have r0':wr.cell? ⟨g2,xW0,none⟩=some (.string sb):=by simpa using r0
          cases rn with
          |false=>
           have HF:Hid (R=false):=ι (by rw[hr.o.1,HSt.o];simp);go_wp2_with (first|go_big_skip|(go_at_call 22;refine(HN.o _).mono ?_;rintro e w' ⟨rfl,rfl⟩))
           go_ret;exact⟨by rw[HF.o];rfl,HWR.o⟩
          |true=>
           have HT:Hid (R=(xCm (x.subs.drop (0+1)) (0+1) s&&decide (tot<=30))):=ι (by rw[hr.o.1,HSt.o];simp);go_wp2_with (first|go_big_skip|(go_at_call 22;refine(HN.o _).mono ?_;rintro e w' ⟨rfl,rfl⟩))
           exact⟨⟨0+1,s,ω,by go_num,ι ⟨HT.o,λi hi=>by rw[show i=0 by omega];exact Hx.o⟩⟩,by simp[intOf];omega⟩
         ·obtain⟨j,rfl⟩:∃j,k=j+1:=⟨k-1,ω⟩;have hx':=hr.o.2 j rfl;obtain⟨pb,hpb⟩:∃pb:ByteArray,(⟨p.toArray⟩:ByteArray)=pb:=⟨_,rfl⟩;have v0:wr.cell? ⟨g2,xW0+j,none⟩=some (.string pb):=by rw[<-hpb];exact(HWR.o.cell (p:=⟨g2,xW0+j,none⟩) hg2).trans (hcell j p hx')
          have hi2:(Op.bytesLess sb.toList pb.toList||sb.toList==pb.toList)=leS s p:=by rw[<-hsb,<-hpb,ByteArray.toList_eq,ByteArray.toList_eq];rfl
          generalize leS s p=i2 at hi2 HSt;clear q0 hsb hx hcell hrd hpb hx';cases rn with
          |false=>
           have HF:Hid (R=false):=ι (by rw[hr.o.1,HSt.o];simp);go_wp2_with (first|go_big_skip|(go_at_call 22;refine(HN.o _).mono ?_;rintro e w' ⟨rfl,rfl⟩))
           go_ret;exact⟨by rw[HF.o];rfl,HWR.o⟩
          |true=>
           cases i2 with
           |true=>
            have HF:Hid (R=false):=ι (by rw[hr.o.1,HSt.o];simp);go_wp2_with (first|go_big_skip|(go_at_call 22;refine(HN.o _).mono ?_;rintro e w' ⟨rfl,rfl⟩))
            go_ret;exact⟨by rw[HF.o];rfl,HWR.o⟩
           |false=>
            have HT:Hid (R=(xCm (x.subs.drop (j+1+1)) (j+1+1) s&&decide (tot<=30))):=ι (by rw[hr.o.1,HSt.o];simp);go_wp2_with (first|go_big_skip|(go_at_call 22;refine(HN.o _).mono ?_;rintro e w' ⟨rfl,rfl⟩))
            exact⟨⟨j+1+1,s,ω,by go_num,ι ⟨HT.o,λi hi=>by rw[show i=j+1 by omega];exact Hx.o⟩⟩,by simp[intOf];omega⟩
        ·have HF:Hid (R=decide (tot<=30)):=ι (by rw[hr.o.1,List.drop_eq_nil_iff.2 ω];simp[xCm])
         by_cases h30:tot<=30
         ·rw[decide_eq_true h30] at HF;go_wp2;go_ret;exact⟨by rw[HF.o];simp;omega,HWR.o⟩
         ·rw[decide_eq_false h30] at HF;go_wp2;go_ret;exact⟨by rw[HF.o];simp;omega,HWR.o⟩
   ·have HF:Hid (R=false):=ι (by rw[HR.o,decide_eq_false h2];simp);go_enter Tryz.func11,Tryz.ntmps11;go_wp2;go_ret;exact⟨by rw[HF.o];rfl,H1.o⟩
 ·have HF:Hid (R=false):=ι (by
   rw[HR.o];rcases Nat.lt_or_ge x.boxes.length 1 with h9|h9
   ·rw[decide_eq_false ω];simp
   ·rw[decide_eq_false (p:=x.boxes.length<=6) ω];simp)
  have h1':x.boxes.length<1∨6<x.boxes.length:=by omega
  clear h1;rcases h1' with h1|h1
  all_goals
   go_enter Tryz.func11,Tryz.ntmps11;go_wp2;go_ret;exact⟨by rw[HF.o];rfl,H1.o⟩
end Go.Proofs.IX
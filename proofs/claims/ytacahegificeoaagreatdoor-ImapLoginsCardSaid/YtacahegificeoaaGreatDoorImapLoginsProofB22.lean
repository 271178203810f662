/- Contracts of functions. Conditions: as stated. -/
import Derived.Test.YtacahegificeoaaGreatDoorImapLoginsProofB21
set_option maxHeartbeats 8000000
set_option maxRecDepth 100000
namespace Mailsack
def qV (yN xE:ByteArray) (r:Int):Bool:=decide (yN.size=16)&&decide (xE.size=12)&&decide (1<=r)&&decide (r<=64)
end Mailsack
namespace Go.Proofs.SH
open Go.RowKit Mailsack MM BB
abbrev freshV (yN xE xI:ByteArray) (r:Int):Value:=.agg #[.string yN,.string xE,.string xI,.int .i64 r]
theorem xIz (yN xE xI:ByteArray) (r:Int) (w:World):
  Calls Tryz.prog 82 #[freshV yN xE xI r] w λe w'=>e=.returned (.bool (qV yN xE r))/\Below w.heap.size w w':=by
 have HB:Hid (Below w.heap.size w (w.alloc (.cells #[.string yN,.string xE,.string xI,.int .i64 r] 34))):=ι ((Below.refl w.heap.size w).alloc ν _)
 have HR:Hid (∀b,(b=true↔yN.size=16/\xE.size=12/\1<=r/\r<=64)->qV yN xE r=b):=ι (λb hb=>by
  rw[Bool.eq_iff_iff,hb];unfold qV;simp[and_assoc])
 by_cases h1:yN.size=16
 ·have i1:(yN.size:Int)=16:=by omega
  by_cases h2:xE.size=12
  ·have i2:(xE.size:Int)=12:=by omega
   by_cases h3:1<=r
   ·by_cases h4:r<=64
    ·rw[HR.o true (by simp[h1,h2,h3,h4])];clear h1 h2 HR;go_enter Tryz.func82,Tryz.ntmps82;go_wp2;go_ret;exact⟨rfl,HB.o⟩
    ·rw[HR.o false (by simp[h4])];clear h1 h2 HR;go_enter Tryz.func82,Tryz.ntmps82;go_wp2;go_ret;exact⟨rfl,HB.o⟩
   ·rw[HR.o false (by simp[h3])];clear h1 h2 HR;go_enter Tryz.func82,Tryz.ntmps82;go_wp2;go_ret;exact⟨rfl,HB.o⟩
  ·rw[HR.o false (by simp[h2])];have i2:(xE.size:Int)≠12:=by omega
   have i3:((xE.size:Int)==12)=false:=by simp;omega
   clear h1 h2 HR;go_enter Tryz.func82,Tryz.ntmps82;go_wp2;go_ret;exact⟨rfl,HB.o⟩
 ·rw[HR.o false (by simp[h1])];have i2:(yN.size:Int)≠16:=by omega
  have i3:((yN.size:Int)==16)=false:=by simp;omega
  clear h1 HR;go_enter Tryz.func82,Tryz.ntmps82;go_wp2;go_ret;exact⟨rfl,HB.o⟩
end Go.Proofs.SH
namespace Mailsack
def slash:Bs:=[47]
def xKd (kind user:Bs):Bs:=kind++slash++user
def xM4 (kind user:Bs):Bs:=kind++slash++user++slash
def usedNames (l:List Slot):List Bs:=(l.filter (·.used)).map (·.name)
def tC (l:List Bs):List Bs:=l.mergeSort λx y=>decide (x<=y)
def xAe (d:Dk):List Bs:=if vY d=true then Go.Lib.compact (tC (usedNames (yR (yG d).secs))) else[]
def numOf (s:Bs):Nat:=s.foldl (λn c=>10*n+(c.toNat-48)) 0
def xGa (c:UInt8):Bool:=decide (48<=c.toNat)&&decide (c.toNat<=57)
def kT (s:Bs):Bool:=decide (1<=s.length)&&decide (s.length<=10)&&(s.getD 0 0 !=48)&&s.all xGa&&decide (numOf s<=4294967295)
def numberOf (h n:Bs):List Int:=if n.take h.length=h then(if kT (n.drop h.length)=true then[(numOf (n.drop h.length):Int)] else[]) else[]
def xEu (l:List Int):List Int:=l.mergeSort λx y=>decide (x<=y)
def qM (d:Dk) (kind user:Bs):List Int:=xEu ((xAe d).flatMap (numberOf (xM4 kind user)))
theorem xOp {α:Type} [DecidableEq α] [Inhabited α] {l:List α} {x:α} (h:x∈Go.Lib.compact l):x∈l:=by
 unfold Go.Lib.compact Go.Lib.compactUpTo at h;obtain⟨i,hi,rfl⟩:=List.mem_map.1 h;have:=List.mem_range.1 (List.mem_filter.1 hi).1;rw[getElem!_pos l.toArray i (by simpa using this)];simp
theorem yAm {l:List Slot} {x:Bs}:x∈usedNames l↔∃t∈l,t.used=true/\t.name=x:=by
 unfold usedNames;simp only[List.mem_map,List.mem_filter];exact⟨λ⟨t,⟨h1,h2⟩,h3⟩=>⟨t,h1,h2,h3⟩,λ⟨t,h1,h2,h3⟩=>⟨t,⟨h1,h2⟩,h3⟩⟩
theorem xW3 {d:Dk} {x:Bs} (h:x∈xAe d):∃t∈yR (yG d).secs,t.used=true/\t.name=x:=by
 unfold xAe at h;split at h
 ·have:=xOp h;unfold tC at this;rw[List.mem_mergeSort] at this;exact yAm.1 this
 ·simp at h
structure tJ where
 user:ByteArray
 yN:ByteArray
 rounds:Int
 xAb:Int
 pub:ByteArray
 xE:ByteArray
 wrapped:ByteArray
 old:ByteArray
def vL:tJ:=⟨⟨#[]⟩,⟨#[]⟩,0,0,⟨#[]⟩,⟨#[]⟩,⟨#[]⟩,⟨#[]⟩⟩
def uP (a:tJ):Bool:=
 wR a.user&&qV a.yN a.xE a.rounds&&(decide (a.xAb=0)||decide (a.xAb=1))&&decide (a.pub.size=32)&&decide (a.wrapped.size=48)&&(decide (a.old.size=0)||decide (a.old.size=48))
end Mailsack
namespace Go.Proofs.SH
open Go.RowKit Mailsack MM BB
abbrev xHj (a:tJ):Value:=.agg #[.string a.user,.string a.yN,.int .i64 a.rounds,.int .i64 a.xAb,.string a.pub,.string a.xE,.string a.wrapped,.string a.old]
abbrev zX (a:tJ):Obj:=.cells #[.string a.user,.string a.yN,.int .i64 a.rounds,.int .i64 a.xAb,.string a.pub,.string a.xE,.string a.wrapped,.string a.old] 54
theorem xHs (a:tJ) (w:World) (hu:a.user.size<=1099511627776):
  Calls Tryz.prog 31 #[xHj a] w λe w'=>e=.returned (.bool (uP a))/\Below w.heap.size w w':=by
 obtain⟨u,s,r,ep,pb,n,wr,o⟩:=a;simp only at hu⊢;have HU:=ι (λW=>xJ0 u W hu);have HW:=ι (λW=>xIz s n ⟨#[]⟩ r W)
 have HE:Hid (uP ⟨u,s,r,ep,pb,n,wr,o⟩=(wR u&&qV s n r&&(decide (ep=0)||decide (ep=1))&&decide (pb.size=32)&&decide (wr.size=48)&&(decide (o.size=0)||decide (o.size=48)))):=ι rfl
 have H0:Hid (Below w.heap.size w (w.alloc (zX ⟨u,s,r,ep,pb,n,wr,o⟩))/\(w.alloc (zX ⟨u,s,r,ep,pb,n,wr,o⟩)).heap[w.heap.size]?=some (zX ⟨u,s,r,ep,pb,n,wr,o⟩)):=ι ⟨(Below.refl w.heap.size w).alloc ν _,xL _ _⟩;simp only[zX] at H0;clear hu;generalize wR u=b1 at HU HE
 generalize qV s n r=b2 at HW HE;cases b1 with
 |false=>
  have HR:Hid (uP ⟨u,s,r,ep,pb,n,wr,o⟩=false):=ι (by rw[HE.o];rfl);clear HE;go_enter Tryz.func31,Tryz.ntmps31;go_wp2_with fail
  refine(HU.o _).mono ?_;rintro ex w1 ⟨rfl,rfl⟩;go_wp2;go_ret;exact⟨by rw[HR.o];rfl,H0.o.1⟩
 |true=>
  cases b2 with
  |false=>
   have HR:Hid (uP ⟨u,s,r,ep,pb,n,wr,o⟩=false):=ι (by rw[HE.o];rfl);clear HE;go_enter Tryz.func31,Tryz.ntmps31;go_wp2_with fail
   refine(HU.o _).mono ?_;rintro ex w1 ⟨rfl,rfl⟩;go_wp2_with fail
   refine(HW.o _).mono ?_;rintro ex w2 ⟨rfl,hb2⟩;have HB2:=ι (H0.o.1.trans (hb2.mono H0.o.1.size));have hk2:=xB H0.o.2 hb2 (xG H0.o.2);have c3:=xA hk2 3;have c4:=xA hk2 4;have c6:=xA hk2 6;have c7:=xA hk2 7;simp only[gA,gB,gC] at c3 c4 c6 c7;clear hb2 hk2 HU HW H0;go_wp2;go_ret
   exact⟨by rw[HR.o];rfl,HB2.o⟩
  |true=>
   by_cases he0:ep=0
   ·have he:ep=0∨ep=1:=.inl he0;have k0:(ep==0)=true:=by simp[he0]
    clear he0
    by_cases h4:pb.size=32
    ·have i4:((pb.size:Int)==32)=true:=by simp;omega
     have j4:(pb.size:Int)=32:=by omega
     by_cases h5:wr.size=48
     ·have i5:((wr.size:Int)==48)=true:=by simp;omega
      have j5:(wr.size:Int)=48:=by omega
      by_cases h6:o.size=0
      ·have i6:(o.toList==[])=true:=by rw[ByteArray.toList_eq];simp;exact Array.eq_empty_of_size_eq_zero h6
       have HR:Hid (uP ⟨u,s,r,ep,pb,n,wr,o⟩=true):=ι (by rw[HE.o];simp[h4,h5,h6,he]);clear h4 h5 h6 HE;go_enter Tryz.func31,Tryz.ntmps31;go_wp2_with fail
       refine(HU.o _).mono ?_;rintro ex w1 ⟨rfl,rfl⟩;go_wp2_with fail
       refine(HW.o _).mono ?_;rintro ex w2 ⟨rfl,hb2⟩;have HB2:=ι (H0.o.1.trans (hb2.mono H0.o.1.size));have hk2:=xB H0.o.2 hb2 (xG H0.o.2);have c3:=xA hk2 3;have c4:=xA hk2 4;have c6:=xA hk2 6;have c7:=xA hk2 7;simp only[gA,gB,gC] at c3 c4 c6 c7;clear hb2 hk2 HU HW H0
       go_wp2;go_ret;exact⟨by rw[HR.o];rfl,HB2.o⟩
      ·have i6:(o.toList==[])=false:=by
        rw[ByteArray.toList_eq];cases hx:(o.data.toList==[]) with
        |false=>rfl
        |true=>
         simp only[beq_iff_eq] at hx;exact absurd (show o.data.size=0 by rw[<-Array.length_toList,hx];rfl) h6
       by_cases h7:o.size=48
       ·have i7:((o.size:Int)==48)=true:=by simp;omega
        have j7:(o.size:Int)=48:=by omega
        have HR:Hid (uP ⟨u,s,r,ep,pb,n,wr,o⟩=true):=ι (by rw[HE.o];simp[h4,h5,h7,he]);clear h4 h5 h6 h7 HE;go_enter Tryz.func31,Tryz.ntmps31;go_wp2_with fail
        refine(HU.o _).mono ?_;rintro ex w1 ⟨rfl,rfl⟩;go_wp2_with fail
        refine(HW.o _).mono ?_;rintro ex w2 ⟨rfl,hb2⟩;have HB2:=ι (H0.o.1.trans (hb2.mono H0.o.1.size));have hk2:=xB H0.o.2 hb2 (xG H0.o.2);have c3:=xA hk2 3;have c4:=xA hk2 4;have c6:=xA hk2 6;have c7:=xA hk2 7;simp only[gA,gB,gC] at c3 c4 c6 c7;clear hb2 hk2 HU HW H0
        go_wp2;go_ret;exact⟨by rw[HR.o];rfl,HB2.o⟩
       ·have i7:((o.size:Int)==48)=false:=by simp;omega
        have j7:(o.size:Int)≠48:=by omega
        have HR:Hid (uP ⟨u,s,r,ep,pb,n,wr,o⟩=false):=ι (by rw[HE.o];simp[h6,h7]);clear h4 h5 h6 h7 HE;go_enter Tryz.func31,Tryz.ntmps31;go_wp2_with fail
        refine(HU.o _).mono ?_;rintro ex w1 ⟨rfl,rfl⟩;go_wp2_with fail
        refine(HW.o _).mono ?_;rintro ex w2 ⟨rfl,hb2⟩;have HB2:=ι (H0.o.1.trans (hb2.mono H0.o.1.size));have hk2:=xB H0.o.2 hb2 (xG H0.o.2);have c3:=xA hk2 3;have c4:=xA hk2 4;have c6:=xA hk2 6;have c7:=xA hk2 7;simp only[gA,gB,gC] at c3 c4 c6 c7;clear hb2 hk2 HU HW H0
        go_wp2;go_ret;exact⟨by rw[HR.o];rfl,HB2.o⟩
     ·have i5:((wr.size:Int)==48)=false:=by simp;omega
      have j5:(wr.size:Int)≠48:=by omega
      have HR:Hid (uP ⟨u,s,r,ep,pb,n,wr,o⟩=false):=ι (by rw[HE.o];simp[h5]);clear h4 h5 HE;go_enter Tryz.func31,Tryz.ntmps31;go_wp2_with fail
      refine(HU.o _).mono ?_;rintro ex w1 ⟨rfl,rfl⟩;go_wp2_with fail
      refine(HW.o _).mono ?_;rintro ex w2 ⟨rfl,hb2⟩;have HB2:=ι (H0.o.1.trans (hb2.mono H0.o.1.size));have hk2:=xB H0.o.2 hb2 (xG H0.o.2);have c3:=xA hk2 3;have c4:=xA hk2 4;have c6:=xA hk2 6;have c7:=xA hk2 7;simp only[gA,gB,gC] at c3 c4 c6 c7;clear hb2 hk2 HU HW H0;go_wp2
      go_ret;exact⟨by rw[HR.o];rfl,HB2.o⟩
    ·have i4:((pb.size:Int)==32)=false:=by simp;omega
     have j4:(pb.size:Int)≠32:=by omega
     have HR:Hid (uP ⟨u,s,r,ep,pb,n,wr,o⟩=false):=ι (by rw[HE.o];simp[h4]);clear h4 HE;go_enter Tryz.func31,Tryz.ntmps31;go_wp2_with fail
     refine(HU.o _).mono ?_;rintro ex w1 ⟨rfl,rfl⟩;go_wp2_with fail
     refine(HW.o _).mono ?_;rintro ex w2 ⟨rfl,hb2⟩;have HB2:=ι (H0.o.1.trans (hb2.mono H0.o.1.size));have hk2:=xB H0.o.2 hb2 (xG H0.o.2);have c3:=xA hk2 3;have c4:=xA hk2 4;have c6:=xA hk2 6;have c7:=xA hk2 7;simp only[gA,gB,gC] at c3 c4 c6 c7;clear hb2 hk2 HU HW H0;go_wp2
     go_ret;exact⟨by rw[HR.o];rfl,HB2.o⟩
   ·have k0:(ep==0)=false:=by simp[he0]
    by_cases he1:ep=1
    ·have he:ep=0∨ep=1:=.inr he1;have k1:(ep==1)=true:=by simp[he1]
     clear he1
     by_cases h4:pb.size=32
     ·have i4:((pb.size:Int)==32)=true:=by simp;omega
      have j4:(pb.size:Int)=32:=by omega
      by_cases h5:wr.size=48
      ·have i5:((wr.size:Int)==48)=true:=by simp;omega
       have j5:(wr.size:Int)=48:=by omega
       by_cases h6:o.size=0
       ·have i6:(o.toList==[])=true:=by rw[ByteArray.toList_eq];simp;exact Array.eq_empty_of_size_eq_zero h6
        have HR:Hid (uP ⟨u,s,r,ep,pb,n,wr,o⟩=true):=ι (by rw[HE.o];simp[h4,h5,h6,he]);clear h4 h5 h6 HE;go_enter Tryz.func31,Tryz.ntmps31;go_wp2_with fail
        refine(HU.o _).mono ?_;rintro ex w1 ⟨rfl,rfl⟩;go_wp2_with fail
        refine(HW.o _).mono ?_;rintro ex w2 ⟨rfl,hb2⟩;have HB2:=ι (H0.o.1.trans (hb2.mono H0.o.1.size));have hk2:=xB H0.o.2 hb2 (xG H0.o.2);have c3:=xA hk2 3;have c4:=xA hk2 4;have c6:=xA hk2 6;have c7:=xA hk2 7;simp only[gA,gB,gC] at c3 c4 c6 c7;clear hb2 hk2 HU HW H0
        go_wp2;go_ret;exact⟨by rw[HR.o];rfl,HB2.o⟩
       ·have i6:(o.toList==[])=false:=by
         rw[ByteArray.toList_eq];cases hx:(o.data.toList==[]) with
         |false=>rfl
         |true=>
          simp only[beq_iff_eq] at hx;exact absurd (show o.data.size=0 by rw[<-Array.length_toList,hx];rfl) h6
        by_cases h7:o.size=48
        ·have i7:((o.size:Int)==48)=true:=by simp;omega
         have j7:(o.size:Int)=48:=by omega
         have HR:Hid (uP ⟨u,s,r,ep,pb,n,wr,o⟩=true):=ι (by rw[HE.o];simp[h4,h5,h7,he]);clear h4 h5 h6 h7 HE;go_enter Tryz.func31,Tryz.ntmps31;go_wp2_with fail
         refine(HU.o _).mono ?_;rintro ex w1 ⟨rfl,rfl⟩;go_wp2_with fail
         refine(HW.o _).mono ?_;rintro ex w2 ⟨rfl,hb2⟩;have HB2:=ι (H0.o.1.trans (hb2.mono H0.o.1.size));have hk2:=xB H0.o.2 hb2 (xG H0.o.2);have c3:=xA hk2 3;have c4:=xA hk2 4;have c6:=xA hk2 6;have c7:=xA hk2 7;simp only[gA,gB,gC] at c3 c4 c6 c7;clear hb2 hk2 HU HW H0
         go_wp2;go_ret;exact⟨by rw[HR.o];rfl,HB2.o⟩
        ·have i7:((o.size:Int)==48)=false:=by simp;omega
         have j7:(o.size:Int)≠48:=by omega
         have HR:Hid (uP ⟨u,s,r,ep,pb,n,wr,o⟩=false):=ι (by rw[HE.o];simp[h6,h7]);clear h4 h5 h6 h7 HE;go_enter Tryz.func31,Tryz.ntmps31;go_wp2_with fail
         refine(HU.o _).mono ?_;rintro ex w1 ⟨rfl,rfl⟩;go_wp2_with fail
         refine(HW.o _).mono ?_;rintro ex w2 ⟨rfl,hb2⟩;have HB2:=ι (H0.o.1.trans (hb2.mono H0.o.1.size));have hk2:=xB H0.o.2 hb2 (xG H0.o.2);have c3:=xA hk2 3;have c4:=xA hk2 4;have c6:=xA hk2 6;have c7:=xA hk2 7;simp only[gA,gB,gC] at c3 c4 c6 c7;clear hb2 hk2 HU HW H0
         go_wp2;go_ret;exact⟨by rw[HR.o];rfl,HB2.o⟩
      ·have i5:((wr.size:Int)==48)=false:=by simp;omega
       have j5:(wr.size:Int)≠48:=by omega
       have HR:Hid (uP ⟨u,s,r,ep,pb,n,wr,o⟩=false):=ι (by rw[HE.o];simp[h5]);clear h4 h5 HE;go_enter Tryz.func31,Tryz.ntmps31;go_wp2_with fail
       refine(HU.o _).mono ?_;rintro ex w1 ⟨rfl,rfl⟩;go_wp2_with fail
       refine(HW.o _).mono ?_;rintro ex w2 ⟨rfl,hb2⟩;have HB2:=ι (H0.o.1.trans (hb2.mono H0.o.1.size));have hk2:=xB H0.o.2 hb2 (xG H0.o.2);have c3:=xA hk2 3;have c4:=xA hk2 4;have c6:=xA hk2 6;have c7:=xA hk2 7;simp only[gA,gB,gC] at c3 c4 c6 c7;clear hb2 hk2 HU HW H0
       go_wp2;go_ret;exact⟨by rw[HR.o];rfl,HB2.o⟩
     ·have i4:((pb.size:Int)==32)=false:=by simp;omega
      have j4:(pb.size:Int)≠32:=by omega
      have HR:Hid (uP ⟨u,s,r,ep,pb,n,wr,o⟩=false):=ι (by rw[HE.o];simp[h4]);clear h4 HE;go_enter Tryz.func31,Tryz.ntmps31;go_wp2_with fail
      refine(HU.o _).mono ?_;rintro ex w1 ⟨rfl,rfl⟩;go_wp2_with fail
      refine(HW.o _).mono ?_;rintro ex w2 ⟨rfl,hb2⟩;have HB2:=ι (H0.o.1.trans (hb2.mono H0.o.1.size));have hk2:=xB H0.o.2 hb2 (xG H0.o.2);have c3:=xA hk2 3;have c4:=xA hk2 4;have c6:=xA hk2 6;have c7:=xA hk2 7;simp only[gA,gB,gC] at c3 c4 c6 c7;clear hb2 hk2 HU HW H0;go_wp2
      go_ret;exact⟨by rw[HR.o];rfl,HB2.o⟩
    ·have k1:(ep==1)=false:=by simp[he1]
     have HR:Hid (uP ⟨u,s,r,ep,pb,n,wr,o⟩=false):=ι (by rw[HE.o];simp[he0,he1]);clear HE;go_enter Tryz.func31,Tryz.ntmps31;go_wp2_with fail
     refine(HU.o _).mono ?_;rintro ex w1 ⟨rfl,rfl⟩;go_wp2_with fail
     refine(HW.o _).mono ?_;rintro ex w2 ⟨rfl,hb2⟩;have HB2:=ι (H0.o.1.trans (hb2.mono H0.o.1.size));have hk2:=xB H0.o.2 hb2 (xG H0.o.2);have c3:=xA hk2 3;have c4:=xA hk2 4;have c6:=xA hk2 6;have c7:=xA hk2 7;simp only[gA,gB,gC] at c3 c4 c6 c7;clear hb2 hk2 HU HW H0;go_wp2
     go_ret;exact⟨by rw[HR.o];rfl,HB2.o⟩
end Go.Proofs.SH
namespace Mailsack
def yH (r:ByteArray) (n:Nat):ByteArray:=r.extract n r.size
def uY (r:ByteArray) (n:Nat):ByteArray:=r.extract 0 n
theorem wV (r:ByteArray) (n:Nat):(yH r n).size=r.size-n:=by simp[yH,ByteArray.size_extract]
theorem jR (r:ByteArray) (n:Nat) (h:n<=r.size):(uY r n).size=n:=by simp[uY,ByteArray.size_extract];omega
def xN6 (s:ByteArray):Nat:=(yO s 0).toNat
def yFc (s:ByteArray):ByteArray:=yH (yH (yH s 1) (xN6 s)) 16
def xBm (s:ByteArray):tJ:=
 ⟨uY (yH s 1) (xN6 s),uY (yH (yH s 1) (xN6 s)) 16,yO (uY (yFc s) 1) 0,yO (uY (yH (yFc s) 1) 1) 0,uY (yH (yH (yFc s) 1) 1) 32,
  uY (yH (yH (yH (yFc s) 1) 1) 32) 12,uY (yH (yH (yH (yH (yFc s) 1) 1) 32) 12) 48,yH (yH (yH (yH (yH (yFc s) 1) 1) 32) 12) 48⟩
def xBr (s:ByteArray):Bool:=!decide (s.size=0)&&!decide (s.size<xN6 s+111)&&uP (xBm s)
def wS (xJ3:ByteArray):ByteArray:=bsA (xJy xJ3 ⟨#[]⟩ ⟨#[111,108,100]⟩ 32)
theorem xLf (p:ByteArray):(wS p).size=32:=by rw[wS,yS,xGe]
end Mailsack
namespace Go.Proofs.SH
open Go.RowKit Mailsack MM BB
theorem xRx {a:tJ} (h:uP a=true):1<=a.user.size/\a.user.size<=8/\a.yN.size=16/\1<=a.rounds/\a.rounds<=64/\0<=a.xAb/\a.xAb<=1/\a.pub.size=32/\a.xE.size=12/\a.wrapped.size=48/\(a.old.size=0∨a.old.size=48):=by
 unfold uP wR qV at h;simp only[Bool.and_eq_true,Bool.or_eq_true,decide_eq_true_eq] at h;obtain⟨⟨⟨⟨⟨⟨⟨h1,h2⟩,_⟩,⟨⟨h3,h4⟩,h5⟩,h6⟩,h7⟩,h8⟩,h9⟩,h10⟩:=h;exact⟨h1,h2,h3,h5,h6,ω,ω,h8,h4,h9,h10⟩
theorem xSf (p:ByteArray) (w:World) (hp:p.size<=1000000) (hT:wL w):
  Calls Tryz.prog 36 #[.string p] w λe w'=>e=.returned (.tuple #[.string (wS p),.int .i64 0])/\Below w.heap.size w w':=by
 have HD:Hid (Calls Tryz.prog 89 #[.string p,.string ⟨#[]⟩,.string ⟨#[111,108,100]⟩,.int .i64 32] w λe w'=>e=.returned (.tuple #[.string (wS p),.int .i64 0])/\Below w.heap.size w w'):=ι (xJx p ⟨#[]⟩ ⟨#[111,108,100]⟩ 32 w ω δ δ δ hT);generalize wS p=r at HD⊢;clear hT
 go_enter Tryz.func36,Tryz.ntmps36;go_wp2_with fail
 refine HD.o.mono ?_;rintro e w1 ⟨rfl,hb1⟩;have B1:=ι hb1;go_wp2;go_ret2;exact⟨rfl,B1.o⟩
theorem xA6 (g n:Nat) (r:ByteArray) (w:World) (h:w.heap[g]?=some (.cells #[.string r] 9 (0,0))) (hn:n<=r.size):
  Calls Tryz.prog 80 #[.int .i64 n,.pointer (some ⟨g,0,none⟩)] w λe w'=>e=.returned (.string (uY r n))/\w'=w.setCell ⟨g,0,none⟩ (.string (yH r n)):=by
 have c0:=xA h 0;have f0:=xC h 0;simp only[gA,gC] at c0;have hP:Hid (uY r n=r.extract 0 n):=ι rfl;have hA:Hid (yH r n=r.extract n r.size):=ι rfl;have hni:(n:Int)<=(r.size:Int):=by omega
 have hn0:¬((n:Int)<0):=by omega
 clear h;go_enter Tryz.func80,Tryz.ntmps80;go_wp2;go_ret;exact⟨by rw[hP.o];rfl,by rw[hA.o]⟩
end Go.Proofs.SH
namespace Mailsack
theorem yDg (n:Nat):Go.Lib.repeatL [(0:UInt8)] n=xQ n:=by
 unfold xQ
 induction n with
 |zero=>rfl
 |succ n ih=>rw[List.replicate_succ,<-ih];rfl
end Mailsack
namespace Go.Proofs.DS
open Go.RowKit Mailsack MM BB SH SV
theorem xP2 (n:Nat) (w:World) (h:n<=1000000):Calls Tryz.prog 203 #[.string ⟨#[0]⟩,.int .i64 n] w λe w'=>e=.returned (xO (xQ n))/\Below w.heap.size w w':=by
 have:=Tryz.strings_Repeat ⟨#[0]⟩ n w ω (by show 1*n<=_;omega);rw[show(⟨#[0]⟩:ByteArray).data.toList=[0] from rfl,yDg] at this;exact this
theorem xKj (n:Nat) (w:World) (h:n<=1000000):Calls Tryz.prog 355 #[.int .i64 n] w λe w'=>e=.returned (xO (xQ n))/\Below w.heap.size w w':=by
 have HZ:=ι (λW=>xP2 n W h);have h0:¬((n:Int)<0):=by omega
 clear h;go_enter Tryz.func355,Tryz.ntmps355;go_wp2_with fail
 refine(HZ.o _).mono ?_;rintro e w1 ⟨rfl,hb1⟩;have B1:=ι hb1;go_wp2;go_ret;exact⟨rfl,B1.o⟩
theorem xNt (s:ByteArray) (n:Nat) (w:World) (h:n<=1000000) (hs:s.size<=1000000):Calls Tryz.prog 320 #[.string s,.int .i64 n] w λe w'=>e=.returned (xO (xS5 s.data.toList n))/\Below w.heap.size w w':=by
 obtain⟨k,hk⟩:∃k:Nat,n-s.size=k:=⟨_,rfl⟩;have HZ:=ι (λW=>xP2 k W ω)
 have HE:Hid (xO (xS5 s.data.toList n)=.string (s++bsA (xQ k))):=ι (by
  unfold xS5;rw[show s.data.toList.length=s.size by simp,hk];show Value.string _=_
  congr 1)
 have hz:(bsA (xQ k)).size=k:=by rw[yS,zC]
 rw[show xO (xQ k)=.string (bsA (xQ k)) from rfl] at HZ;generalize bsA (xQ k)=z at HZ HE hz;have nb:¬(9223372036854775807<s.size+z.size):=by omega
 by_cases hl:s.size<=n
 ·have e1:(n:Int)- (s.size:Int)=(k:Int):=by omega
  have e4:max (k:Int) 0=(k:Int):=by omega
  have e5:k<=1000000:=by omega
  clear hk hl hz h hs;go_enter Tryz.func320,Tryz.ntmps320;go_wp2_with fail
  refine(HZ.o _).mono ?_;rintro e w1 ⟨rfl,hb1⟩;have B1:=ι hb1;clear hb1 HZ;go_wp2;go_ret;exact⟨by rw[HE.o];rfl,B1.o⟩
 ·obtain rfl:k=0:=by omega
  have e4:max ((n:Int)- (s.size:Int)) 0=0:=by omega
  clear hk hl hz h hs;go_enter Tryz.func320,Tryz.ntmps320;go_wp2_with fail
  refine(HZ.o _).mono ?_;rintro e w1 ⟨rfl,hb1⟩;have B1:=ι hb1;clear hb1 HZ;go_wp2;go_ret;exact⟨by rw[HE.o];rfl,B1.o⟩
theorem xCd (a:Int) (s:ByteArray) (w:World):Calls Tryz.prog 352 #[.int .i64 a,.string s] w λe w'=>e=.returned (.agg #[.bool false,.int .i64 a,.string s])/\Below w.heap.size w w':=by
 have hb:=xL w (.cells #[.bool false,.int .i64 a,.string s] 419);have HB:=ι ((Below.refl w.heap.size w).alloc ν (.cells #[.bool false,.int .i64 a,.string s] 419));obtain⟨f0,f1,f2⟩:=xH1 hb;clear hb;go_enter Tryz.func352,Tryz.ntmps352;go_wp2
 refine bodyPost_ret (v:=.agg #[.bool false,.int .i64 a,.string s]) (by simp[results,Tryz.results352,go_sem,f0,f1,f2]) rfl ?_;exact⟨rfl,HB.o⟩
theorem xR9 (w:World):Calls Tryz.prog 353 #[] w λe w'=>e=.returned (.agg #[.bool true,.int .i64 0,.string ⟨#[]⟩])/\Below w.heap.size w w':=by
 have hb:=xL w (.cells #[.bool true,.int .i64 0,.string ⟨#[]⟩] 419);have HB:=ι ((Below.refl w.heap.size w).alloc ν (.cells #[.bool true,.int .i64 0,.string ⟨#[]⟩] 419));obtain⟨f0,f1,f2⟩:=xH1 hb;clear hb;go_enter Tryz.func353,Tryz.ntmps353;go_wp2
 refine bodyPost_ret (v:=.agg #[.bool true,.int .i64 0,.string ⟨#[]⟩]) (by simp[results,Tryz.results353,go_sem,f0,f1,f2]) rfl ?_;exact⟨rfl,HB.o⟩
theorem destL (a:Int):((((xQ 64).set 0 (oct a)).set 1 (oct (a / 256))).set 2 (oct (a / 65536))).set 3 (oct (a / 16777216))=xGm a:=rfl
theorem yBj (a:Int) (w:World):Calls Tryz.prog 351 #[.int .i64 a] w λe w'=>e=.returned (xO (xGm a))/\Below w.heap.size w w':=by
 have hmk:(Instr.makeSlice 79 (.int .i64 64) (.int .i64 64)).run Tryz.prog w=.ok (.slice (some ⟨w.heap.size,0,none⟩) 64 64) (w.alloc (.cells (yJ (xQ 64)) 5)):=made w 64 64 ω ω;obtain⟨z,hz⟩:∃z,xQ 64=z:=⟨_,rfl⟩;have HD:=ι (destL a);have hzl:z.length=64:=by rw[<-hz];rfl
 rw[hz] at hmk HD;have HB0:Hid (jF (w.alloc (.cells (yJ z) 5)) w.heap.size z/\Below w.heap.size w (w.alloc (.cells (yJ z) 5))):=ι ⟨xL _ _,(Below.refl w.heap.size w).alloc ν _⟩;clear hz;go_enter Tryz.func351,Tryz.ntmps351;go_wp2_with fail
 clear hmk
 go_loopw [6] (λiv wr=>∃(k:Nat) (l:Bs),k<=4/\iv=.int .i64 k/\l.length=64/\Hid (jF wr w.heap.size l/\Below w.heap.size w wr)/\Hid ((k=0->l=z)/\(k=1->l=z.set 0 (oct a))/\(k=2->l=(z.set 0 (oct a)).set 1 (oct (a / 256)))/\(k=3->l=((z.set 0 (oct a)).set 1 (oct (a / 256))).set 2 (oct (a / 65536)))/\(k=4->l=xGm a))) (λiv _=>4- (intOf iv).toNat)
 case atStart=>exact⟨0,z,ω,rfl,hzl,HB0,ι ⟨λ_=>rfl,λh=>ω,λh=>ω,λh=>ω,λh=>ω⟩⟩
 case round=>
  obtain⟨k,l,hk,rfl,hll,HI,HL⟩:=hrel;clear HB0
  by_cases hlt:k<4
  ·have hp:=λz=>ι (And.intro (HI.o.1.put k z) (HI.o.2.setCell (p:=⟨w.heap.size,k,none⟩) ν (.int .u8 (z % 256))));have q:=HI.o.1.cell (i:=k) ω;have f:=HI.o.1.free k;generalize l.getD k 0=b0 at q;have HQ:=ι hp;clear hp HI;rcases(show k=0∨k=1∨k=2∨k=3 by omega) with rfl|rfl|rfl|rfl
   ·have HQL:=ι (HL.o.1 rfl);have hl2:(l.set 0 (oct (a))).length=64:=by simpa using hll
    have HQ2:=ι (HQ.o (a)).o;clear hk hlt HL HQ;go_wp2;exact⟨⟨1,_,ω,rfl,hl2,HQ2,ι ⟨λh=>ω,λ_=>(by rw[HQL.o]),λh=>ω,λh=>ω,λh=>ω⟩⟩,by simp[intOf]⟩
   ·have HQL:=ι (HL.o.2.1 rfl);have hl2:(l.set 1 (oct (a / 256))).length=64:=by simpa using hll
    have HQ2:=ι (HQ.o (a / 256)).o;clear hk hlt HL HQ;go_wp2;exact⟨⟨2,_,ω,rfl,hl2,HQ2,ι ⟨λh=>ω,λh=>ω,λ_=>(by rw[HQL.o]),λh=>ω,λh=>ω⟩⟩,by simp[intOf]⟩
   ·have HQL:=ι (HL.o.2.2.1 rfl);have hl2:(l.set 2 (oct (a / 65536))).length=64:=by simpa using hll
    have HQ2:=ι (HQ.o (a / 65536)).o;clear hk hlt HL HQ;go_wp2;exact⟨⟨3,_,ω,rfl,hl2,HQ2,ι ⟨λh=>ω,λh=>ω,λh=>ω,λ_=>(by rw[HQL.o]),λh=>ω⟩⟩,by simp[intOf]⟩
   ·have HQL:=ι (HL.o.2.2.2.1 rfl);have hl2:(l.set 3 (oct (a / 16777216))).length=64:=by simpa using hll
    have HQ2:=ι (HQ.o (a / 16777216)).o;clear hk hlt HL HQ;go_wp2;exact⟨⟨4,_,ω,rfl,hl2,HQ2,ι ⟨λh=>ω,λh=>ω,λh=>ω,λh=>ω,λ_=>(by rw[HQL.o];exact HD.o)⟩⟩,by simp[intOf]⟩
  ·obtain rfl:k=4:=by omega
   have hle:=HL.o.2.2.2.2 rfl;have ht:=xNa HI.o.1 64 64 ω;have HTK:Hid (l.take 64=l):=ι (by rw[<-hll,List.take_length]);rw[HTK.o] at ht;have HLE:=ι hle;clear hle HL hll HTK;go_wp2;go_ret;exact⟨by rw[<-HLE.o];rfl,HI.o.2⟩
theorem yBm (c d:Int) (hc:0<=c) (hc2:c<256) (hd:0<=d) (hd2:d<256) (g:Nat) (W:World) (hb:W.heap[g]?=some (.cells #[.int .u8 c,.int .u8 d] 5 (0,0))):(convert 79 9 (.slice (some ⟨g,0,none⟩) 2 2)).run Tryz.prog W=.ok (.string (bsA [oct c,oct d])) W:=by
 refine run_convert_bytes_back (P:=Tryz.prog) W _ _ 5 ⟨g,0,none⟩ 2 [oct c,oct d] Tryz.underlying79 Tryz.underlying5 Tryz.underlying9 (λj hj=>?_);have hj2:j=0∨j=1:=by simp at hj;omega
 have ha:(⟨g,0,none⟩:Addr).add j=⟨g,j,none⟩:=by unfold Addr.add;split<;>simp_all
 rw[ha,xA hb];rcases hj2 with rfl|rfl
 ·simp[xA5];omega
 ·simp[xA5];omega
theorem xSx (n:Nat) (all:ByteArray) (w:World) (hn:n<256) (ha:all.size<=1000000) (hT:wL w):Calls Tryz.prog 354 #[.int .i64 n,.string all] w λe w'=>e=.returned (xO (xSy n all.data.toList))/\Below w.heap.size w w':=by
 have HS:=ι (λW h=>xFq all W ω h);have HT:=ι (λW (h:Below w.heap.size w W)=>hT.below h ν)
 have HE:Hid (xO (xSy n all.data.toList)=.string (bsA [oct 74,oct n]++bsA (xH7 all)++bsA (xQ 30))):=ι (by
  unfold xSy;rw[show bsA all.data.toList=all by cases all;simp[bsA]];show Value.string _=Value.string _
  congr 1)
 have hz:=xB8 all;have hb:(bsA (xH7 all)).size=32:=by rw[yS,hz]
 rw[show xO (xH7 all)=.string (bsA (xH7 all)) from rfl] at HS;generalize bsA (xH7 all)=sh at HS HE hb;have HZ:=ι (λW (x:Int) (hx:x=((30:Nat):Int))=>(show Calls Tryz.prog 355 #[.int .i64 x] W (λe w'=>e=.returned (xO (xQ 30))/\Below W.heap.size W w') by rw[hx];exact xKj 30 W ω))
 rw[show xO (xQ 30)=.string (bsA (xQ 30)) from rfl] at HZ;have hb3:(bsA (xQ 30)).size=30:=by rw[yS,zC]
 generalize bsA (xQ 30)=zb at HZ HE hb3;have HCV:=ι (yBm 74 (n:Int) ω ω ω ω);have hb2:(bsA [oct 74,oct (n:Int)]).size=2:=by rw[yS];rfl
 generalize bsA [oct 74,oct (n:Int)]=h2 at HE HCV hb2;have nb1:¬(9223372036854775807<h2.size+sh.size):=by omega
 have nb2:¬(9223372036854775807<(h2++sh).size+zb.size):=by rw[ByteArray.size_append];omega
 have hnn:(n:Int) % 256=n:=by omega
 have HSZ:=ι (And.intro hb2 hb);clear hz hb hb3 hb2 ha;go_enter Tryz.func354,Tryz.ntmps354;go_upto_region 1 with fail
 refine RG.uB [] [2] (λL α W=>Hid (Below w.heap.size w W/\(L 2=true->∃g,α 2=.slice (some ⟨g,0,none⟩) 2 2/\W.heap[g]?=some (.cells #[.int .u8 74,.int .u8 (n:Int)] 5 (0,0))))) (λL L' α α' W hl ha h=>ι ⟨h.o.1,λh2=>by rw[<-ha 2 σ (by rw[hl 2 σ];exact h2)];exact h.o.2 (by rw[hl 2 σ];exact h2)⟩) κ κ κ (ι ⟨(Below.refl w.heap.size w).drew,λh=>by cases h⟩) ?_
 iterate 2 refine RG.vS ?_
 apply RG.jC
 ·rfl
 ·intro α L w9 h0 hcl xN hw9;refine⟨.slice (some ⟨w9.heap.size,0,none⟩) 2 2,λbv hbv=>?_⟩;repeat go_step
  rw[<-hbv];with_reducible refine RG.xD ?_
  exact ι ⟨hw9.o.1.alloc hw9.o.1.size _,λ_=>⟨w9.heap.size,by rw[RG.zF];exact hbv,xL _ _⟩⟩
 ·intro b α;rfl
 apply RG.uA
 ·rfl
 ·rfl
 ·intro α L w9 h0 hcl xN hw9
  have e2:L 2=true:=by
   have:=xN.yes 8 (i:=3) (j:=2) σ κ;simpa using this
  obtain⟨g,hg,hb⟩:=hw9.o.2 e2;have hcv:=HCV.o g w9 hb;rw[show α (0+1+1)=_ from hg];clear e2 hb;repeat go_step
  rw[<-show α (0+1+1)=_ from hg];with_reducible exact RG.xD hw9
 ·intro α;rfl
 refine RG.vS ?_;apply RG.uA
 ·rfl
 ·rfl
 ·intro α L w9 h0 hcl xN hw9;repeat go_step
  refine(HS.o _ (HT.o _ hw9.o.1)).mono ?_;rintro e w10 ⟨rfl,zM⟩;simp only[];repeat go_step
  with_reducible refine RG.xD ?_
  refine ι ⟨hw9.o.1.trans (zM.mono hw9.o.1.size),λe2=>?_⟩;obtain⟨g,hg,hb⟩:=hw9.o.2 e2;exact⟨g,hg,xB hb zM (xG hb)⟩
 ·intro α;rfl
 iterate 2 refine RG.vS ?_
 refine RG.pE (λα w3 hw3=>?_);have B3:=ι hw3.o.1;clear hw3 HS HT HCV;go_wp2_with fail
 refine(HZ.o _ _ (by have:=HSZ.o;omega)).mono ?_;rintro e w4 ⟨rfl,hb4⟩;have B4:=ι (B3.o.trans (hb4.mono B3.o.size));clear hb4 B3 HZ;go_wp2;go_ret;exact⟨by rw[HE.o];rfl,B4.o⟩
end Go.Proofs.DS
namespace Go.Proofs.RK
open Go.RowKit MM
theorem xFz {P:Program} {w:World} (base:Nat) (t ty e:TypeId) (i:TypeInfo) (size:Nat) (ht:P.underlying t=some (.slice e)) (hi:P.info? e=some i)
  (v:Value) (n:Nat) (xs:List Value) (hown:w.ownsRow base e size v n xs) (A:Option Addr) (c:Nat):
  (Builtin.append_ #[t,t] ty #[v,.slice A 0 c]).run P w=.ok v w:=by
 rcases hown.2 with ⟨rfl,rfl⟩|⟨g,cap,cur,rfl,_,_,hnc,_⟩
 ·cases A<;>simp[Builtin.append_,run_underlying ht,sizeOf,typeInfo,hi,Builtin.lenOf,Builtin.firstCells,loadCells,loadCellsFrom]
 ·cases A<;>simp[Builtin.append_,run_underlying ht,sizeOf,typeInfo,hi,Builtin.lenOf,Builtin.firstCells,hnc,storeCells,loadCells,loadCellsFrom]
structure xYp {α:Type} (P:Program) (t e:TypeId) (k bytes:Nat) (f:α->List Value):Prop where
 und:P.underlying t=some (.slice e)
 info:∃i z,P.info? e=some i/\i.zero=some z/\i.size=k/\i.bytes=bytes/\z.cells.size=k
 pos:0<k
 bpos:0<bytes
 len:∀x,(f x).length=k
 one:∀x,∀u∈f x,u.oneCell'=true
structure qP {α:Type} (e:TypeId) (k:Nat) (f:α->List Value) (w w':World) (base:Nat) (v v':Value) (l:List α):Prop where
 own:xV e k f w' base v' l
 grown:w.grownBy w' v.ownBlock
 at_:v'.ownBlock=v.ownBlock∨v'.ownBlock=some w.heap.size
section
variable {P:Program} {w w' w0:World} {α:Type} {t e:TypeId} {k bytes:Nat} {f:α->List Value} {base:Nat} {v v' vx:Value} {l m:List α}
theorem xV.far (h:xV e k f w base v l) {p:Nat} (hp:p<base):v.ownBlock≠some p:=by
 rcases h.2 with ⟨rfl,_⟩|⟨g,cap,cur,rfl,hb,_⟩
 ·intro e;cases e
 ·intro e;have:g=p:=by simpa[Value.ownBlock] using e
  omega
theorem qP.keep (h:qP e k f w w' base v v' l) {p:Nat} {o:Obj} (hp:w.heap[p]?=some o) (hne:v.ownBlock≠some p):w'.heap[p]?=some o:=wG hp h.grown (λe=>hne e.symm)
theorem qP.bel (h:qP e k f w w' base v v' l) {l0:List α} (ho:xV e k f w base v l0) {B:Nat} (hB:B<=base) (hb:Below B w0 w) (hs:B<=w.heap.size):Below B w0 w':=
 hb.grown h.grown hs (λg hg=>by have:=World.ownsRow.lt ho.row g hg;omega)
theorem xCq (ht:xYp P t e k bytes f) (ty:TypeId) (hown:xV e k f w base v l) {B:Nat} (hrd:RdR k f w B vx m) (hbytes:(l.length+m.length)*bytes<=140737488355328) (hbase:base<=w.heap.size):
  ∃v' w',(Builtin.append_ #[t,t] ty #[v,vx]).run P w=.ok v' w'/\qP e k f w w' base v v' (l++m):=by
 obtain⟨i,z,hi,hz,hs,hby,hzs⟩:=ht.info;have hrd':=hrd;obtain⟨A,c,rfl,hc,h3⟩:=hrd
 by_cases h0:m.length=0
 ·have:m=[]:=List.eq_nil_of_length_eq_zero h0;subst this;refine⟨v,w,xFz base t ty e i k ht.und hi v _ _ hown.row A c,?_,World.grownBy.refl _ _,.inl rfl⟩;rw[List.append_nil];exact hown
 ·obtain⟨ad,rfl,_,hsrc⟩:=hrd'.src ht.len ω
  have hlen:l.length+m.length<=maxLen:=by
   have:=Nat.le_mul_of_pos_right (l.length+m.length) ht.bpos;unfold maxLen;omega
  have h1:∀u∈m.flatMap f,u.oneCell'=true:=λu hu=>by
   obtain⟨x,_,hx⟩:=List.mem_flatMap.1 hu;exact ht.one x u hx
  obtain⟨g,cap,w',h2,h4,h5,h6,h7⟩:=run_append_lies (P:=P) (w:=w) t ty base e i z k bytes ht.und hi hz hs hby hzs ht.pos v l.length _ hown.row ad m.length c _ (xFd ht.len m) hsrc h1 ω hlen hbytes hbase w.heap.size rfl;refine⟨_,w',h2,xV.of h4,h5,?_⟩;rcases h6 with h6|h6
  ·exact .inl h6.symm
  ·exact .inr (by subst h6;rfl)
theorem zY {ops:Array Oper} {rest:List Oper} {o:Oper} {a:Act} {Q:Exit->Act->World->Prop} (ht:xYp P t e k bytes f) (hgd:o.guard=none) (s x:Operand)
  (ho:o.op=.call {callee:=.builtin .append,args:=#[s,x],argTypes:=#[t,t]}) (hs:a.eval s=v) (hx:a.eval x=vx)
  (hown:xV e k f w base v l) {B:Nat} (hrd:RdR k f w B vx m) (hbytes:(l.length+m.length)*bytes<=140737488355328) (hbase:base<=w.heap.size)
  (h:∀v' w',qP e k f w w' base v v' (l++m)->wpList P ops Q rest (a.put o.dst v') w'):wpList P ops Q (o::rest) a w:=by
 obtain⟨v',w',hr,ha⟩:=xCq (P:=P) ht o.type hown hrd hbytes hbase;refine wpList_plain hgd λK hK=>?_;unfold Oper.wp;simp[execOp,ho,resolve,invoke,builtin,hs,hx,hr,Result.andThen];exact hK _ _ (h _ _ ha)
theorem RdR.lit (hk:∀x,(f x).length=k) (W:World) (cs:Array Value) (hcs:cs.toList=m.flatMap f):RdR k f (W.alloc (.cells cs e)) (W.heap.size+1) (.slice (some ⟨W.heap.size,0,none⟩) m.length m.length) m:=by
 refine⟨_,_,rfl,Nat.le_refl _,λ_=>⟨W.heap.size,0,rfl,ω,λj x hx i u hu=>?_⟩⟩;rw[Nat.zero_add,xA (xL W _)];have:=flat_get hk m j i x u hx hu;rw[<-hcs] at this;simpa using this
theorem madeR (ht:xYp P t e k bytes f) (W:World) (c:Nat) (hm:c*bytes<=140737488355328):∃z:Array Value,z.size=c*k/\(Instr.makeSlice t (.int .i64 0) (.int .i64 (c:Int))).run P W=.ok (.slice (some ⟨W.heap.size,0,none⟩) 0 c) (W.alloc (.cells z e)):=by
 obtain⟨i,z,hi,hz,hs,hby,hzs⟩:=ht.info;have hc:=Nat.le_mul_of_pos_right c ht.bpos;have h:=run_make (P:=P) (w:=W) t e i z ht.und hi hz .i64 .i64 0 (c:Int) ω ω (by rw[hby,show(bytes:Int)*(c:Int)=((c*bytes:Nat):Int) by rw[Nat.mul_comm];exact(Int.natCast_mul _ _).symm];omega) ω
 simp only[Int.toNat_natCast,Int.toNat_zero] at h;refine⟨_,?_,h⟩;rw[size_madeCells,hs]
end
end Go.Proofs.RK
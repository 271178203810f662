/- Contracts of functions. Conditions: as stated. -/
import Derived.Test.YtacahegificeoaaGreatDoorImapLoginsProofB03
import Derived.WalkLawsBesides
import Derived.WalkSpells
set_option maxHeartbeats 8000000
set_option maxRecDepth 100000
namespace Go.Proofs.IM
open Go.RowKit MM BU
abbrev slf (b:Nat):Value:=.pointer (some ⟨b,20,none⟩)
theorem liesC:liesAt Tryz.prog Tryz.prog.depth 83 (22 / Tryz.prog.cellsOf 83) 20 81 1=true:=by kernel_rfl
structure Cmd (b:Nat) (cs:Array Value) (l:List UInt8) (w:World):Prop where
 blk:w.heap[b]?=some (.cells cs 83 (0,0))
 size:cs.size=22
 own:∃p v,cs[20]?=some p/\cs[21]?=some v/\(p=.pointer none∨p=slf b)/\w.ownsRow b 5 1 v l.length (Lib.byteCells l)/\v.ownBlock≠some b/\(l=[]->v=.slice none 0 0)
theorem xGn (b:Nat) (w:World) (h0:w.cell? ⟨b,20,none⟩=some (slf b)):
  Calls Tryz.prog 233 #[slf b] w λe w'=>e=.returned (.tuple #[])/\w'=w:=by
 obtain⟨j,hj,_⟩:=Option.map_eq_some_iff.1 vV;go_enter Tryz.func233,Tryz.ntmps233;go_wp2;rw[Lib.run_neq_ptr_same w _ Tryz.underlying78 hj];go_wp2
 go_end0
 exact⟨rfl,rfl⟩
theorem xEx (b:Nat) (w:World) (h0:w.cell? ⟨b,20,none⟩=some (.pointer none)) (hsh:w.shape? b=some (83,22)) (hfz:w.frozen? ⟨b,20,none⟩=false):
  Calls Tryz.prog 233 #[slf b] w λe w'=>e=.returned (.tuple #[])/\w'=w.setCell ⟨b,20,none⟩ (slf b):=by
 obtain⟨j,hj,hjs⟩:=Option.map_eq_some_iff.1 vV;go_enter Tryz.func233,Tryz.ntmps233;go_wp2;rw[Lib.run_to_unsafe w ⟨b,20,none⟩ Tryz.underlying78 Tryz.underlying385 hj (by rw[hjs];decide) hsh (show 20<22 by decide)];simp only[Result.andThen];rw[Oper.upon_value];go_wp2
 rw[run_callFunc_extern Tryz.func321 κ κ κ (e:=Extern.AbiNoEscape.same) κ];rw[Lib.run_noEscape];simp only[Result.andThen];rw[Oper.upon_value];go_wp2;rw[Lib.run_from_unsafe w ⟨b,20,none⟩ Tryz.underlying385 Tryz.underlying78 hj hsh liesC];simp only[Result.andThen]
 rw[Oper.upon_value];go_wp2
 go_end0
 exact⟨rfl,rfl⟩
theorem xCb {cs:Array Value} {i:Nat} (h:cs.size=22) (hi:i<22) (u:Value) (j:Nat):(cs.setIfInBounds i u)[j]?=if i=j then some u else cs[j]?:=by
 rw[Array.getElem?_setIfInBounds]
 by_cases e:i=j
 ·rw[if_pos e,if_pos e,if_pos ω]
 ·rw[if_neg e,if_neg e]
theorem xHf (b:Nat) (cs:Array Value) (l:List UInt8) (w:World) (h:Cmd b cs l w):
  Calls Tryz.prog 233 #[slf b] w λe w'=>e=.returned (.tuple #[])/\Cmd b (cs.setIfInBounds 20 (slf b)) l w'/\(cs.setIfInBounds 20 (slf b))[20]?=some (slf b)/\Below b w w':=by
 obtain⟨p,v,hp,hv,hor,hown,hne,hnil⟩:=h.own;have h20:(cs.setIfInBounds 20 (slf b))[20]?=some (slf b):=by rw[xCb h.size δ,if_pos rfl]
 have h21:(cs.setIfInBounds 20 (slf b))[21]?=some v:=by rw[xCb h.size δ,if_neg δ];exact hv
 rcases hor with rfl|rfl
 ·have hsh:w.shape? b=some (83,22):=by simp[World.shape?,h.blk,h.size]
  refine(xEx b w ((xA h.blk 20).trans hp) hsh (xC h.blk 20)).mono ?_;rintro e w' ⟨rfl,rfl⟩;refine⟨rfl,⟨xY h.blk 20 (slf b),by simp[h.size],slf b,v,h20,h21,.inr rfl,?_,hne,hnil⟩,h20,(Below.refl b w).setCell (p:=⟨b,20,none⟩) ν _⟩;refine⟨hown.1,?_⟩
  rcases hown.2 with hn|⟨g,cap,cur,h1,h2,h3,h4⟩
  ·exact .inl hn
  ·exact .inr ⟨g,cap,cur,h1,h2,yA h3 (λe=>hne (by rw[h1];exact congrArg some e)) _,h4⟩
 ·refine(xGn b w ((xA h.blk 20).trans hp)).mono ?_;rintro e w' ⟨rfl,rfl⟩
  have hcs:cs.setIfInBounds 20 (slf b)=cs:=by
   apply Array.ext_getElem?;intro j;rw[xCb h.size δ]
   by_cases e:20=j
   ·rw[if_pos e,<-e];exact hp.symm
   ·rw[if_neg e]
  rw[hcs];exact⟨rfl,h,hp,Below.refl b _⟩
theorem xEt (b:Nat) (cs:Array Value) (l:List UInt8) (s:ByteArray) (w:World) (h:Cmd b cs l w) (hl:l.length+s.size<=1000000000) (hs:0<s.size):
  Calls Tryz.prog 159 #[slf b,.string s] w λe w'=>e=.returned (.tuple #[.int .i64 s.size,.nilIface])/\∃v,Cmd b ((cs.setIfInBounds 20 (slf b)).setIfInBounds 21 v) (l++s.data.toList) w'/\Below b w w':=by
 obtain⟨i0,hi,hz0,hz1,hz2⟩:=info_parts xLz;have Hl:=ι (xGr l);go_enter Tryz.func159,Tryz.ntmps159;go_wp2_with fail
 refine(xHf b cs l _ h).mono ?_;rintro e w1 ⟨rfl,⟨hbk,hsz,p,v,hp,hv,hor,hown,hne,hnil⟩,h20,hb1⟩;have yCq:=ι hown;have Hne:=ι hne;have Hbk:=ι hbk;have k1:w1.cell? ⟨b,21,none⟩=some v:=(xA hbk 21).trans hv;have hlt:=xG hbk;have HB1:=ι hb1;have hz:=hb1.size;have Hsz:=ι hsz
 have H20:=ι h20;clear hown hne hbk hb1 hp hv hor hnil hsz h20;go_wp2_with (at_builtin;refine Lib.wpList_append_own_string _ rfl _ _ 79 9 rfl b 5 i0 Tryz.underlying79 Tryz.underlying9 hi hz0 hz1 hz2 _ _ _ rfl yCq.o s rfl ?c3 ?c4 ?c5 ?_)
 case c3=>have:=Hl.o;unfold maxLen;omega
 case c4=>have:=Hl.o;omega
 case c5=>omega
 intro v' w2 hown' hgrow _;have pk:=ι (wG Hbk.o hgrow (λe=>Hne.o e.symm));have k2:w2.cell? ⟨b,21,none⟩=some v:=(xA pk.o 21).trans ((xA Hbk.o 21).symm.trans k1);have y2:w2.frozen? ⟨b,21,none⟩=false:=xC pk.o 21
 obtain⟨ao,n',cap,rfl,hob⟩:∃ao n' cap,v'=.slice ao n' cap/\v'.ownBlock≠some b:=by
  rcases hown'.2 with ⟨hv,_⟩|⟨g,cap,cur,hv,hg1,hg2,_⟩
  ·exact⟨_,_,_,hv,by rw[hv];simp[Value.ownBlock]⟩
  ·refine⟨_,_,_,hv,?_⟩;rw[hv];intro e;have e':g=b:=by simpa[Value.ownBlock] using e
   subst e';have:=pk.o.symm.trans hg2;injection this with this;injection this with h1 h2;exact absurd h2 δ
 have xP0:=ι hown';have xMr:=ι hgrow;have Hob:=ι hob;clear hown' hgrow hob;go_wp2;go_ret2;refine⟨rfl,_,⟨xY pk.o 21 _,by simpa using Hsz.o,slf b,_,?_,?_,.inr rfl,?_,Hob.o,?_⟩,?_⟩
 ·rw[xCb Hsz.o δ,if_neg δ];exact H20.o
 ·rw[xCb Hsz.o δ,if_pos rfl]
 ·have hss:s.data.toList.length=s.size:=Array.length_toList
  have h4:w2.ownsRow b 5 1 (.slice ao n' cap) (l++s.data.toList).length (Lib.byteCells (l++s.data.toList)):=by
   rw[xEp,List.length_append,hss];exact xP0.o
  refine⟨h4.1,?_⟩;rcases h4.2 with hn|⟨g,cap,cur,h1,h2,h3,h5⟩
  ·exact .inl hn
  ·exact .inr ⟨g,cap,cur,h1,h2,yA h3 (λe=>Hob.o (by rw[h1];exact congrArg some e)) _,h5⟩
 ·intro e;have:=congrArg List.length e;rw[List.length_append] at this;have hss:s.data.toList.length=s.size:=Array.length_toList;have h0:l.length+s.data.toList.length=0:=this;omega
 ·refine Below.setCell ?_ (p:=⟨b,21,none⟩) ν _;exact HB1.o.grown xMr.o ω (λk hk=>(World.ownsRow.lt yCq.o k hk).1)
theorem xCf (W:World) (q:Option Addr):(Builtin.unsafeString_ #[128,3] 9 #[.pointer q,.int .i64 0]).run Tryz.prog W=.ok (.string .empty) W:=
 Lib.run_unsafeString_none W _ _ _ q
theorem xNd (b:Nat) (w:World) (h1:w.cell? ⟨b,21,none⟩=some (.slice none 0 0)):
  Calls Tryz.prog 27 #[slf b] w λe w'=>e=.returned (.string ⟨#[]⟩)/\w'=w.drew:=by
 have hUS:=xCf;have c1:w.drew.cell? ⟨b,21,none⟩=some (.slice none 0 0):=h1;have hSD:(Builtin.unsafeSliceData_ #[79] 128 #[.slice none 0 0]).run Tryz.prog w.drew=.ok (.pointer none) w.drew:=rfl;go_enter Tryz.func27,Tryz.ntmps27;go_wp2
 go_region
 all_goals (go_wp2;go_ret;exact⟨rfl,rfl⟩)
theorem xNc (b g cap:Nat) (cur:Array Value) (l:List UInt8) (w:World) (h1:w.cell? ⟨b,21,none⟩=some (.slice (some ⟨g,0,none⟩) l.length cap)) (h0:l≠[])
  (hg:w.heap[g]?=some (.cells cur 5 (0,0))) (hnc:l.length<=cap) (hcm:cap<=maxLen) (hcs:cur.size=cap*1) (htake:cur.toList.take (l.length*1)=Lib.byteCells l):
  Calls Tryz.prog 27 #[slf b] w λe w'=>e=.returned (.string ⟨l.toArray⟩)/\w'=w.drew.freeze ⟨g,0,none⟩ l.length:=by
 have hl0:l.length≠0:=by simpa using h0
 have c1:w.drew.cell? ⟨b,21,none⟩=some (.slice (some ⟨g,0,none⟩) l.length cap):=h1
 have hSD:(Builtin.unsafeSliceData_ #[79] 128 #[.slice (some ⟨g,0,none⟩) l.length cap]).run Tryz.prog w.drew=.ok (.pointer (some ⟨g,0,none⟩)) w.drew:=
  Lib.run_unsafeSliceData_row _ _ _ _ _ _ ω
 have hUS:(Builtin.unsafeString_ #[128,3] 9 #[.pointer (some ⟨g,0,none⟩),.int .i64 l.length]).run Tryz.prog w.drew=.ok (.string ⟨l.toArray⟩) (w.drew.freeze ⟨g,0,none⟩ l.length):=by
  refine Lib.run_unsafeString_row w.drew 128 3 9 5 Tryz.underlying128 κ g cur.size (by have hg':w.drew.heap[g]?=some (.cells cur 5 (0,0)):=hg;simp[World.shape?,hg']) l h0 ω (by unfold maxLen at hcm;omega) ?_;intro j x hx;have hg':w.drew.heap[g]?=some (.cells cur 5 (0,0)):=hg
  have hadd:(⟨g,0,none⟩:Addr).add j=⟨g,j,none⟩:=by unfold Addr.add;split<;>simp_all
  first|rw[hadd]|skip
  rw[xA hg' j];have hj:j<l.length:=(List.getElem?_eq_some_iff.1 hx).1;have h3:(cur.toList.take (l.length*1))[j]?=some (.int .u8 x.toNat):=by rw[htake];simp[Lib.byteCells,hx]
  rw[List.getElem?_take] at h3;rw[if_pos ω] at h3;simpa using h3
 go_enter Tryz.func27,Tryz.ntmps27;go_wp2
 go_region
 all_goals (go_wp2;go_ret;exact⟨rfl,rfl⟩)
theorem xSz {w:World} {g b:Nat} (h:g≠b) (n:Nat):(w.freeze ⟨g,0,none⟩ n).heap[b]?=w.heap[b]?:=by
 unfold World.freeze;split
 ·rfl
 ·simp only[Array.getElem?_modify];rw[if_neg h]
end Go.Proofs.IM
namespace Mailsack
abbrev Bs:=List UInt8
theorem yF0 (s:ByteArray) (a b:Nat):s.extract a b=⟨((s.data.toList.drop a).take (b-a)).toArray⟩:=by
 have h:=Go.Lib.extract_data s a b;generalize s.extract a b=r at h;obtain⟨⟨x⟩⟩:=r;simp at h;subst h
 rfl
theorem xJt (s:ByteArray) (a:Nat):s.extract a s.size=⟨(s.data.toList.drop a).toArray⟩:=by
 rw[yF0,List.take_of_length_le (by rw[List.length_drop,Array.length_toList];exact Nat.le_refl _)]
theorem vN (s:ByteArray):s.data.toList.length=s.size:=by rw[Array.length_toList];rfl
theorem qK {x:UInt8} {n:Nat} (hn:n<256):((x.toNat:Int)=(n:Int))↔x=UInt8.ofNat n:=by
 constructor
 ·intro h;have:x.toNat=n:=by omega
  subst this;simp
 ·rintro rfl;simp[UInt8.toNat_ofNat_of_lt' (show n<UInt8.size from hn)]
def up (c:UInt8):UInt8:=if 97<=c.toNat/\c.toNat<=122 then UInt8.ofNat (c.toNat-32) else c
def upP (l:Bs):Bs:=l.map up
theorem xZd {c:UInt8} (h1:97<=c.toNat) (h2:c.toNat<=122):(up c).toNat=c.toNat-32:=by
 unfold up;rw[if_pos ⟨h1,h2⟩,UInt8.toNat_ofNat_of_lt' (show c.toNat-32<UInt8.size by have:UInt8.size=256:=rfl;omega)]
theorem xZe {c:UInt8} (h:¬(97<=c.toNat/\c.toNat<=122)):up c=c:=by unfold up;rw[if_neg h]
theorem xDj (l:Bs):(upP l).length=l.length:=by simp[upP]
def upTo (l:Bs) (k j:Nat):UInt8:=if j<k then up (l.getD j 0) else l.getD j 0
theorem xUq (l:Bs) (j:Nat) (h:j<l.length):(upP l)[j]'(by rw[xDj];exact h)=upTo l l.length j:=by
 simp[upTo,upP,h,List.getD_eq_getElem?_getD]
theorem xKp {l:Bs} {k j:Nat} (h:j≠k):upTo l (k+1) j=upTo l k j:=by
 unfold upTo
 by_cases h1:j<k
 ·rw[if_pos ω,if_pos h1]
 ·rw[if_neg ω,if_neg h1]
theorem xUr (l:Bs) (k:Nat):upTo l (k+1) k=up (l.getD k 0):=by unfold upTo;rw[if_pos ω]
theorem xP6 (l:Bs) (k:Nat):upTo l k k=l.getD k 0:=by unfold upTo;rw[if_neg ω]
theorem xUp {l:Bs} {k:Nat} (h:¬(97<=(l.getD k 0).toNat/\(l.getD k 0).toNat<=122)) (j:Nat):upTo l (k+1) j=upTo l k j:=by
 by_cases e:j=k
 ·subst e;rw[xUr,xP6,xZe h]
 ·exact xKp e
def xBu (c:UInt8):Bool:=decide (32<=c.toNat)&&decide (c.toNat<=126)
def uQ (l:Bs):Bool:=l.all xBu
def uV (c:UInt8):Bool:=c==32||c==40||c==41||c==34
def isWord (l:Bs):Bool:=decide (0<l.length)&&l.all (λc=>!uV c)
theorem xEy (c:UInt8):List.contains [32,40,41,34] c=uV c:=by
 unfold uV;show List.elem c [32,40,41,34]=_;simp only[List.elem];cases c==32<;>cases c==40<;>cases c==41<;>cases c==34<;>rfl
def jP (l:Bs):Nat:=(l.takeWhile (λc=>!uV c)).length
theorem xDi (l:Bs):jP l<=l.length:=(List.takeWhile_sublist _).length_le
theorem xCz:∀l:Bs,Go.Lib.indexAny l [32,40,41,34]=if jP l=l.length then -1 else(jP l:Int)
 |[]=>rfl
 |b::l=>by
  unfold Go.Lib.indexAny jP;rw[xEy,List.takeWhile_cons];have ih:=xCz l;unfold jP at ih;have hle:=xDi l;unfold jP at hle;cases hb:uV b
  ·simp only[Bool.false_eq_true,if_false,Bool.not_false,if_true,List.length_cons];rw[ih]
   by_cases h:(l.takeWhile λc=>!uV c).length=l.length
   ·simp[h]
   ·have h2:¬(((l.takeWhile λc=>!uV c).length:Int)==-1)=true:=by simp
    have h3:¬(l.takeWhile λc=>!uV c).length+1=l.length+1:=by omega
    rw[if_neg h,if_neg h2,if_neg h3]
    rfl
  ·simp
end Mailsack
namespace Go.Proofs.IM
open Go.RowKit MM BU Mailsack
abbrev xY0 (b:Nat):Value:=.pointer (some ⟨b,0,none⟩)
theorem xP9 (b:Nat) (cs:Array Value) (l:List UInt8) (s:ByteArray) (w:World) (h:Cmd b cs l w) (hl:l.length+s.size<=100000000):
  Calls Tryz.prog 108 #[xY0 b,.string s] w λe w'=>e=.returned (.tuple #[])/\∃v,Cmd b ((cs.setIfInBounds 20 (slf b)).setIfInBounds 21 v) (l++([42,32]++s.data.toList++[13,10])) w'/\Below b w w':=by
 have H:=ι h;have big1:¬9223372036854775807<2+s.size:=by omega
 have big2:¬9223372036854775807<2+s.size+2:=by omega
 clear h;go_enter Tryz.func108,Tryz.ntmps108;go_wp2_with fail
 have hsz:((⟨#[42,32]⟩:ByteArray)++s++⟨#[13,10]⟩).size=s.size+4:=by
  rw[ByteArray.size_append,ByteArray.size_append];show 2+s.size+2=s.size+4;omega
 have hdt:((⟨#[42,32]⟩:ByteArray)++s++⟨#[13,10]⟩).data.toList=[42,32]++s.data.toList++[13,10]:=by simp
 refine(xEt b cs l _ _ H.o (by rw[hsz];omega) (by rw[hsz];omega)).mono ?_;rw[hdt];rintro e w' ⟨rfl,v,hc,hb⟩;have HC:=ι hc;have HB:=ι hb;clear hc hb hsz hdt;go_wp2
 go_end0
 exact⟨rfl,v,HC.o,HB.o⟩
theorem xI4 (b:Nat) (w:World):
  Calls Tryz.prog 26 #[xY0 b,.int .i64 0] w λe w'=>e=.returned (.bool true)/\w'=w:=by
 go_enter Tryz.func26,Tryz.ntmps26;go_wp2;go_ret;exact⟨rfl,rfl⟩
theorem xWd (b:Nat) (w:World) (h:w.cell? ⟨b,2,none⟩=some (xO [])):
  Calls Tryz.prog 26 #[xY0 b,.int .i64 3] w λe w'=>e=.returned (.bool false)/\w'=w:=by
 go_enter Tryz.func26,Tryz.ntmps26;go_wp2;go_ret;exact⟨rfl,rfl⟩
def wCap:List UInt8:=[67,65,80,65,66,73,76,73,84,89,32,73,77,65,80,52,114,101,118,49]
theorem xHi (b:Nat) (cs:Array Value) (A:Option Addr) (c:Nat) (w:World) (h:Cmd b cs [] w) (ha:cs[18]?=some (.slice A 0 c)):
  Calls Tryz.prog 51 #[xY0 b] w λe w'=>e=.returned (.int .i64 0)/\∃v,Cmd b ((cs.setIfInBounds 20 (slf b)).setIfInBounds 21 v) ([42,32]++wCap++[13,10]) w'/\Below b w w':=by
 have k18:w.cell? ⟨b,18,none⟩=some (.slice A 0 c):=(xA h.blk 18).trans ha;have HT:=ι (xP9 b cs [] ⟨#[67,65,80,65,66,73,76,73,84,89,32,73,77,65,80,52,114,101,118,49]⟩ w h δ);clear h ha;go_enter Tryz.func51,Tryz.ntmps51;go_wp2_with fail
 refine HT.o.mono ?_;rintro e w' ⟨rfl,v,hc,hb⟩;have HC:=ι hc;have HB:=ι hb;clear hc hb k18;go_wp2;go_ret;exact⟨rfl,v,HC.o,HB.o⟩
theorem xSk (b:Nat) (cs:Array Value) (A:Option Addr) (c:Nat) (w:World) (h:Cmd b cs [] w) (ha:cs[18]?=some (.slice A 0 c)):
  Calls Tryz.prog 53 #[xY0 b] w λe w'=>e=.returned (.int .i64 0)/\∃v,Cmd b (((cs.setIfInBounds 20 (slf b)).setIfInBounds 21 v).setIfInBounds 11 (.bool true)) ([42,32]++[66,89,69]++[13,10]) w'/\Below b w w':=by
 have k18:w.cell? ⟨b,18,none⟩=some (.slice A 0 c):=(xA h.blk 18).trans ha;have HT:=ι (xP9 b cs [] ⟨#[66,89,69]⟩ w h δ);clear h ha;go_enter Tryz.func53,Tryz.ntmps53;go_wp2_with fail
 refine HT.o.mono ?_;rintro e w' ⟨rfl,v,hc,hb⟩;have HC:=ι hc;have HB:=ι hb;have q1:w'.cell? ⟨b,11,none⟩=((cs.setIfInBounds 20 (slf b)).setIfInBounds 21 v)[11]?:=xA hc.blk 11
 obtain⟨u,hu⟩:∃u,((cs.setIfInBounds 20 (slf b)).setIfInBounds 21 v)[11]?=some u:=⟨_,Array.getElem?_eq_getElem (by have:=hc.size;omega)⟩;rw[hu] at q1;have q2:w'.frozen? ⟨b,11,none⟩=false:=xC hc.blk 11;have hlt:=xG hc.blk;clear hc hb k18 hu;go_wp2;go_ret
 refine⟨rfl,v,⟨xY HC.o.blk 11 (.bool true),by simpa using HC.o.size,?_⟩,HB.o.setCell (p:=⟨b,11,none⟩) ν _⟩;obtain⟨p,v2,hp,hv,hor,hown,hne,hnil⟩:=HC.o.own;refine⟨p,v2,?_,?_,hor,?_,hne,hnil⟩
 ·rw[xCb HC.o.size δ,if_neg δ];exact hp
 ·rw[xCb HC.o.size δ,if_neg δ];exact hv
 ·refine⟨hown.1,?_⟩;rcases hown.2 with hn|⟨g,cap,cur,h1,h2,h3,h5⟩
  ·exact .inl hn
  ·exact .inr ⟨g,cap,cur,h1,h2,yA h3 (λe=>hne (by rw[h1];exact congrArg some e)) _,h5⟩
end Go.Proofs.IM
namespace Go.Proofs.MP
open Go.RowKit MM Go.ChangeMaps Go.WideMaps Go.WideShapes
abbrev Bs:=List UInt8
def zZ (w:World) (b:Nat) (tab:List (Bs×Value)):Prop:=
 ∃es clock,w.heap[b]?=some (.map es clock)/\es.toList.map (λe=>(e.key,e.val))=tab.map (λp=>(xO p.1,p.2))
theorem zZ.new (w:World):zZ (w.alloc (.map #[] 0)) w.heap.size []:=⟨#[],0,xL w _,rfl⟩
theorem xPd:KeyLaw Tryz.prog 9:=WideMaps.string_law Tryz.underlying9
theorem keyS {s:Bs} (h:s.length<=1000000):keyOf Tryz.prog 9 (xO s)=some (.string s):=
 WideMaps.keyOf_string_mk Tryz.underlying9 (by show s.length<=_;unfold maxLen;omega)
theorem xPc {a b:Bs} (h:xO a=xO b):a=b:=by
 injection h with h;exact yBp.1 h
theorem zZ.keys {tab:List (Bs×Value)} {es:Array MapEntry} (h2:es.toList.map (λe=>(e.key,e.val))=tab.map (λp=>(xO p.1,p.2))) (hl:∀p∈tab,p.1.length<=1000000):
  ∀e∈es.toList,∃l,keyOf Tryz.prog 9 e.key=some l:=by
 intro e he;have:(e.key,e.val)∈es.toList.map (λe=>(e.key,e.val)):=List.mem_map_of_mem (f:=λe:MapEntry=>(e.key,e.val)) he;rw[h2] at this;obtain⟨p,hp,hpe⟩:=List.mem_map.1 this;injection hpe with h3 h4;exact⟨_,by rw[<-h3];exact keyS (hl p hp)⟩
theorem zZ.hit {w:World} {b:Nat} {tab:List (Bs×Value)} {t e:TypeId} (h:zZ w b tab) (hl:∀p∈tab,p.1.length<=1000000) (ht:Tryz.prog.underlying t=some (.map 9 e))
  {s:Bs} (hs:s.length<=1000000) {v:Value} (hv:(s,v)∈tab) (huniq:∀u,(s,u)∈tab->u=v):(Instr.lookup t (.map (some b)) (xO s) true).run Tryz.prog w=.ok (.tuple #[v,.bool true]) w:=by
 obtain⟨es,clock,hb,h2⟩:=h;rcases xPd.find w (keyS hs) es.toList (zZ.keys h2 hl) with ⟨h1,h3⟩|⟨j,e0,h1,h3,h4⟩
 ·exfalso
  have:(xO s,v)∈tab.map (λp=>(xO p.1,p.2)):=List.mem_map_of_mem (f:=λp:Bs×Value=>(xO p.1,p.2)) hv;rw[<-h2] at this;obtain⟨x,hx,hxe⟩:=List.mem_map.1 this;injection hxe with h5 h6;exact h3 x hx h5
 ·have:(e0.key,e0.val)∈es.toList.map (λe=>(e.key,e.val)):=List.mem_map_of_mem (f:=λe:MapEntry=>(e.key,e.val)) (List.mem_of_getElem? h3);rw[h2] at this;obtain⟨p,hp,hpe⟩:=List.mem_map.1 this;have h5:xO p.1=e0.key:=congrArg Prod.fst hpe;have h6:p.2=e0.val:=congrArg Prod.snd hpe
  have h7:p.1=s:=xPc (h5.trans h4);have h8:e0.val=v:=by rw[<-h6];exact huniq p.2 (by rw[<-h7];exact hp)
  have e9:(Instr.lookup t (.map (some b)) (xO s) true).run Tryz.prog w=.ok (.tuple #[e0.val,.bool true]) w:=by
   clear h8 huniq hv h6 h7 h5 hp this h2 hl;simp[Instr.lookup,run_underlying ht,MapKept.run_getObj_map hb,xPd.check w _ (keyS hs),h1,Result.andThen]
  rw[e9,h8]
theorem zZ.put {w:World} {b:Nat} {tab:List (Bs×Value)} {t e:TypeId} (h:zZ w b tab) (hl:∀p∈tab,p.1.length<=1000000) (ht:Tryz.prog.underlying t=some (.map 9 e))
  {s:Bs} (hs:s.length<=1000000) (v:Value) (hno:∀p∈tab,p.1≠s):∃w',(Instr.mapUpdate t (.map (some b)) (xO s) v).run Tryz.prog w=.ok () w'/\zZ w' b (tab++[(s,v)])/\w.grownBy w' (some b):=by
 obtain⟨es,clock,hb,h2⟩:=h;rcases xPd.find w (keyS hs) es.toList (zZ.keys h2 hl) with ⟨h1,_⟩|⟨j,e0,h1,h3,h4⟩
 ·refine⟨setBlock w b (.map (es.push ⟨xO s,v,clock⟩) (clock+1)),?_,⟨es.push ⟨xO s,v,clock⟩,clock+1,heap_setBlock_same hb _,?_⟩,⟨rfl,rfl,rfl,by simp[setBlock],λi _ hi=>heap_setBlock_other hb _ (λe=>hi (by rw[e]))⟩⟩
  ·simp[Instr.mapUpdate,run_underlying ht,MapKept.run_getObj_map hb,xPd.check w false (keyS hs),h1,MapKept.run_setObj_map _ hb,Result.andThen,setBlock]
  ·rw[Array.toList_push,List.map_append,h2,List.map_append];rfl
 ·exfalso
  have:(e0.key,e0.val)∈es.toList.map (λe=>(e.key,e.val)):=List.mem_map_of_mem (f:=λe:MapEntry=>(e.key,e.val)) (List.mem_of_getElem? h3);rw[h2] at this;obtain⟨p,hp,hpe⟩:=List.mem_map.1 this;injection hpe with h5 h6;exact hno p hp (xPc (h5.trans h4))
end Go.Proofs.MP
namespace Go.Proofs.IM
open Go.RowKit MM MP
abbrev Bs:=List UInt8
def vD:List (Bs×Value):=[
 ([67,65,80,65,66,73,76,73,84,89],.agg #[.int .i64 0,.func (.func 51) #[] #[]]),
 ([78,79,79,80],.agg #[.int .i64 0,.func (.func 52) #[] #[]]),
 ([76,79,71,79,85,84],.agg #[.int .i64 0,.func (.func 53) #[] #[]]),
 ([76,79,71,73,78],.agg #[.int .i64 1,.func (.func 54) #[] #[]]),
 ([83,69,76,69,67,84],.agg #[.int .i64 2,.func (.func 55) #[] #[]]),
 ([69,88,65,77,73,78,69],.agg #[.int .i64 2,.func (.func 56) #[] #[]]),
 ([67,82,69,65,84,69],.agg #[.int .i64 2,.func (.func 57) #[] #[]]),
 ([68,69,76,69,84,69],.agg #[.int .i64 2,.func (.func 58) #[] #[]]),
 ([82,69,78,65,77,69],.agg #[.int .i64 2,.func (.func 59) #[] #[]]),
 ([83,85,66,83,67,82,73,66,69],.agg #[.int .i64 2,.func (.func 60) #[] #[]]),
 ([85,78,83,85,66,83,67,82,73,66,69],.agg #[.int .i64 2,.func (.func 61) #[] #[]]),
 ([76,73,83,84],.agg #[.int .i64 2,.func (.func 62) #[] #[]]),
 ([76,83,85,66],.agg #[.int .i64 2,.func (.func 63) #[] #[]]),
 ([83,84,65,84,85,83],.agg #[.int .i64 2,.func (.func 64) #[] #[]]),
 ([65,80,80,69,78,68],.agg #[.int .i64 2,.func (.func 65) #[] #[]]),
 ([67,76,79,83,69],.agg #[.int .i64 3,.func (.func 66) #[] #[]]),
 ([69,88,80,85,78,71,69],.agg #[.int .i64 4,.func (.func 67) #[] #[]]),
 ([83,69,65,82,67,72],.agg #[.int .i64 3,.func (.func 68) #[] #[]]),
 ([70,69,84,67,72],.agg #[.int .i64 3,.func (.func 69) #[] #[]]),
 ([83,84,79,82,69],.agg #[.int .i64 4,.func (.func 70) #[] #[]]),
 ([67,79,80,89],.agg #[.int .i64 3,.func (.func 71) #[] #[]]),
 ([85,73,68,32,83,69,65,82,67,72],.agg #[.int .i64 3,.func (.func 68) #[] #[]]),
 ([85,73,68,32,70,69,84,67,72],.agg #[.int .i64 3,.func (.func 69) #[] #[]]),
 ([85,73,68,32,83,84,79,82,69],.agg #[.int .i64 4,.func (.func 70) #[] #[]]),
 ([85,73,68,32,67,79,80,89],.agg #[.int .i64 3,.func (.func 71) #[] #[]]),
 ([88,80,65,83,83,87,68],.agg #[.int .i64 2,.func (.func 72) #[] #[]]),
 ([88,82,79,84,65,84,69],.agg #[.int .i64 2,.func (.func 73) #[] #[]]),
 ([88,83,84,69,80],.agg #[.int .i64 2,.func (.func 74) #[] #[]])]
theorem xB7:∀p∈vD,p.1.length<=1000000:=by
 intro p hp;have h:p.1∈vD.map (·.1):=List.mem_map_of_mem (f:=λp:Bs×Value=>p.1) hp
 revert h
 generalize p.1=s
 revert s
 show ∀s∈vD.map (·.1),s.length<=1000000
 decide
theorem xRi:∀n,n<28->∀s∈(vD.map (·.1)).take n,s≠(vD.map (·.1)).getD n []:=by decide
theorem zS {w W:World} {b n:Nat} (h:zZ W b (vD.take n)) (hb:w.heap.size<=b) (hB:Below w.heap.size w W) {s:Bs} {v:Value} (he:vD[n]?=some (s,v)):
  ∃W',(Instr.mapUpdate 89 (.map (some b)) (xO s) v).run Tryz.prog W=.ok () W'/\zZ W' b (vD.take (n+1))/\Below w.heap.size w W':=by
 have hn:n<28:=(List.getElem?_eq_some_iff.1 he).1
 obtain⟨W',h1,h2,h3⟩:=h.put (λp hp=>xB7 p (List.mem_of_mem_take hp)) Tryz.underlying89 (xB7 _ (List.mem_of_getElem? he)) v (λp hp=>by
  have:=xRi n hn p.1 (by rw[<-List.map_take];exact List.mem_map_of_mem (f:=λp:Bs×Value=>p.1) hp)
  rwa [List.getD_eq_getElem?_getD,List.getElem?_map,he] at this)
 refine⟨W',h1,?_,hB.grown h3 hB.size (λk e=>by injection e with e;omega)⟩;rw[List.take_add_one,he];exact h2
theorem xV7 (w:World):Calls Tryz.prog 25 #[] w λe w'=>e=.returned (.map (some w.heap.size))/\zZ w' w.heap.size vD/\Below w.heap.size w w':=by
 have hmm:(Instr.makeMap 89 none).run Tryz.prog w=.ok (.map (some w.heap.size)) (w.alloc (.map #[] 0)):=rfl;have h0:zZ (w.alloc (.map #[] 0)) w.heap.size (vD.take 0):=zZ.new w;have b0:=(Below.refl w.heap.size w).alloc ν (.map #[] 0)
 obtain⟨w1,r1,h1,b1⟩:∃W',(Instr.mapUpdate 89 (.map (some w.heap.size)) (.string ⟨#[67,65,80,65,66,73,76,73,84,89]⟩) (.agg #[.int .i64 0,.func (.func 51) #[] #[]])).run Tryz.prog (w.alloc (.map #[] 0))=.ok () W'/\zZ W' w.heap.size (vD.take 1)/\Below w.heap.size w W':=zS h0 ν b0 rfl
 clear h0 b0;obtain⟨w2,r2,h2,b2⟩:∃W',(Instr.mapUpdate 89 (.map (some w.heap.size)) (.string ⟨#[78,79,79,80]⟩) (.agg #[.int .i64 0,.func (.func 52) #[] #[]])).run Tryz.prog w1=.ok () W'/\zZ W' w.heap.size (vD.take 2)/\Below w.heap.size w W':=zS h1 ν b1 rfl;clear h1 b1
 obtain⟨w3,r3,h3,b3⟩:∃W',(Instr.mapUpdate 89 (.map (some w.heap.size)) (.string ⟨#[76,79,71,79,85,84]⟩) (.agg #[.int .i64 0,.func (.func 53) #[] #[]])).run Tryz.prog w2=.ok () W'/\zZ W' w.heap.size (vD.take 3)/\Below w.heap.size w W':=zS h2 ν b2 rfl;clear h2 b2
 obtain⟨w4,r4,h4,b4⟩:∃W',(Instr.mapUpdate 89 (.map (some w.heap.size)) (.string ⟨#[76,79,71,73,78]⟩) (.agg #[.int .i64 1,.func (.func 54) #[] #[]])).run Tryz.prog w3=.ok () W'/\zZ W' w.heap.size (vD.take 4)/\Below w.heap.size w W':=zS h3 ν b3 rfl;clear h3 b3
 obtain⟨w5,r5,h5,b5⟩:∃W',(Instr.mapUpdate 89 (.map (some w.heap.size)) (.string ⟨#[83,69,76,69,67,84]⟩) (.agg #[.int .i64 2,.func (.func 55) #[] #[]])).run Tryz.prog w4=.ok () W'/\zZ W' w.heap.size (vD.take 5)/\Below w.heap.size w W':=zS h4 ν b4 rfl;clear h4 b4
 obtain⟨w6,r6,h6,b6⟩:∃W',(Instr.mapUpdate 89 (.map (some w.heap.size)) (.string ⟨#[69,88,65,77,73,78,69]⟩) (.agg #[.int .i64 2,.func (.func 56) #[] #[]])).run Tryz.prog w5=.ok () W'/\zZ W' w.heap.size (vD.take 6)/\Below w.heap.size w W':=zS h5 ν b5 rfl;clear h5 b5
 obtain⟨w7,r7,h7,b7⟩:∃W',(Instr.mapUpdate 89 (.map (some w.heap.size)) (.string ⟨#[67,82,69,65,84,69]⟩) (.agg #[.int .i64 2,.func (.func 57) #[] #[]])).run Tryz.prog w6=.ok () W'/\zZ W' w.heap.size (vD.take 7)/\Below w.heap.size w W':=zS h6 ν b6 rfl;clear h6 b6
 obtain⟨w8,r8,h8,b8⟩:∃W',(Instr.mapUpdate 89 (.map (some w.heap.size)) (.string ⟨#[68,69,76,69,84,69]⟩) (.agg #[.int .i64 2,.func (.func 58) #[] #[]])).run Tryz.prog w7=.ok () W'/\zZ W' w.heap.size (vD.take 8)/\Below w.heap.size w W':=zS h7 ν b7 rfl;clear h7 b7
 obtain⟨w9,r9,h9,b9⟩:∃W',(Instr.mapUpdate 89 (.map (some w.heap.size)) (.string ⟨#[82,69,78,65,77,69]⟩) (.agg #[.int .i64 2,.func (.func 59) #[] #[]])).run Tryz.prog w8=.ok () W'/\zZ W' w.heap.size (vD.take 9)/\Below w.heap.size w W':=zS h8 ν b8 rfl;clear h8 b8
 obtain⟨w10,r10,h10,b10⟩:∃W',(Instr.mapUpdate 89 (.map (some w.heap.size)) (.string ⟨#[83,85,66,83,67,82,73,66,69]⟩) (.agg #[.int .i64 2,.func (.func 60) #[] #[]])).run Tryz.prog w9=.ok () W'/\zZ W' w.heap.size (vD.take 10)/\Below w.heap.size w W':=zS h9 ν b9 rfl;clear h9 b9
 obtain⟨w11,r11,h11,b11⟩:∃W',(Instr.mapUpdate 89 (.map (some w.heap.size)) (.string ⟨#[85,78,83,85,66,83,67,82,73,66,69]⟩) (.agg #[.int .i64 2,.func (.func 61) #[] #[]])).run Tryz.prog w10=.ok () W'/\zZ W' w.heap.size (vD.take 11)/\Below w.heap.size w W':=zS h10 ν b10 rfl
 clear h10 b10;obtain⟨w12,r12,h12,b12⟩:∃W',(Instr.mapUpdate 89 (.map (some w.heap.size)) (.string ⟨#[76,73,83,84]⟩) (.agg #[.int .i64 2,.func (.func 62) #[] #[]])).run Tryz.prog w11=.ok () W'/\zZ W' w.heap.size (vD.take 12)/\Below w.heap.size w W':=zS h11 ν b11 rfl;clear h11 b11
 obtain⟨w13,r13,h13,b13⟩:∃W',(Instr.mapUpdate 89 (.map (some w.heap.size)) (.string ⟨#[76,83,85,66]⟩) (.agg #[.int .i64 2,.func (.func 63) #[] #[]])).run Tryz.prog w12=.ok () W'/\zZ W' w.heap.size (vD.take 13)/\Below w.heap.size w W':=zS h12 ν b12 rfl;clear h12 b12
 obtain⟨w14,r14,h14,b14⟩:∃W',(Instr.mapUpdate 89 (.map (some w.heap.size)) (.string ⟨#[83,84,65,84,85,83]⟩) (.agg #[.int .i64 2,.func (.func 64) #[] #[]])).run Tryz.prog w13=.ok () W'/\zZ W' w.heap.size (vD.take 14)/\Below w.heap.size w W':=zS h13 ν b13 rfl;clear h13 b13
 obtain⟨w15,r15,h15,b15⟩:∃W',(Instr.mapUpdate 89 (.map (some w.heap.size)) (.string ⟨#[65,80,80,69,78,68]⟩) (.agg #[.int .i64 2,.func (.func 65) #[] #[]])).run Tryz.prog w14=.ok () W'/\zZ W' w.heap.size (vD.take 15)/\Below w.heap.size w W':=zS h14 ν b14 rfl;clear h14 b14
 obtain⟨w16,r16,h16,b16⟩:∃W',(Instr.mapUpdate 89 (.map (some w.heap.size)) (.string ⟨#[67,76,79,83,69]⟩) (.agg #[.int .i64 3,.func (.func 66) #[] #[]])).run Tryz.prog w15=.ok () W'/\zZ W' w.heap.size (vD.take 16)/\Below w.heap.size w W':=zS h15 ν b15 rfl;clear h15 b15
 obtain⟨w17,r17,h17,b17⟩:∃W',(Instr.mapUpdate 89 (.map (some w.heap.size)) (.string ⟨#[69,88,80,85,78,71,69]⟩) (.agg #[.int .i64 4,.func (.func 67) #[] #[]])).run Tryz.prog w16=.ok () W'/\zZ W' w.heap.size (vD.take 17)/\Below w.heap.size w W':=zS h16 ν b16 rfl;clear h16 b16
 obtain⟨w18,r18,h18,b18⟩:∃W',(Instr.mapUpdate 89 (.map (some w.heap.size)) (.string ⟨#[83,69,65,82,67,72]⟩) (.agg #[.int .i64 3,.func (.func 68) #[] #[]])).run Tryz.prog w17=.ok () W'/\zZ W' w.heap.size (vD.take 18)/\Below w.heap.size w W':=zS h17 ν b17 rfl;clear h17 b17
 obtain⟨w19,r19,h19,b19⟩:∃W',(Instr.mapUpdate 89 (.map (some w.heap.size)) (.string ⟨#[70,69,84,67,72]⟩) (.agg #[.int .i64 3,.func (.func 69) #[] #[]])).run Tryz.prog w18=.ok () W'/\zZ W' w.heap.size (vD.take 19)/\Below w.heap.size w W':=zS h18 ν b18 rfl;clear h18 b18
 obtain⟨w20,r20,h20,b20⟩:∃W',(Instr.mapUpdate 89 (.map (some w.heap.size)) (.string ⟨#[83,84,79,82,69]⟩) (.agg #[.int .i64 4,.func (.func 70) #[] #[]])).run Tryz.prog w19=.ok () W'/\zZ W' w.heap.size (vD.take 20)/\Below w.heap.size w W':=zS h19 ν b19 rfl;clear h19 b19
 obtain⟨w21,r21,h21,b21⟩:∃W',(Instr.mapUpdate 89 (.map (some w.heap.size)) (.string ⟨#[67,79,80,89]⟩) (.agg #[.int .i64 3,.func (.func 71) #[] #[]])).run Tryz.prog w20=.ok () W'/\zZ W' w.heap.size (vD.take 21)/\Below w.heap.size w W':=zS h20 ν b20 rfl;clear h20 b20
 obtain⟨w22,r22,h22,b22⟩:∃W',(Instr.mapUpdate 89 (.map (some w.heap.size)) (.string ⟨#[85,73,68,32,83,69,65,82,67,72]⟩) (.agg #[.int .i64 3,.func (.func 68) #[] #[]])).run Tryz.prog w21=.ok () W'/\zZ W' w.heap.size (vD.take 22)/\Below w.heap.size w W':=zS h21 ν b21 rfl
 clear h21 b21;obtain⟨w23,r23,h23,b23⟩:∃W',(Instr.mapUpdate 89 (.map (some w.heap.size)) (.string ⟨#[85,73,68,32,70,69,84,67,72]⟩) (.agg #[.int .i64 3,.func (.func 69) #[] #[]])).run Tryz.prog w22=.ok () W'/\zZ W' w.heap.size (vD.take 23)/\Below w.heap.size w W':=zS h22 ν b22 rfl
 clear h22 b22;obtain⟨w24,r24,h24,b24⟩:∃W',(Instr.mapUpdate 89 (.map (some w.heap.size)) (.string ⟨#[85,73,68,32,83,84,79,82,69]⟩) (.agg #[.int .i64 4,.func (.func 70) #[] #[]])).run Tryz.prog w23=.ok () W'/\zZ W' w.heap.size (vD.take 24)/\Below w.heap.size w W':=zS h23 ν b23 rfl
 clear h23 b23;obtain⟨w25,r25,h25,b25⟩:∃W',(Instr.mapUpdate 89 (.map (some w.heap.size)) (.string ⟨#[85,73,68,32,67,79,80,89]⟩) (.agg #[.int .i64 3,.func (.func 71) #[] #[]])).run Tryz.prog w24=.ok () W'/\zZ W' w.heap.size (vD.take 25)/\Below w.heap.size w W':=zS h24 ν b24 rfl
 clear h24 b24;obtain⟨w26,r26,h26,b26⟩:∃W',(Instr.mapUpdate 89 (.map (some w.heap.size)) (.string ⟨#[88,80,65,83,83,87,68]⟩) (.agg #[.int .i64 2,.func (.func 72) #[] #[]])).run Tryz.prog w25=.ok () W'/\zZ W' w.heap.size (vD.take 26)/\Below w.heap.size w W':=zS h25 ν b25 rfl
 clear h25 b25;obtain⟨w27,r27,h27,b27⟩:∃W',(Instr.mapUpdate 89 (.map (some w.heap.size)) (.string ⟨#[88,82,79,84,65,84,69]⟩) (.agg #[.int .i64 2,.func (.func 73) #[] #[]])).run Tryz.prog w26=.ok () W'/\zZ W' w.heap.size (vD.take 27)/\Below w.heap.size w W':=zS h26 ν b26 rfl
 clear h26 b26;obtain⟨w28,r28,h28,b28⟩:∃W',(Instr.mapUpdate 89 (.map (some w.heap.size)) (.string ⟨#[88,83,84,69,80]⟩) (.agg #[.int .i64 2,.func (.func 74) #[] #[]])).run Tryz.prog w27=.ok () W'/\zZ W' w.heap.size (vD.take 28)/\Below w.heap.size w W':=zS h27 ν b27 rfl
 clear h27 b27;have H:=ι h28;have B:=ι b28;clear h28 b28;go_enter Tryz.func25,Tryz.ntmps25;repeat go_step
 go_wp2;go_ret;exact⟨rfl,H.o,B.o⟩
end Go.Proofs.IM
/- Contracts of functions. Conditions: as stated. -/
import Derived.Test.YtnafbinmecekeaaGreatDoorImapSearchesProofB10
import Derived.Lib.ItoaLen
import Derived.Lib.LastIndexByte
import Derived.Lib.SlTrimSet
open Go.Proofs.Tryz
set_option maxHeartbeats 8000000
set_option maxRecDepth 100000
namespace Mailsack
def xFw (n:Int):Int:=if n<0∨700<n then 0 else if 2+n<=128 then 128 else if 2+n<=256 then 256 else if 2+n<=512 then 512 else 704
end Mailsack
namespace Go.Proofs.SE
open Go.RowKit Mailsack MM BB SH
structure ClsT (w:World):Prop where
 t:∃t fr,w.heap[0]?=some (.cells #[.int .i64 128,.int .i64 256,.int .i64 512,.int .i64 704] t fr)
theorem ClsT.below {w w':World} {B:Nat} (h:ClsT w) (hb:Below B w w') (hB:w.heap.size<=B):ClsT w':=by
 obtain⟨t,fr,h1⟩:=h.t;exact⟨t,fr,xC h1 hb (Nat.lt_of_lt_of_le (xJ h1) hB)⟩
theorem xVb (n:Int) (w:World) (hC:ClsT w):
  Calls prog 167 #[.int .i64 n] w λe w'=>e=.returned (.int .i64 (xFw n))/\w'=w:=by
 by_cases h1:n<0
 ·have HR:Hid (xFw n=0):=ι (by unfold xFw;rw[if_pos (.inl h1)]);rw[HR.o];go_enter func167,ntmps167;go_wp2;go_ret;exact⟨rfl,rfl⟩
 ·by_cases h2:700<n
  ·have HR:Hid (xFw n=0):=ι (by unfold xFw;rw[if_pos (.inr h2)]);rw[HR.o];go_enter func167,ntmps167;go_wp2;go_ret;exact⟨rfl,rfl⟩
  ·have HR:Hid (xFw n=if 2+n<=128 then 128 else if 2+n<=256 then 256 else if 2+n<=512 then 512 else 704):=ι (by unfold xFw;rw[if_neg ω]);obtain⟨c,hc⟩:∃c,xFw n=c:=⟨_,rfl⟩;rw[hc];rw[hc] at HR;clear hc;obtain⟨t,fr,ht⟩:=hC.t
   obtain⟨cs,hcs⟩:∃cs:Array Value,#[.int .i64 128,.int .i64 256,.int .i64 512,.int .i64 704]=cs:=⟨_,rfl⟩;have HI:Hid ((prog.info? 316).map (·.size)=some cs.size):=ι (by rw[<-hcs];kernel_rfl);rw[hcs] at ht;have HT:=ι ht
   have HX:Hid (cs[0]?=some (.int .i64 128)/\cs[1]?=some (.int .i64 256)/\cs[2]?=some (.int .i64 512)/\cs[3]?=some (.int .i64 704)):=ι (by rw[<-hcs];exact⟨rfl,rfl,rfl,rfl⟩);clear hcs;clear ht hC;go_enter func167,ntmps167
   go_wp2_with (refine wpList_load_row rfl _ _ rfl 0 rfl _ _ fr _ HT.o underlying316 rfl HI.o ?_)
   go_loopw [12] (λiv W=>∃k:Nat,k<=3/\iv=.int .i64 k/\Hid ((1<=k->128<2+n)/\(2<=k->256<2+n)/\(3<=k->512<2+n))/\W=w) (λiv _=>4- (intOf iv).toNat)
   case atStart=>exact⟨0,ω,rfl,ι ⟨λh=>by omega,λh=>by omega,λh=>by omega⟩,rfl⟩
   case round=>
    obtain⟨k,hk,rfl,hu,rfl⟩:=hrel;have ix:=λ(v:Value) hv=>λW=>vW (P:=prog) underlying316 underlying3 κ cs v k ω hv W;obtain⟨u1,u2,u3⟩:=hu.o
    match k,hk with
    |0,_=>
     have i0:∀W,(Instr.index 316 (.agg cs) (.int .i64 0)).run prog W=.ok (.int .i64 128) W:=ix _ HX.o.1;clear ix u1 u2 u3 hu
     by_cases ht:2+n<=128
     ·have HC:Hid (c=128):=ι (by rw[HR.o,if_pos ht]);go_wp2;go_ret;rw[HC.o];exact⟨rfl,rfl⟩
     ·have HN:Hid ((1<=0+1->128<2+n)/\(2<=0+1->256<2+n)/\(3<=0+1->512<2+n)):=ι ⟨λ_=>by omega,λh=>by omega,λh=>by omega⟩;go_wp2;exact⟨⟨0+1,ω,by go_num,HN,trivial⟩,by simp[intOf]⟩
    |1,_=>
     have i0:∀W,(Instr.index 316 (.agg cs) (.int .i64 1)).run prog W=.ok (.int .i64 256) W:=ix _ HX.o.2.1;have u1:=u1 ω;clear ix u2 u3 hu
     by_cases ht:2+n<=256
     ·have HC:Hid (c=256):=ι (by rw[HR.o,if_neg ω,if_pos ht]);go_wp2;go_ret;rw[HC.o];exact⟨rfl,rfl⟩
     ·have HN:Hid ((1<=1+1->128<2+n)/\(2<=1+1->256<2+n)/\(3<=1+1->512<2+n)):=ι ⟨λ_=>by omega,λ_=>by omega,λh=>by omega⟩;go_wp2;exact⟨⟨1+1,ω,by go_num,HN,trivial⟩,by simp[intOf]⟩
    |2,_=>
     have i0:∀W,(Instr.index 316 (.agg cs) (.int .i64 2)).run prog W=.ok (.int .i64 512) W:=ix _ HX.o.2.2.1;have u2:=u2 ω;clear ix u1 u3 hu
     by_cases ht:2+n<=512
     ·have HC:Hid (c=512):=ι (by rw[HR.o,if_neg ω,if_neg ω,if_pos ht]);go_wp2;go_ret;rw[HC.o];exact⟨rfl,rfl⟩
     ·have HN:Hid ((1<=2+1->128<2+n)/\(2<=2+1->256<2+n)/\(3<=2+1->512<2+n)):=ι ⟨λ_=>by omega,λ_=>by omega,λ_=>by omega⟩;go_wp2;exact⟨⟨2+1,ω,by go_num,HN,trivial⟩,by simp[intOf]⟩
    |3,_=>
     have i0:∀W,(Instr.index 316 (.agg cs) (.int .i64 3)).run prog W=.ok (.int .i64 704) W:=ix _ HX.o.2.2.2;have u3:=u3 ω;clear ix u1 u2 hu;have ht:2+n<=704:=ω;have HC:Hid (c=704):=ι (by rw[HR.o,if_neg ω,if_neg ω,if_neg ω]);go_wp2;go_ret;rw[HC.o];exact⟨rfl,rfl⟩
end Go.Proofs.SE
namespace Mailsack
theorem yC7 {n:Nat} (h:n<=700):∃c:Nat,xFw (n:Int)=(c:Int)/\2+n<=c/\c<=704/\128<=c:=by
 unfold xFw;rw[if_neg ω];split
 ·exact⟨128,rfl,ω,ω,ω⟩
 ·split
  ·exact⟨256,rfl,ω,ω,ω⟩
  ·split
   ·exact⟨512,rfl,ω,ω,ω⟩
   ·exact⟨704,rfl,ω,ω,ω⟩
def unN (s:ByteArray):Nat:=(s.data.toList.getD 0 0).toNat+256*(s.data.toList.getD 1 0).toNat
def zB (r:ByteArray):Nat->Bool
 |0=>true
 |k+1=>zB r k&&yO r k==0
def unR (s:ByteArray):ByteArray:=s.extract (2+unN s) s.size
def xS1 (s:ByteArray):Bool:=decide (2<=s.size)&&(xFw (unN s)==(s.size:Int))&&zB (unR s) (unR s).size
def unE (s:ByteArray):Int:=if xS1 s=true then 0 else 3
def unT (s:ByteArray):ByteArray:=if xS1 s=true then s.extract 2 (2+unN s) else⟨#[]⟩
theorem xWg (r:ByteArray) (k:Nat) (h:zB r k=false):∀n,k<=n->zB r n=false:=by
 intro n hn
 induction n with
 |zero=>rw[show k=0 by omega] at h;exact h
 |succ n ih=>
  by_cases e:k=n+1
  ·rw[<-e];exact h
  ·rw[zB,ih ω,Bool.false_and]
theorem yC9 {n c:Nat} (h:xFw (n:Int)=(c:Int)) (hc:2<=c):2+n<=c/\n<=700:=by
 have h2:n<=700:=by
  apply Nat.le_of_not_lt;intro hh;unfold xFw at h;rw[if_pos ω] at h;omega
 obtain⟨c',e,h1,_⟩:=yC7 h2;rw[h] at e;omega
end Mailsack
namespace Go.Proofs.SE
open Go.RowKit Mailsack MM BB SH SV
theorem xVa (s:ByteArray) (w:World) (hs:s.size<=1000000):Calls prog 168 #[.string s] w λe w'=>e=.returned (.string s)/\ψ w w':=by
 go_enter func168,ntmps168;go_wp2_with fail
 refine(Tryz.stringslite_Clone s _ ω).mono ?_;rintro e w1 ⟨rfl,hb⟩;go_wp2;go_ret;exact⟨rfl,hb⟩
theorem xS0 (s:ByteArray) (w:World) (hs:s.size<=1000000) (hC:ClsT w):
  Calls prog 83 #[.string s] w λe w'=>e=.returned (.tuple #[.string (unT s),.int .i64 (unE s)])/\ψ w w':=by
 by_cases h2:s.size<2
 ·have HR:Hid (xS1 s=false):=ι (by unfold xS1;rw[decide_eq_false ω];rfl);rw[show unT s=⟨#[]⟩ by unfold unT;rw[HR.o];rfl,show unE s=3 by unfold unE;rw[HR.o];rfl];have hi:(s.size:Int)<2:=ω;clear h2 hs hC;go_enter func83,ntmps83;go_wp2;go_ret2;exact⟨rfl,Below.refl _ _⟩
 ·have hi:¬(s.size:Int)<2:=ω;have hj:¬(s.size<2):=h2;have i0:=λw=>zG (P:=prog) underlying9 s 0 0 rfl ω w;have i1:=λw=>zG (P:=prog) underlying9 s 1 1 rfl ω w;have hN:(unN s:Int)=yO s 0+yO s 1*256:=by unfold unN yO;omega
  have hor:Go.bits .or .i64 (yO s 0) (yO s 1*256)=(unN s:Int):=by
   unfold unN yO;rw[xZe _ _ (UInt8.toNat_lt _) (UInt8.toNat_lt _)];omega
  obtain⟨c00,c01⟩:=yZ s 0;obtain⟨c10,c11⟩:=yZ s 1;have HCL:=ι (λW (hb:ψ w W)=>xVb (unN s:Int) W (hC.below hb ν));have HOK:Hid (xS1 s=((xFw (unN s)==(s.size:Int))&&zB (unR s) (unR s).size)):=ι (by unfold xS1;rw[decide_eq_true ω,Bool.true_and])
  have HE:Hid (unE s=if xS1 s=true then 0 else 3):=ι rfl;have HTT:Hid (unT s=if xS1 s=true then s.extract 2 (2+unN s) else⟨#[]⟩):=ι rfl;have HCE:=ι (λh=>yC9 (n:=unN s) (c:=s.size) h ω);have HUR:Hid (unR s=s.extract (2+unN s) s.size):=ι rfl;generalize unE s=ue at HE⊢
  generalize unT s=ut at HTT⊢;generalize xS1 s=ok at HOK HE HTT;generalize unR s=rr at HOK HUR;generalize unN s=n at hN hor HCL HOK HTT HCE HUR;generalize yO s 0=b0 at i0 hN hor c00 c01;generalize yO s 1=b1 at i1 hN hor c10 c11;clear h2 hC hN;go_enter func83,ntmps83
  go_upto_region 3 with fail
  refine RG.xH (λW=>Hid (ψ w W)) κ κ (ι (Below.refl w.heap.size w).drew) ?_;iterate 9 refine RG.dS ?_
  refine RG.xL (λw1 hw1=>?_);clear i0 i1 hor c00 c01 c10 c11;go_wp2_with fail
  refine(HCL.o _ hw1.o).mono ?_;rintro e w2 ⟨rfl,hw2⟩;rw[hw2];clear hw2 w2 HCL;have B1:=ι hw1.o;clear hw1
  by_cases hc:xFw (n:Int)=(s.size:Int)
  rotate_left
  ·have hc1:(xFw (n:Int)==(s.size:Int))=false:=by simpa using hc
   have hc2:(xFw (n:Int)!=(s.size:Int))=true:=by simpa using hc
   rw[hc1,Bool.false_and] at HOK;rw[HOK.o] at HE HTT;clear HOK HCE HUR;go_wp2;go_ret2;exact⟨by rw[HE.o,HTT.o];rfl,B1.o⟩
  ·have hc1:(xFw (n:Int)==(s.size:Int))=true:=by simpa using hc
   have hc2:(xFw (n:Int)!=(s.size:Int))=false:=by simpa using hc
   obtain⟨g1,g2⟩:=HCE.o hc;rw[hc1,Bool.true_and] at HOK;clear HCE hc;go_upto_region 6 with fail
   clear hc1 hc2 hi hj;refine RG.xH (λW=>Hid (ψ w W)) κ κ (ι B1.o.drew) ?_;iterate 10 refine RG.dS ?_
   refine RG.xL (λw3 hw3=>?_);rw[<-HUR.o];have hts:(s.extract 2 (2+n)).size<=1000000:=by rw[ByteArray.size_extract];omega
   have hrs:rr.size<=1000000:=by rw[HUR.o,ByteArray.size_extract];omega
   generalize s.extract 2 (2+n)=tt at HTT hts⊢;have HW:=ι hw3.o;clear hw3 B1 HUR g1 g2;have HLT:=ι (xWg rr);have HSS:Hid (∀k,zB rr (k+1)=(zB rr k&&yO rr k==0)):=ι (λk=>rfl);have HS0:Hid (zB rr 0=true):=ι rfl;have HCN:=ι (λW=>xVa tt W hts);clear hts;go_wp2_with fail
   go_loopw [34] (λiv W=>∃k:Nat,k<=rr.size/\iv=.int .i64 k/\Hid (zB rr k=true)/\Hid (ψ w W)) (λiv _=>rr.size- (intOf iv).toNat)
   case atStart=>exact⟨0,Nat.zero_le _,rfl,HS0,HW⟩
   case round=>
    obtain⟨k,hk,rfl,hu,hbw⟩:=hrel
    by_cases hlt:k<rr.size
    ·have i1:=λw=>zG (P:=prog) underlying9 rr (k:Int) k rfl hlt w;have HSk:=ι (HSS.o k);generalize yO rr k=c at i1 HSk
     by_cases hcz:c=0
     ·have hc0:(c==0)=true:=by simpa using hcz
      have hc1:(c !=0)=false:=by simp[hcz]
      have HN:Hid (zB rr (k+1)=true):=ι (by rw[HSk.o,hu.o,hc0];rfl);subst hcz;clear HSk hu;go_wp2;exact⟨⟨k+1,ω,by go_num,HN,hbw⟩,by simp[intOf];omega⟩
     ·have hc0:(c==0)=false:=by simpa using hcz
      have hc1:(c !=0)=true:=by simp[hcz]
      have HN:Hid (ok=false):=ι (by rw[HOK.o];exact HLT.o (k+1) (by rw[HSk.o,hc0,Bool.and_false]) rr.size ω);clear HSk hu HOK HLT;go_wp2;go_ret2;exact⟨by rw[HE.o,HTT.o,HN.o];rfl,hbw.o⟩
    ·have he:k=rr.size:=ω;subst he;have HN:Hid (ok=true):=ι (by rw[HOK.o];exact hu.o);clear hu HOK HLT HSS HS0;go_wp2_with fail
     refine(HCN.o _).mono ?_;rintro e w5 ⟨rfl,hb5⟩;have B5:=ι (hbw.o.trans (hb5.mono hbw.o.size));clear hb5 hbw;go_wp2;go_ret2;exact⟨by rw[HE.o,HTT.o,HN.o];rfl,B5.o⟩
end Go.Proofs.SE
namespace Mailsack
theorem xCu:∀(xs:List Bs),Go.Lib.join xs []=xs.flatten
 |[]=>rfl
 |[x]=>by simp[Go.Lib.join,List.intercalate,List.intersperse]
 |x::y::l=>by
  have ih:=xCu (y::l);simp only[Go.Lib.join,List.intercalate,List.intersperse,List.flatten_cons] at ih⊢;rw[List.nil_append,ih]
theorem xUk {l:List Bs} (h:∀x∈l,x.length=64):l.flatten.length=64*l.length:=by
 induction l with
 |nil=>rfl
 |cons x l ih=>
  rw[List.flatten_cons,List.length_append,h x (List.mem_cons_self ..),ih λy hy=>h y (List.mem_cons_of_mem _ hy),List.length_cons];omega
end Mailsack
namespace Go.Proofs.ST
open Go.RowKit Mailsack MM BB SH SV RK DS
theorem xK0 (b off c:Nat) (S:List Bs) (first n:Nat) (w:World) (hcs:∀(j:Nat) x,S[j]?=some x->w.cell? ⟨b,off+j,none⟩=some (xK x)) (hb:b<w.heap.size) (hn:first+n<=S.length) (h0:n<=100) (hc:n<=c) (h64:∀x∈S,x.length=64):
  Calls prog 77 #[.slice (some ⟨b,off+first,none⟩) n c,.string ⟨#[]⟩] w λe w'=>e=.returned (xK ((S.drop first).take n).flatten)/\ψ w w':=by
 have hl:((S.drop first).take n).length=n:=by simp;omega
 have e1:((((S.drop first).take n).map λy=>(⟨y.toArray⟩:ByteArray)).map (·.data.toList))=(S.drop first).take n:=by
  rw[List.map_map]
  conv=>rhs;rw[<-List.map_id ((S.drop first).take n)]
  rfl
 have hJ:=Tryz.strings_Join b (off+first) c (((S.drop first).take n).map λy=>(⟨y.toArray⟩:ByteArray)) ⟨#[]⟩ w (λj x hx=>by
  rw[List.getElem?_map] at hx;obtain⟨y,hy,rfl⟩:=Option.map_eq_some_iff.1 hx;have hj:=(List.getElem?_eq_some_iff.1 hy).1;rw[hl] at hj;rw[List.getElem?_take,if_pos hj,List.getElem?_drop] at hy;have:=hcs _ _ hy;rw[<-Nat.add_assoc] at this
  exact this) hb (by rw[List.length_map,hl];omega) (by rw[List.length_map,hl];exact hc) (by
   rw[e1];show(Go.Lib.join _ []).length<=_;rw[xCu,xUk λx hx=>h64 x (List.mem_of_mem_drop (List.mem_of_mem_take hx)),hl];omega)
 rw[e1,List.length_map,hl] at hJ;rw[show(⟨#[]⟩:ByteArray).data.toList=[] from rfl,xCu] at hJ;exact hJ
theorem xYb {d:Dk} (h:xF8 d=true):(zH d).secs.length=381/\∀s∈(zH d).secs,s.length=64:=by
 unfold xF8 at h;rw[Bool.and_eq_true,decide_eq_true_eq] at h;have h2:=xHp h.2;exact⟨by rw[xQc h.2];exact h.1,(xJg.1 h2).2.2.1⟩
theorem xX2 {S:List Bs} {i:Nat} {t:Slot} (h:(zV S)[i]?=some t):t=noSlot∨(t.used=true/\xOt t):=by
 rw[xCn] at h;split at h
 ·obtain⟨s,_,rfl⟩:=Option.map_eq_some_iff.1 h;exact xV4 s
 ·cases h
structure GtM (w:World) (gs b off c:Nat) (S:List Bs) (W:World):Prop where
 sl:W.heap[gs]?=some (.cells ((zV S).flatMap xKt).toArray 165 (0,0))
 cs:∀(j:Nat) x,S[j]?=some x->W.cell? ⟨b,off+j,none⟩=some (xK x)
 hb:b<W.heap.size
 bel:ψ w W
theorem GtM.below {w W W':World} {gs b off c:Nat} {S:List Bs} (h:GtM w gs b off c S W) (hb:ψ W W'):GtM w gs b off c S W':=
 ⟨xC h.sl hb (xJ h.sl),λj x hx=>(hb.cell (p:=⟨b,off+j,none⟩) h.hb).trans (h.cs j x hx),Nat.lt_of_lt_of_le h.hb hb.size,h.bel.trans (hb.mono h.bel.size)⟩
theorem GtM.drew {w W:World} {gs b off c:Nat} {S:List Bs} (h:GtM w gs b off c S W):GtM w gs b off c S W.drew:=h.below (Below.refl _ _).drew
theorem yBv (va vb:Value) (d:Dk) (n:Bs) (w:World) (h:RdD w w.heap.size va vb d):
  Calls prog 30 #[.agg #[va,vb],xK n] w λe w'=>e=.returned (.tuple #[xK (yBw d n),.int .i64 (xZr d n)])/\ψ w w':=by
 obtain⟨A1,c1,A2,c2,rfl,rfl⟩:=vY h;have HA:=ι (φ w (yQ (.slice A1 d.secs.length c1) (.slice A2 d.cache.length c2)));have hD0:=xI w (yQ (.slice A1 d.secs.length c1) (.slice A2 d.cache.length c2));obtain⟨d0,d1⟩:=xFa hD0;clear hD0
 have HCT:=ι (xKb _ _ d _ ((h.below HA.o ν).more HA.o.size));have HE:Hid (xZr d n=if xF8 d=true then(if xEw (zV (zH d).secs) n<0 then 6 else 0) else 1):=ι rfl;have HG:Hid (yBw d n=if xZr d n=0 then yAt (zH d).secs (xGa (zV (zH d).secs) (xEw (zV (zH d).secs) n)) else[]):=ι rfl
 have HFL:Hid (xF8 d=true->(zH d).secs.length=381/\∀s∈(zH d).secs,s.length=64):=ι xYb;have HCP:Hid (∀v W,yA0 d v W->xF8 d=true->RdS W W.heap.size v (zH d).secs):=ι (λv W h=>h);obtain⟨ge,hge⟩:∃ge,xZr d n=ge:=⟨_,rfl⟩;obtain⟨gp,hgp⟩:∃gp,yBw d n=gp:=⟨_,rfl⟩;rw[hge] at HE HG
 rw[hgp] at HG;rw[hge,hgp];clear hge hgp h;cases hc:xF8 d with
 |false=>
  rw[hc] at HCT HE;rw[if_neg σ] at HE;rw[HE.o,if_neg ω] at HG;rw[HG.o,HE.o];clear hc HE HG HFL HCP;go_enter func30,ntmps30;go_wp2_with fail
  refine HCT.o.mono ?_;rintro e w1 ⟨v,rfl,_,hb⟩;have HB:=ι (HA.o.trans (hb.mono HA.o.size));clear hb HA HCT d0 d1;go_wp2;go_ret2;exact⟨rfl,HB.o⟩
 |true=>
  have xOw:=ι (HFL.o hc);have HCP2:=ι (λv W h=>HCP.o v W h hc);rw[hc] at HCT HE;rw[if_pos rfl] at HE;clear hc HFL HCP;generalize (zH d).secs=S at HE HG xOw HCP2;go_enter func30,ntmps30;go_wp2_with fail
  refine HCT.o.mono ?_;rintro e w1 ⟨v,rfl,hct,hb⟩;have HRS:=ι (HCP2.o v w1 hct);have HB1:=ι (HA.o.trans (hb.mono HA.o.size));clear hct hb HCT HCP2 d0 d1 HA;have HSO:=ι (xSn v S w1 HRS.o xOw.o.1 xOw.o.2);obtain⟨A,c,rfl,hlc,hcell⟩:=HRS.o
  obtain⟨b,off,rfl,hb,hcs⟩:=hcell (by rw[xOw.o.1];omega);have HCS:=ι (And.intro hb (And.intro hcs hlc));clear hb hcs hlc hcell;go_wp2_with fail
  refine HSO.o.mono ?_;rintro e w2 ⟨gs,rfl,hgs,hsl,hb2⟩;have HM:=ι (show GtM w gs b off c S w2 from⟨hsl,λj x hx=>(hb2.cell (p:=⟨b,off+j,none⟩) HCS.o.1).trans (HCS.o.2.1 j x hx),Nat.lt_of_lt_of_le HCS.o.1 hb2.size,HB1.o.trans (hb2.mono HB1.o.size)⟩);clear hsl hb2 hgs HSO HRS
  have HFD:=ι (xDr (.slice (some ⟨gs,0,none⟩) 32 32) (zV S) n w2 (by
   have:=xFz.rd (e:=165) (f:=xKt) (n:=5) jI HM.o.sl (B:=w2.heap.size) (xJ HM.o.sl) (c:=32) (by rw[tJ xOw.o.1];omega);rw[tJ xOw.o.1] at this;exact this) (by rw[tJ xOw.o.1];omega))
  go_wp2_with fail
  refine HFD.o.mono ?_;rintro e w3 ⟨rfl,hb3⟩;have HM3:=ι (HM.o.below hb3);clear hb3 HM HFD HB1;rcases xQe (zV S) n with ⟨f1,f2⟩|⟨i,t,f1,f2,f3,f4,f5⟩
  ·rw[f1] at HE HG;rw[f1];rw[if_pos ω] at HE;rw[HE.o,if_neg ω] at HG;clear f1 f2;go_wp2;go_ret2;exact⟨by rw[HE.o,HG.o];rfl,HM3.o.bel⟩
  ·rw[f1] at HE HG;rw[f1];rw[if_neg ω] at HE;rw[HE.o,if_pos rfl,xPa f2] at HG
   have hok:xOt t:=by
    rcases xX2 f2 with e|⟨_,h⟩
    ·rw[e] at f3;cases f3
    ·exact h
   have HI:Hid (i<32):=ι (by rw[tJ xOw.o.1] at f5;exact f5);have hi32:(i:Int)<32:=by have:=HI.o;omega
   have HC1:Hid (∀{W},GtM w gs b off c S W->W.cell? ⟨gs,i*5+1,none⟩=some (.int .i64 t.cls)):=ι (λh=>xFz.cell (e:=165) jI h.sl f2 rfl);have HC2:Hid (∀{W},GtM w gs b off c S W->W.cell? ⟨gs,i*5+2,none⟩=some (.int .i64 t.blk)):=ι (λh=>xFz.cell (e:=165) jI h.sl f2 rfl)
   have HC3:Hid (∀{W},GtM w gs b off c S W->W.cell? ⟨gs,i*5+3,none⟩=some (.int .i64 t.size)):=ι (λh=>xFz.cell (e:=165) jI h.sl f2 rfl);have HSE:=ι (λW=>xLm t.cls t.blk W (by have:=hok.blk;have:=xH3 t.cls;omega));have hfl:=xYe hok.blk
   have hcn:countP t.cls=4∨countP t.cls=16:=by unfold countP;split<;>simp
   have hcp:=yCb hok.cls;have hsz:=hok.size;have HRD:Hid (gp=(((S.drop (tQ t.cls t.blk)).take (countP t.cls)).flatten).take t.size):=HG
   have HJL:Hid ((((S.drop (tQ t.cls t.blk)).take (countP t.cls)).flatten).length=64*countP t.cls):=ι (by
    rw[xUk λx hx=>xOw.o.2 x (List.mem_of_mem_drop (List.mem_of_mem_take hx)),List.length_take,List.length_drop,xOw.o.1];omega)
   have HJ:=ι (λW (h:GtM w gs b off c S W)=>xK0 b off (c-tQ t.cls t.blk) S (tQ t.cls t.blk) (countP t.cls) W h.cs h.hb (by rw[xOw.o.1];exact hfl) ω (by have:=HCS.o.2.2;have:=xOw.o.1;omega) xOw.o.2);generalize tQ t.cls t.blk=fi at HSE hfl HRD HJL HJ
   generalize ((S.drop fi).take (countP t.cls)).flatten=jl at HRD HJL HJ;generalize countP t.cls=cn at HSE hfl hcn hcp HJL HJ;obtain⟨tu,tc,tb,ts,tn⟩:=t;simp only at HC1 HC2 HC3 HSE HRD hcp hsz
   have HBD:Hid (fi+cn<=381/\ts<=64*cn/\cn<=16/\1<=cn/\381<=c):=ι ⟨hfl,ω,ω,ω,by have:=HCS.o.2.2;have:=xOw.o.1;omega⟩;clear f1 f2 f3 f4 f5 hok hfl hcn hcp hsz HG;go_upto_region 8 with fail
   refine RG.xH (λW=>Hid (GtM w gs b off c S W)) κ κ (ι HM3.o.drew) ?_;iterate 10 refine RG.dF (λw9 hw9=>have c1:=HC1.o hw9.o;have c2:=HC2.o hw9.o;have c3:=HC3.o hw9.o;And.intro (c1) (And.intro (c2) c3)) ?_
   apply RG.xG
   ·intro w9 hw9;repeat go_step
    refine(HSE.o _).mono ?_;rintro e w10 ⟨rfl,rfl⟩;simp only[];repeat go_step
    exact RG.xB hw9
   ·rfl
   iterate 5 refine RG.dS ?_
   refine RG.xL (λw4 hw4=>?_);clear HM3 HSE;go_upto_region 9 with fail
   have h0:(0:Int)<=(fi:Int):=ω;have h1:(fi:Int)<=(fi:Int)+(cn:Int):=ω;have h2:(fi:Int)+(cn:Int)<=(c:Int):=by have:=HBD.o;omega
   have h3:(fi:Int)<=381/\(cn:Int)<=16:=by have:=HBD.o;omega
   obtain⟨h3,h4⟩:=h3;have hcf:¬(c=fi):=by have:=HBD.o;omega
   refine RG.xH (λW=>Hid (GtM w gs b off c S W)) κ κ (ι hw4.o.drew) ?_;iterate 6 refine RG.dS ?_
   obtain⟨jb,hjb⟩:∃jb:ByteArray,(⟨jl.toArray⟩:ByteArray)=jb:=⟨_,rfl⟩;have hjs:jb.size=jl.length:=by rw[<-hjb];simp[ByteArray.size]
   have HRS:Hid (xK gp=.string (jb.extract 0 ts)):=ι (by
    rw[HRD.o,<-hjb];show Value.string _=Value.string _
    congr 1
    apply ByteArray.ext;rw[ByteArray.data_extract];apply Array.ext';simp)
   rw[show xK jl=.string jb from by rw[<-hjb]] at HJ;have t0:(ts:Int)<=(jb.size:Int):=by have:=HBD.o;have:=HJL.o;omega
   clear hjb HRD HJL h1 h2 h3 h4 h0;apply RG.xG
   ·intro w9 hw9;repeat go_step
    with_reducible refine(HJ.o _ hw9.o).mono ?_
    rintro e w10 ⟨rfl,yP⟩;simp only[];repeat go_step
    refine RG.xB ?_;exact ι (hw9.o.below yP)
   ·rfl
   iterate 8 refine RG.dF (λw9 hw9=>HC3.o hw9.o) ?_
   refine RG.xL (λw5 hw5=>?_);go_wp2;go_ret2;exact⟨by rw[HE.o,HRS.o];rfl,hw5.o.bel⟩
end Go.Proofs.ST
namespace Go.Proofs.SH
open Go.RowKit Mailsack MM BB SV
end Go.Proofs.SH
namespace Go.Proofs.ST
open Go.RowKit Mailsack MM BB SH SV RK DS
theorem xY3:(prog.info? 3).map (λi=>(i.zero,i.size,i.bytes))=some (some (.int .i64 0),1,8):=κ
end Go.Proofs.ST
namespace Mailsack
theorem xY9 (d:Dk) (n:Bs):(yBw d n).length<=1024:=by
 unfold yBw;split
 ·unfold yAt;rw[List.length_take];generalize hs:xGa (zV (zH d).secs) (xEw (zV (zH d).secs) n)=t
  have:t.size<=1024:=by
   have hok:t=noSlot∨xOt t:=by
    rw[<-hs];unfold xGa;rw[List.getD_eq_getElem?_getD];cases hg:(zV (zH d).secs)[(xEw (zV (zH d).secs) n).toNat]? with
    |none=>exact .inl rfl
    |some t=>
     rw[xCn] at hg;split at hg
     ·obtain⟨s,_,rfl⟩:=Option.map_eq_some_iff.1 hg;rcases xV4 s with e|⟨_,h⟩
      ·exact .inl e
      ·exact .inr h
     ·cases hg
   rcases hok with e|h
   ·rw[e];exact Nat.zero_le _
   ·exact Nat.le_trans h.size (xVg _)
  omega
 ·simp
def xFy (box:ByteArray):ByteArray:=box.extract 0 (box.size-16)
def xD8 (box:ByteArray):ByteArray:=box.extract (box.size-16) box.size
def aOk (key xS ad box:ByteArray):Bool:=decide (16<=box.size)&&Go.Proofs.SH.xHk (xDf key xS ad (xFy box)) (xD8 box)
def aTx (key xS ad box:ByteArray):ByteArray:=if aOk key xS ad box=true then bsA (xZv key xS 1 (xFy box)) else⟨#[]⟩
def aE (key xS ad box:ByteArray):Int:=if aOk key xS ad box=true then 0 else 7
theorem xKg {box:ByteArray} (h:16<=box.size):xFy box++xD8 box=box:=by
 unfold xFy xD8;apply ByteArray.ext;rw[ByteArray.data_append,ByteArray.data_extract,ByteArray.data_extract,Array.extract_append_extract];have hs:box.data.size=box.size:=rfl;rw[show min 0 (box.size-16)=0 by omega,show max (box.size-16) box.size=box.data.size by omega];simp
end Mailsack
namespace Go.Proofs.VA
open Go.RowKit Mailsack MM BB SH SV RK DS IX Go.Proofs.ST
theorem xVq (key xS ad box:ByteArray) (w:World) (hk:key.size=32) (hn:xS.size=12) (ha:ad.size<=1000000) (hb:box.size<=1000000):
  Calls prog 82 #[.string key,.string xS,.string ad,.string box] w λe w'=>e=.returned (.tuple #[.string (aTx key xS ad box),.int .i64 (aE key xS ad box)])/\ψ w w':=by
 by_cases h16:16<=box.size
 ·have h1:(xD8 box).size=16:=by unfold xD8;rw[ByteArray.size_extract];omega
  have h2:(xFy box).size<=1000000000:=by unfold xFy;rw[ByteArray.size_extract];omega
  cases hs:xHk (xDf key xS ad (xFy box)) (xD8 box) with
  |true=>
   have ho:aOk key xS ad box=true:=by unfold aOk;rw[hs,decide_eq_true h16];rfl
   have:=xXi key xS ad (xFy box) (xD8 box) w hk hn ω h2 h1 hs;rw[xKg h16] at this;unfold aTx aE;rw[ho,if_pos rfl,if_pos rfl];exact this
  |false=>
   have ho:aOk key xS ad box=false:=by unfold aOk;rw[hs,Bool.and_false]
   have:=yB0 key xS ad (xFy box) (xD8 box) w hk hn ω h2 h1 hs;rw[xKg h16] at this;unfold aTx aE;rw[ho,if_neg σ,if_neg σ];exact this
 ·have ho:aOk key xS ad box=false:=by unfold aOk;rw[decide_eq_false h16,Bool.false_and]
  unfold aTx aE;rw[ho,if_neg σ,if_neg σ];refine(xPs key xS ad box w hk hn ω).mono ?_;rintro e w' ⟨rfl,rfl⟩;exact⟨rfl,Below.refl _ _⟩
end Go.Proofs.VA
namespace Mailsack
def xKa (secret vN:ByteArray):ByteArray:=bsA (xMk secret vN ⟨#[109,97,105,108]⟩ 44)
theorem xCy (a b:ByteArray):(xKa a b).size=44:=by rw[xKa,uS,xV1]
def xWa (secret vN:ByteArray):ByteArray:=(xKa secret vN).extract 0 32
def xW9 (secret vN:ByteArray):ByteArray:=(xKa secret vN).extract 32 44
theorem xV6 (a b:ByteArray):(xWa a b).size=32:=by unfold xWa;rw[ByteArray.size_extract,xCy];rfl
theorem xV5 (a b:ByteArray):(xW9 a b).size=12:=by unfold xW9;rw[ByteArray.size_extract,xCy];rfl
def xX1 (xW box:ByteArray):ByteArray:=aTx (xWa (jK xW (box.extract 0 32)) (box.extract 0 32++uV xW)) (xW9 (jK xW (box.extract 0 32)) (box.extract 0 32++uV xW)) ⟨#[]⟩ (box.extract 32 box.size)
def sopA (xW box:ByteArray):Bool:=aOk (xWa (jK xW (box.extract 0 32)) (box.extract 0 32++uV xW)) (xW9 (jK xW (box.extract 0 32)) (box.extract 0 32++uV xW)) ⟨#[]⟩ (box.extract 32 box.size)
def xP8 (xW box:ByteArray):Int:=if xW.size≠32 then 1 else if box.size<32 then 3 else if sopA xW box=false then 7 else unE (xX1 xW box)
def xSk (xW box:ByteArray):ByteArray:=if xP8 xW box=0 then unT (xX1 xW box) else⟨#[]⟩
theorem yAc {s:ByteArray} (h:unE s≠0):unT s=⟨#[]⟩:=by
 unfold unE at h;unfold unT
 by_cases hk:xS1 s=true
 ·rw[if_pos hk] at h;exact absurd rfl h
 ·rw[if_neg hk]
end Mailsack
namespace Go.Proofs.SE
open Go.RowKit Mailsack MM BB SH SV VA Go.Proofs.FE
structure SeT (w:World):Prop where
 sha:xFg w
 cls:ClsT w
theorem SeT.below {w w':World} {B:Nat} (h:SeT w) (hb:Below B w w') (hB:w.heap.size<=B):SeT w':=⟨h.sha.below hb hB,h.cls.below hb hB⟩
theorem xQp (secret vN:ByteArray) (w:World) (h1:secret.size<=1000000) (h2:vN.size<=1000000) (hT:xFg w):
  Calls prog 81 #[.string secret,.string vN] w λe w'=>e=.returned (.tuple #[.string (xWa secret vN),.string (xW9 secret vN),.int .i64 0])/\ψ w w':=by
 have HD:Hid (Calls prog 163 #[.string secret,.string vN,.string ⟨#[109,97,105,108]⟩,.int .i64 44] w λe w'=>e=.returned (.tuple #[.string (xKa secret vN),.int .i64 0])/\ψ w w'):=ι (xYj secret vN ⟨#[109,97,105,108]⟩ 44 w ω ω δ δ hT);have hz:=xCy secret vN
 have HK:Hid (xWa secret vN=(xKa secret vN).extract 0 32):=ι rfl;have HN:Hid (xW9 secret vN=(xKa secret vN).extract 32 44):=ι rfl;rw[HK.o,HN.o];clear HK HN;generalize xKa secret vN=r at HD hz⊢;clear hT h1 h2;have hzi:(r.size:Int)=44:=ω;go_enter func81,ntmps81
 go_wp2_with fail
 refine HD.o.mono ?_;rintro e w1 ⟨rfl,hb1⟩;have B1:=ι hb1;clear hb1 HD;go_upto_region 4 with fail
 refine RG.xH (λW=>Hid (ψ w W)) κ κ (ι B1.o.drew) ?_;iterate 7 refine RG.dS ?_
 refine RG.xL (λw2 hw2=>?_);have B2:=ι hw2.o;clear hw2 B1;go_wp2;go_ret3;exact⟨rfl,B2.o⟩
theorem xPj (k:ByteArray) (w:World) (hk:k.size≠32):
  Calls prog 79 #[.string k] w λe w'=>e=.returned (.tuple #[.string ⟨#[]⟩,.bool false])/\ψ w w':=by
 have HP:=ι (λW=>xPm k xIj W hk);have HB:=ι (xOp w);clear hk;go_enter func79,ntmps79;go_wp2_with fail
 refine HB.o.mono ?_;rintro e w1 ⟨rfl,hb1⟩;have B1:=ι hb1;clear hb1 HB;go_wp2_with fail
 refine(HP.o _).mono ?_;rintro e w2 ⟨rfl,hb2⟩;have B2:=ι (B1.o.trans (hb2.mono B1.o.size));clear hb2 HP B1;go_wp2;go_ret2;exact⟨rfl,B2.o⟩
theorem xSj (xW box:ByteArray) (w:World) (hb:box.size<=100000) (hT:SeT w):
  Calls prog 32 #[.string xW,.string box] w λe w'=>e=.returned (.tuple #[.string (xSk xW box),.int .i64 (xP8 xW box)])/\ψ w w':=by
 by_cases h1:xW.size≠32
 ·have HE:xP8 xW box=1:=by unfold xP8;rw[if_pos h1]
  have HP:=ι (xPj xW w h1);rw[show xSk xW box=⟨#[]⟩ by unfold xSk;rw[HE,if_neg δ],HE];clear HE h1 hb hT;go_enter func32,ntmps32;go_wp2_with fail
  refine HP.o.mono ?_;rintro e w1 ⟨rfl,hb1⟩;have B1:=ι hb1;clear hb1 HP;go_wp2;go_ret2;exact⟨rfl,B1.o⟩
 ·have h1:xW.size=32:=Classical.not_not.1 h1;have HPU:=ι (xPk xW w h1)
  by_cases h2:box.size<32
  ·have HE:xP8 xW box=3:=by unfold xP8;rw[if_neg ω,if_pos h2]
   rw[show xSk xW box=⟨#[]⟩ by unfold xSk;rw[HE,if_neg δ],HE];have h2i:(box.size:Int)<32:=ω;generalize uV xW=pu at HPU;clear HE h1 h2 hb hT;go_enter func32,ntmps32;go_wp2_with fail
   refine HPU.o.mono ?_;rintro e w1 ⟨rfl,hb1⟩;have B1:=ι hb1;clear hb1 HPU;go_wp2;go_ret2;exact⟨rfl,B1.o⟩
  ·have h2i:¬(box.size:Int)<32:=ω;have h2n:¬(box.size<32):=h2;have hz0:(box.extract 0 32).size=32:=by rw[ByteArray.size_extract];omega
   have hz1:(uV xW).size=32:=xEm _ _;have HT:=ι (λW (hb:ψ w W)=>hT.below hb ν);have HP:=ι (λW=>xJk xW (box.extract 0 32) W h1 hz0)
   have HDE:=ι (λW (hb:ψ w W)=>xQp (jK xW (box.extract 0 32)) (box.extract 0 32++uV xW) W (by rw[xEm];decide) (by rw[ByteArray.size_append];omega) (HT.o W hb).sha)
   have HAO:=ι (λW=>xVq (xWa (jK xW (box.extract 0 32)) (box.extract 0 32++uV xW)) (xW9 (jK xW (box.extract 0 32)) (box.extract 0 32++uV xW)) ⟨#[]⟩ (box.extract 32 box.size) W (xV6 _ _) (xV5 _ _) δ (by rw[ByteArray.size_extract];omega))
   have HE:Hid (xP8 xW box=if sopA xW box=false then 7 else unE (xX1 xW box)):=ι (by unfold xP8;rw[if_neg ω,if_neg h2]);have HS:Hid (xSk xW box=if xP8 xW box=0 then unT (xX1 xW box) else⟨#[]⟩):=ι rfl
   have HXS:(xX1 xW box).size<=1000000:=by
    unfold xX1 aTx;split
    ·rw[uS,xYr];unfold xFy;rw[ByteArray.size_extract,ByteArray.size_extract];omega
    ·decide
   have HUN:=ι (λW (hb:ψ w W)=>xS0 (xX1 xW box) W HXS (HT.o W hb).cls)
   have HAE:Hid (aE (xWa (jK xW (box.extract 0 32)) (box.extract 0 32++uV xW)) (xW9 (jK xW (box.extract 0 32)) (box.extract 0 32++uV xW)) ⟨#[]⟩ (box.extract 32 box.size)=if sopA xW box=true then 0 else 7):=ι rfl
   rw[HAE.o,show aTx (xWa (jK xW (box.extract 0 32)) (box.extract 0 32++uV xW)) (xW9 (jK xW (box.extract 0 32)) (box.extract 0 32++uV xW)) ⟨#[]⟩ (box.extract 32 box.size)=xX1 xW box from rfl] at HAO;clear HAE HXS
   have hn1:¬(9223372036854775807<(box.extract 0 32).size+(uV xW).size):=ω;generalize xP8 xW box=se at HE HS⊢;generalize xSk xW box=st at HS⊢;generalize sopA xW box=sa at HE HAO;generalize xX1 xW box=sx at HE HS HAO HUN
   generalize xWa (jK xW (box.extract 0 32)) (box.extract 0 32++uV xW)=kk at HDE HAO;generalize xW9 (jK xW (box.extract 0 32)) (box.extract 0 32++uV xW)=nn at HDE HAO;generalize jK xW (box.extract 0 32)=sec at HP HDE;generalize uV xW=pu at HPU HDE hn1
   clear h1 h2 hz0 hz1 hb hT HT;go_enter func32,ntmps32;go_wp2_with fail
   refine HPU.o.mono ?_;rintro e w1 ⟨rfl,hb1⟩;have B1:=ι hb1;clear hb1 HPU;go_upto_region 6 with fail
   refine RG.xH (λW=>Hid (ψ w W)) κ κ (ι B1.o.drew) ?_;iterate 6 refine RG.dS ?_
   refine RG.xL (λw2 hw2=>?_);have B2:=ι hw2.o;clear hw2 B1 h2i h2n;go_wp2_with fail
   refine(HP.o _).mono ?_;rintro e w3 ⟨rfl,hb3⟩;have B3:=ι (B2.o.trans (hb3.mono B2.o.size));clear hb3 HP B2;go_wp2_with fail
   refine(HDE.o _ B3.o).mono ?_;rintro e w4 ⟨rfl,hb4⟩;have B4:=ι (B3.o.trans (hb4.mono B3.o.size));clear hb4 HDE B3;go_wp2_with fail
   refine(HAO.o _).mono ?_;rintro e w5 ⟨rfl,hb5⟩;have B5:=ι (B4.o.trans (hb5.mono B4.o.size));clear hb5 HAO B4 hn1;cases sa with
   |false=>
    rw[if_neg σ];rw[if_pos rfl] at HE;have HSS:Hid (st=⟨#[]⟩):=ι (by rw[HS.o,HE.o,if_neg δ]);clear HUN;go_wp2;go_ret2;exact⟨by rw[HSS.o,HE.o];rfl,B5.o⟩
   |true=>
    rw[if_pos rfl];go_wp2_with fail
    refine(HUN.o _ B5.o).mono ?_;rintro e w6 ⟨rfl,hb6⟩;have B6:=ι (B5.o.trans (hb6.mono B5.o.size));clear hb6 HUN B5;rw[if_neg σ] at HE
    have HSS:Hid (st=unT sx):=ι (by
     rw[HS.o,HE.o];split
     ·rfl
     ·rename_i h;exact(yAc h).symm)
    go_wp2;go_ret2;exact⟨by rw[HSS.o,HE.o];rfl,B6.o⟩
end Go.Proofs.SE
namespace Mailsack
def xW7 (kind user:Bs) (n:Int):Bs:=headOf kind user++Go.Lib.itoa n
end Mailsack
namespace Go.Proofs.VA
open Go.RowKit Mailsack MM BB SH SV RK DS Go.Proofs.ST Go.Proofs.SE
structure VaT (w:World):Prop where
 se:SeT w
 tab : ∀ w',ψ w w' → Lib.TabIs prog w' "internal/strconv.uint64pow10" .u64 Lib.pow10Tab
theorem VaT.below {w w':World} (h:VaT w) (hb:ψ w w'):VaT w':=
 ⟨h.se.below hb ν,λw2 h2=>h.tab w2 (hb.trans (h2.mono hb.size))⟩
theorem xJp (k u:ByteArray) (n:Int) (w:World) (hk:k.size<=100) (hu:u.size<=1000000) (hn:-9223372036854775808<=n/\n<=9223372036854775807) (hT:VaT w):
  Calls prog 31 #[.string k,.string u,.int .i64 n] w λe w'=>e=.returned (xK (xW7 k.data.toList u.data.toList n))/\ψ w w':=by
 have HE:Hid (xK (xW7 k.data.toList u.data.toList n)=.string (k++⟨#[47]⟩++u++⟨#[47]⟩++⟨(Lib.itoa n).toArray⟩)):=ι (by
  show Value.string _=Value.string _
  congr 1)
 have HI:=ι (Tryz.strconv_Itoa n hn.1 hn.2 w (hT.tab w (Below.refl _ _)))
 have hd:(⟨(Lib.itoa n).toArray⟩:ByteArray).size<=100:=by
  have:=Lib.itoa_length_le n hn.1 hn.2;show(Lib.itoa n).length<=100;omega
 generalize (⟨(Lib.itoa n).toArray⟩:ByteArray)=ds at HE HI hd;have n1:¬(9223372036854775807<k.size+1):=ω;have s1:(k++⟨#[47]⟩:ByteArray).size=k.size+1:=ByteArray.size_append;have s2:(k++⟨#[47]⟩++u:ByteArray).size=k.size+1+u.size:=by rw[ByteArray.size_append,s1]
 have s3:(k++⟨#[47]⟩++u++⟨#[47]⟩:ByteArray).size=k.size+1+u.size+1:=by rw[ByteArray.size_append,s2];rfl
 have n2:¬(9223372036854775807<(k++⟨#[47]⟩).size+u.size):=by rw[s1];omega
 have n3:¬(9223372036854775807<(k++⟨#[47]⟩++u).size+1):=by rw[s2];omega
 have n4:¬(9223372036854775807<(k++⟨#[47]⟩++u++⟨#[47]⟩).size+ds.size):=by rw[s3];omega
 have n5:¬(9223372036854775807<k.size+1+u.size+1):=ω;have n6:¬(9223372036854775807<k.size+1+u.size):=ω;have n7:¬(9223372036854775807<k.size+1+u.size+1+ds.size):=ω;clear hk hu hT s1 s2 s3 hd hn;go_enter func31,ntmps31;go_wp2_with fail
 refine HI.o.mono ?_;rintro e w1 ⟨rfl,k1,os1,hw1⟩;have B1:=ι (show ψ w w1 by subst hw1;exact Lib.below_grow _ _ ν _ _);clear hw1 HI;go_wp2;go_ret;exact⟨by rw[HE.o];rfl,B1.o⟩
end Go.Proofs.VA
namespace Go.Proofs.VA
open Go.RowKit Go.Lib Mailsack MM BB SH SV RK DS Go.Proofs.ST
abbrev xRa (z:Int):List Value:=[.int .i64 z]
theorem xDq (z:Int):(xRa z).length=1:=rfl
theorem xY1 (x:Int):∀u∈xRa x,u.oneCell'=true:=by
 intro u hu;rw[List.mem_singleton.1 hu];rfl
theorem tyInt:RowT prog 65 3 1 8 xRa:=by
 obtain⟨i,hi,hz,hs,hb⟩:=kP xY3;exact⟨underlying65,⟨i,_,hi,hz,hs,hb,rfl⟩,ω,ω,xDq,xY1⟩
end Go.Proofs.VA
namespace Go.Proofs.VA
open Go.RowKit Mailsack MM BB SH SV RK DS IX Go.Proofs.ST
abbrev sesO (u p o:ByteArray) (ep:Int) (bv sv:Value) (g:Int):Obj:=.cells #[.string u,.string p,.string o,.int .i64 ep,bv,sv,.int .i64 g] 30
abbrev sesV (u p o:ByteArray) (ep:Int) (bv sv:Value) (g:Int):Value:=.agg #[.string u,.string p,.string o,.int .i64 ep,bv,sv,.int .i64 g]
end Go.Proofs.VA
namespace Mailsack
def jR (d:Dk) (u:ByteArray) (n:Int):ByteArray:=bsA (yBw d (xW7 [109] u.data.toList n))
def yB6 (g xW old:ByteArray) (ep:Int):ByteArray:=if yO g 0=ep % 256 then xW else old
def xGk (d:Dk) (u xW old:ByteArray) (ep n:Int):Int:=
 if xZr d (xW7 [109] u.data.toList n)≠0 then 6 else if (jR d u n).size=0 then 3
 else if xP8 (yB6 (jR d u n) xW old ep) ((jR d u n).extract 1 (jR d u n).size)≠0 then 3 else 0
def kN (d:Dk) (u xW old:ByteArray) (ep n:Int):ByteArray:=
 if xGk d u xW old ep n=0 then xSk (yB6 (jR d u n) xW old ep) ((jR d u n).extract 1 (jR d u n).size) else⟨#[]⟩
end Mailsack
namespace Go.Proofs.VA
open Go.RowKit Mailsack MM BB SH SV RK DS Go.Proofs.ST Go.Proofs.SE
theorem xBi (va vb:Value) (d:Dk) (u xW old:ByteArray) (ep gv n:Int) (A3 A4:Option Addr) (n3 k3 n4 k4:Nat) (w:World) (h:RdD w w.heap.size va vb d) (hu:u.size<=1000000) (hn:-9223372036854775808<=n/\n<=9223372036854775807) (hT:VaT w):
  Calls prog 15 #[.agg #[va,vb],sesV u xW old ep (.slice A3 n3 k3) (.slice A4 n4 k4) gv,.int .i64 n] w λe w'=>e=.returned (.tuple #[.string (kN d u xW old ep n),.int .i64 (xGk d u xW old ep n)])/\ψ w w':=by
 obtain⟨A1,c1,A2,c2,rfl,rfl⟩:=vY h;have hba:=(φ w (yQ (.slice A1 d.secs.length c1) (.slice A2 d.cache.length c2))).alloc σ (sesO u xW old ep (.slice A3 n3 k3) (.slice A4 n4 k4) gv)
 have H0:=ι (And.intro (zK w (yQ (.slice A1 d.secs.length c1) (.slice A2 d.cache.length c2)) (sesO u xW old ep (.slice A3 n3 k3) (.slice A4 n4 k4) gv)) (And.intro (zD w (yQ (.slice A1 d.secs.length c1) (.slice A2 d.cache.length c2)) (sesO u xW old ep (.slice A3 n3 k3) (.slice A4 n4 k4) gv)) hba))
 have HNU:=ι (λW (hb:ψ w W)=>xJp ⟨#[109]⟩ u n W δ hu hn (hT.below hb));rw[show(⟨#[109]⟩:ByteArray).data.toList=[109] from rfl] at HNU
 have HGE:=ι (λW (hb:ψ w W)=>yBv (.slice A1 d.secs.length c1) (.slice A2 d.cache.length c2) d (xW7 [109] u.data.toList n) W ((h.below hb ν).more hb.size));have HG:Hid (xK (yBw d (xW7 [109] u.data.toList n))=.string (jR d u n)):=ι rfl;rw[HG.o] at HGE
 have hgl:(jR d u n).size<=100000:=by
  unfold jR;rw[uS];have:=xY9 d (xW7 [109] u.data.toList n);omega
 have HSO:=ι (λW (hb:ψ w W)=>xSj (yB6 (jR d u n) xW old ep) ((jR d u n).extract 1 (jR d u n).size) W (by rw[ByteArray.size_extract];omega) (hT.below hb).se)
 have HE:Hid (xGk d u xW old ep n=if xZr d (xW7 [109] u.data.toList n)≠0 then 6 else if (jR d u n).size=0 then 3 else if xP8 (yB6 (jR d u n) xW old ep) ((jR d u n).extract 1 (jR d u n).size)≠0 then 3 else 0):=ι rfl
 have HX:Hid (kN d u xW old ep n=if xGk d u xW old ep n=0 then xSk (yB6 (jR d u n) xW old ep) ((jR d u n).extract 1 (jR d u n).size) else⟨#[]⟩):=ι rfl;have HK:Hid (yB6 (jR d u n) xW old ep=if yO (jR d u n) 0=ep % 256 then xW else old):=ι rfl;clear HG hba h hT
 generalize xGk d u xW old ep n=me at HE HX⊢;generalize kN d u xW old ep n=mt at HX⊢;generalize yB6 (jR d u n) xW old ep=mk at HE HX HK HSO;generalize xP8 mk ((jR d u n).extract 1 (jR d u n).size)=se at HE HSO;generalize xSk mk ((jR d u n).extract 1 (jR d u n).size)=st at HX HSO
 generalize jR d u n=g at HE HX HK HSO HGE hgl;generalize xZr d (xW7 [109] u.data.toList n)=ge at HE HGE;generalize xW7 [109] u.data.toList n=nb at HGE HNU;go_enter func15,ntmps15;go_upto_region 1 with fail
 obtain⟨w1,hw1⟩:∃w1,(w.alloc (yQ (.slice A1 d.secs.length c1) (.slice A2 d.cache.length c2))).alloc (sesO u xW old ep (.slice A3 n3 k3) (.slice A4 n4 k4) gv)=w1:=⟨_,rfl⟩;rw[hw1] at H0;rw[hw1];clear hw1;refine RG.xH (λW=>Hid (ψ w1 W)) κ κ (ι (Below.refl w1.heap.size w1).drew) ?_
 iterate 4 refine RG.dF (λw9 hw9=>have hd:=xC H0.o.1 hw9.o (xJ H0.o.1);have hs:=xC H0.o.2.1 hw9.o (xJ H0.o.2.1);have s0:=cbl1 hs;And.intro (xFa hd) s0) ?_
 apply RG.xG
 ·intro w9 hw9;repeat go_step
  refine(HNU.o _ (H0.o.2.2.trans (hw9.o.mono H0.o.2.2.size))).mono ?_;rintro e w10 ⟨rfl,yP⟩;simp only[];repeat go_step
  refine RG.xB ?_;exact ι (hw9.o.trans (yP.mono hw9.o.size))
 ·rfl
 apply RG.xG
 ·intro w9 hw9;repeat go_step
  refine(HGE.o _ (H0.o.2.2.trans (hw9.o.mono H0.o.2.2.size))).mono ?_;rintro e w10 ⟨rfl,yP⟩;simp only[];repeat go_step
  refine RG.xB ?_;exact ι (hw9.o.trans (yP.mono hw9.o.size))
 ·rfl
 iterate 5 refine RG.dS ?_
 refine RG.xL (λw2 hw2=>?_);have H2:=ι (And.intro (xC H0.o.2.1 hw2.o (xJ H0.o.2.1)) (H0.o.2.2.trans (hw2.o.mono H0.o.2.2.size)));clear hw2 H0 HNU HGE
 by_cases hge:ge=0
 rotate_left
 ·have g0:(ge==0)=false:=by simpa using hge
  have g1:(ge !=0)=true:=by simpa using hge
  rw[if_pos hge] at HE;have HX2:Hid (mt=⟨#[]⟩):=ι (by rw[HX.o,HE.o,if_neg δ]);have HB:=ι H2.o.2;clear hge HX HSO HK H2;go_wp2;go_ret2;exact⟨by rw[HX2.o,HE.o];rfl,HB.o⟩
 ·rw[if_neg (by simpa using hge)] at HE;subst hge
  by_cases hz:g.size=0
  ·rw[if_pos hz] at HE
   obtain rfl:g=⟨#[]⟩:=by
    apply ByteArray.ext;exact Array.eq_empty_of_size_eq_zero hz
   have HX2:Hid (mt=⟨#[]⟩):=ι (by rw[HX.o,HE.o,if_neg δ]);have HB:=ι H2.o.2;clear HX HSO HK H2 hgl hz;go_wp2;go_ret2;exact⟨by rw[HX2.o,HE.o];rfl,HB.o⟩
  ·have hgz:(g.toList==[])=false:=by
    rw[beq_eq_false_iff_ne,ByteArray.toList_eq];intro e;exact hz (by have:=congrArg List.length e;simpa using this)
   rw[if_neg hz] at HE;have hlt:0<g.size:=ω;have i0:=λw=>zG (P:=prog) underlying9 g 0 0 rfl hlt w;have hl1:¬(g.size<1):=ω;have hs:=H2.o.1;have s1:=xA hs 1;have s2:=xA hs 2;simp only[gA,gB,gC] at s1 s2;clear hs hz;generalize yO g 0=c0 at i0 HK
   go_upto_region 7 with fail
   clear s1 s2;refine RG.xH (λW=>Hid (ψ w2 W)) κ κ (ι (Below.refl w2.heap.size w2).drew) ?_
   iterate 6
    apply RG.xG
    ·intro w9 hw9;have hs:=xC H2.o.1 hw9.o (xJ H2.o.1);have s3:=xA hs 3;simp only[gA,gB,gC] at s3;clear hs;repeat go_step
     exact RG.xB hw9
    ·rfl
   refine RG.xL (λw3 hw3=>?_);have H3:=ι (And.intro (xC H2.o.1 hw3.o (xJ H2.o.1)) (H2.o.2.trans (hw3.o.mono H2.o.2.size)));clear hw3 H2 i0;have hs:=H3.o.1;have s1:=xA hs 1;simp only[gA,gB,gC] at s1;clear hs
   have xZ2:Hid (se≠0->me=3/\mt=⟨#[]⟩):=ι (λh=>by rw[if_pos h] at HE;exact⟨HE.o,by rw[HX.o,HE.o,if_neg δ]⟩);have xR3:Hid (se=0->me=0/\mt=st):=ι (λh=>by rw[if_neg (by simpa using h)] at HE;exact⟨HE.o,by rw[HX.o,HE.o,if_pos rfl]⟩)
   have HOP:Hid (Calls prog 32 #[.string mk,.string (g.extract 1 g.size)] w3 λe w'=>e=.returned (.tuple #[.string st,.int .i64 se])/\ψ w3 w'):=ι (HSO.o w3 H3.o.2);have B3:=ι H3.o.2;clear HE HX HSO H3
   by_cases hk:c0=ep % 256
   ·have hk1:(c0==ep % 256)=true:=by simpa using hk
    rw[if_pos hk] at HK;rw[HK.o] at HOP;clear HK hk;go_wp2_with fail
    refine HOP.o.mono ?_;rintro e w4 ⟨rfl,hb4⟩;have B4:=ι (B3.o.trans (hb4.mono B3.o.size));clear hb4 HOP B3 s1
    by_cases hse:se=0
    ·subst hse;have hq:=xR3.o rfl;have Q1:=ι hq.1;have Q2:=ι hq.2;clear hq xZ2 xR3;go_wp2;go_ret2;exact⟨by rw[Q1.o,Q2.o];rfl,B4.o⟩
    ·have g0:(se==0)=false:=by simpa using hse
     have g1:(se !=0)=true:=by simpa using hse
     have hq:=xZ2.o hse;have Q1:=ι hq.1;have Q2:=ι hq.2;clear hq xZ2 xR3 hse;go_wp2;go_ret2;exact⟨by rw[Q1.o,Q2.o];rfl,B4.o⟩
   ·have hk1:(c0==ep % 256)=false:=by simpa using hk
    rw[if_neg hk] at HK;rw[HK.o] at HOP;clear HK hk;go_wp2_with fail
    refine HOP.o.mono ?_;rintro e w4 ⟨rfl,hb4⟩;have B4:=ι (B3.o.trans (hb4.mono B3.o.size));clear hb4 HOP B3 s1
    by_cases hse:se=0
    ·subst hse;have hq:=xR3.o rfl;have Q1:=ι hq.1;have Q2:=ι hq.2;clear hq xZ2 xR3;go_wp2;go_ret2;exact⟨by rw[Q1.o,Q2.o];rfl,B4.o⟩
    ·have g0:(se==0)=false:=by simpa using hse
     have g1:(se !=0)=true:=by simpa using hse
     have hq:=xZ2.o hse;have Q1:=ι hq.1;have Q2:=ι hq.2;clear hq xZ2 xR3 hse;go_wp2;go_ret2;exact⟨by rw[Q1.o,Q2.o];rfl,B4.o⟩
end Go.Proofs.VA
namespace Go.Proofs.RK
open Go.RowKit MM
end Go.Proofs.RK
namespace Go.Proofs.VA
open Go.RowKit Mailsack MM BB SH SV RK DS IX Go.Proofs.ST Go.Proofs.SE
end Go.Proofs.VA
namespace Mailsack
open Go.Proofs.SH
def w16 (wr:ByteArray):ByteArray:=wr.extract 32 48
end Mailsack
namespace Go.Proofs.IM
open Go.RowKit MM BU Mailsack SV RK DS IX Go.Proofs.VA
theorem xS5 (T:List Tok) (v:Value) (w:World) (h:RdR 2 tkF w w.heap.size v T) (h0:∀t∈T,t.1=0) (hn:T.length<=100) (hp:0<T.length):
  Calls prog 205 #[v,.int .i64 (T.length:Nat)] w λe w'=>∃A9 c9 A c,e=.returned (.tuple #[.slice A9 T.length c9,.slice A 0 c,.bool true])/\zP 9 1 txF w' w.heap.size (.slice A9 T.length c9) (T.map (·.2))/\ψ w w':=by
 have H0:=ι h0;obtain⟨A,c,rfl,hc,h3⟩:=h;obtain⟨g,off,rfl,hg,hcs⟩:=h3 hp;have HC:=ι (And.intro hg hcs);obtain⟨n,hn9⟩:∃n,T.length=n:=⟨_,rfl⟩;have HN:=ι hn9;rw[hn9] at hc hn hp⊢
 have HX:Hid (zP 9 1 txF w w.heap.size (.slice none 0 0) ((T.map (·.2)).take 0)/\ψ w w):=ι ⟨zP.nil _ _,Below.refl _ _⟩;clear h3 hg h0 hn9 hcs;go_enter func205,ntmps205;go_wp2_with fail
 go_loopw [7,18] (λtv iv wr=>∃k:Nat,k<=n/\iv=.int .i64 k/\Hid (zP 9 1 txF wr w.heap.size tv ((T.map (·.2)).take k)/\ψ w wr)) (λ_ iv _=>n- (intOf iv).toNat)
 case atStart=>exact⟨0,Nat.zero_le _,rfl,HX⟩
 case round=>
  obtain⟨k,hk,rfl,HI⟩:=hrel;clear HX
  by_cases hlt:k<n
  ·obtain⟨x,hx⟩:∃x,T[k]?=some x:=⟨_,List.getElem?_eq_getElem (by rw[HN.o];exact hlt)⟩;have hx0:=H0.o x (List.mem_of_getElem? hx);obtain⟨x1,xs⟩:=x;simp only at hx0;subst hx0;have q0:=(HI.o.2.cell (p:=⟨g,off+k*2+0,none⟩) HC.o.1).trans (HC.o.2 k _ hx 0 _ rfl)
   have q1:=(HI.o.2.cell (p:=⟨g,off+k*2+1,none⟩) HC.o.1).trans (HC.o.2 k _ hx 1 _ rfl);rw[Nat.add_zero] at q0;have HS:Hid ((T.map (·.2)).take (k+1)=(T.map (·.2)).take k++[xs]):=ι (by rw[List.take_add_one,List.getElem?_map,hx];rfl)
   have HTL:Hid (((T.map (·.2)).take k).length=k):=ι (by rw[List.length_take,List.length_map,HN.o];omega);have HA:=ι (And.intro (HI.o.1.alloc (.cells #[.int .i64 0,xK xs] 121)) (HI.o.2.alloc HI.o.2.size (.cells #[.int .i64 0,xK xs] 121)))
   have hbx:=xI wr (.cells #[.int .i64 0,xK xs] 121);obtain⟨x0,x1⟩:=xFa hbx;generalize (T.map (·.2)).take k=L at HI HS HTL HA;clear hx hbx HI;go_upto_region 7 with fail
   clear q0 q1;generalize wr.alloc (.cells #[.int .i64 0,xK xs] 121)=w3 at HA x0 x1⊢
   have HAD:Hid (∀v8 w8,xW5 9 1 txF (w3.alloc (.cells #[xK xs] 9)) w8 w.heap.size u7 v8 (L++[xs])->Hid (zP 9 1 txF w8 w.heap.size v8 ((T.map (·.2)).take (k+1))/\ψ w w8)):=ι λv8 w8 h8=>ι ⟨by rw[HS.o];exact h8.own,h8.bel (HA.o.1.alloc _) ν (HA.o.2.alloc HA.o.2.size _) (by have:=HA.o.2.size;simp;omega)⟩
   have hsz:=HA.o.2.size;go_wp2_with (at_builtin;refine kW tyTx rfl _ _ rfl rfl rfl (HA.o.1.alloc _) (RdR.lit (m:=[xs]) xAt _ _ rfl) (by have:=HTL.o;simp;omega) (by simp;omega) ?_;intro v8 w8 h8;have HA8:=HAD.o _ _ h8;clear h8)
   exact⟨⟨k+1,ω,by go_num,HA8⟩,by simp[intOf];omega⟩
  ·obtain rfl:k=n:=ω;have HO:Hid (zP 9 1 txF wr w.heap.size u7 (T.map (·.2))/\ψ w wr):=ι ⟨by have:=HI.o.1;rwa [List.take_of_length_le (by rw[List.length_map,HN.o];exact Nat.le_refl _)] at this,HI.o.2⟩;obtain⟨A9,c9,hu7,_⟩:=HO.o.1.form;rw[List.length_map,HN.o] at hu7;subst hu7
   clear HI hlt hk
   by_cases hcn:c=k
   ·subst hcn;go_upto_region 11 with fail
    refine RG.xH (λW=>Hid (ψ wr W)) κ κ (ι (Below.refl _ _).drew) ?_;iterate 7 refine RG.dS ?_
    refine RG.xL (λw9 hw9=>?_);go_wp2;go_ret3;exact⟨_,_,_,_,rfl,HO.o.1.below hw9.o,HO.o.2.trans (hw9.o.mono HO.o.2.size)⟩
   ·have hlt:k<c:=ω;go_upto_region 11 with fail
    refine RG.xH (λW=>Hid (ψ wr W)) κ κ (ι (Below.refl _ _).drew) ?_;iterate 7 refine RG.dS ?_
    refine RG.xL (λw9 hw9=>?_);go_wp2;go_ret3;exact⟨_,_,_,_,rfl,HO.o.1.below hw9.o,HO.o.2.trans (hw9.o.mono HO.o.2.size)⟩
theorem xVt (T:List Tok) (v:Value) (w:World) (h:RdR 2 tkF w w.heap.size v T) (h0:∀t∈T,t.1=0) (hn:T.length<=100) (hp:0<T.length):
  Calls prog 191 #[v,.int .i64 (T.length:Nat)] w λe w'=>∃A9 c9,e=.returned (.tuple #[.slice A9 T.length c9,.bool true])/\zP 9 1 txF w' w.heap.size (.slice A9 T.length c9) (T.map (·.2))/\ψ w w':=by
 have HT:=ι (xS5 T v w h h0 hn hp);clear h h0 hn hp;go_enter func191,ntmps191;go_wp2_with fail
 refine HT.o.mono ?_;rintro e w1 ⟨A9,c9,A,c,rfl,ho,hb⟩;have HO:=ι (And.intro ho hb);clear ho hb;go_wp2;go_ret2;exact⟨_,_,rfl,HO.o⟩
end Go.Proofs.IM
namespace Mailsack
def xIq (d:Dk) (u xW old:ByteArray) (ep:Int) (L:List uT):Bool:=L.all λm=>decide (xGk d u xW old ep m.object=0)
def xG2 (d:Dk) (u xW old:ByteArray) (ep:Int) (L:List uT):List Bs:=L.map λm=>(kN d u xW old ep m.object).data.toList
end Mailsack
namespace Go.Proofs.IM
open Go.RowKit MM BU Mailsack SV RK DS IX BK Go.Proofs.VA
theorem xL9 (b:Nat) (d0 d1 mv bv sv:Value) (d:Dk) (u xW old:ByteArray) (ep gv:Int) (L:List uT) (w:World) (hb:b<w.heap.size) (c0:w.cell? ⟨b,0,none⟩=some d0) (c1:w.cell? ⟨b,1,none⟩=some d1) (c2:w.cell? ⟨b,2,none⟩=some (.string u)) (c3:w.cell? ⟨b,3,none⟩=some (.string xW)) (c4:w.cell? ⟨b,4,none⟩=some (.string old)) (c5:w.cell? ⟨b,5,none⟩=some (.int .i64 ep)) (c6:w.cell? ⟨b,6,none⟩=some bv) (c7:w.cell? ⟨b,7,none⟩=some sv) (c8:w.cell? ⟨b,8,none⟩=some (.int .i64 gv))
  (hbv:∃A n c,bv=.slice A n c) (hsv:∃A n c,sv=.slice A n c) (hD:RdD w w.heap.size d0 d1 d) (hM:uN w w.heap.size mv L) (hL:L.length<=100000) (ho:∀m∈L,-9223372036854775808<=m.object/\m.object<=9223372036854775807) (hu:u.size<=1000000) (hT:VaT w):
  Calls prog 219 #[xIs b,mv] w λe w'=>∃A n c,e=.returned (.tuple #[.slice A n c,.bool (xIq d u xW old ep L)])/\(xIq d u xW old ep L=true->RdS w' w'.heap.size (.slice A n c) (xG2 d u xW old ep L))/\ψ w w':=by
 obtain⟨A3,n3,k3,rfl⟩:=hbv;obtain⟨A4,n4,k4,rfl⟩:=hsv;obtain⟨A1,k1,A2,k2,rfl,rfl⟩:=vY hD
 have HTX:=ι (λW (hb:ψ w W) n (hn:-9223372036854775808<=n/\n<=9223372036854775807)=>xBi (.slice A1 d.secs.length k1) (.slice A2 d.cache.length k2) d u xW old ep gv n A3 A4 n3 k3 n4 k4 W ((hD.below hb ν).more hb.size) hu hn (hT.below hb));obtain⟨Am,cm,rfl,hcm,hmc⟩:=hM
 have HMC:=ι hmc;have HO:=ι ho;have HC:=ι (And.intro hb (And.intro c0 (And.intro c1 (And.intro c2 (And.intro c3 (And.intro c4 (And.intro c5 (And.intro c6 (And.intro c7 c8)))))))));have HOP:Hid (xIq d u xW old ep L=L.all λm=>decide (xGk d u xW old ep m.object=0)):=ι rfl
 have HTP:Hid (xG2 d u xW old ep L=L.map λm=>(kN d u xW old ep m.object).data.toList):=ι rfl;generalize xIq d u xW old ep L=op at HOP⊢;generalize xG2 d u xW old ep L=tx at HTP⊢
 have HX:Hid (zP 9 1 txF w w.heap.size (.slice none 0 0) ((L.map λm=>(kN d u xW old ep m.object).data.toList).take 0)/\ψ w w):=ι ⟨zP.nil _ _,Below.refl _ _⟩;have HX2:Hid (∀m∈L.take 0,xGk d u xW old ep m.object=0):=ι (λm hm=>by simp at hm)
 clear hb c0 c1 c2 c3 c4 c5 c6 c7 c8 hD hmc ho hu hT hcm;go_enter func219,ntmps219;go_wp2_with fail
 go_loopw [6,13] (λtv iv wr=>∃k:Nat,k<=L.length/\iv=.int .i64 k/\Hid (zP 9 1 txF wr w.heap.size tv ((L.map λm=>(kN d u xW old ep m.object).data.toList).take k)/\ψ w wr)/\Hid (∀m∈L.take k,xGk d u xW old ep m.object=0)) (λ_ iv _=>L.length- (intOf iv).toNat)
 case atStart=>exact⟨0,Nat.zero_le _,rfl,HX,HX2⟩
 case round=>
  obtain⟨k,hk,rfl,HI,HE⟩:=hrel;clear HX HX2
  by_cases hlt:k<L.length
  ·obtain⟨m,hm⟩:∃m,L[k]?=some m:=⟨_,List.getElem?_eq_getElem hlt⟩;obtain⟨g,off,rfl,hg,hcs⟩:=HMC.o ω;obtain⟨e0,e1,e2,e3⟩:=hcs k m hm;have q0:=(HI.o.2.cell (p:=⟨g,off+k*4,none⟩) hg).trans e0;have q1:=(HI.o.2.cell (p:=⟨g,off+k*4+1,none⟩) hg).trans e1
   have q2:=(HI.o.2.cell (p:=⟨g,off+k*4+2,none⟩) hg).trans e2;have q3:=(HI.o.2.cell (p:=⟨g,off+k*4+3,none⟩) hg).trans e3;have HTM:=ι (λW hb=>HTX.o W hb m.object (HO.o m (List.mem_of_getElem? hm)))
   have HS:Hid ((L.map λm=>(kN d u xW old ep m.object).data.toList).take (k+1)=(L.map λm=>(kN d u xW old ep m.object).data.toList).take k++[(kN d u xW old ep m.object).data.toList]):=ι (by rw[List.take_add_one,List.getElem?_map,hm];rfl)
   have HTL:Hid (((L.map λm=>(kN d u xW old ep m.object).data.toList).take k).length=k):=ι (by rw[List.length_take,List.length_map];omega)
   have HE2:Hid (xGk d u xW old ep m.object=0->∀y∈L.take (k+1),xGk d u xW old ep y.object=0):=ι (λh0 y hy=>by
    rw[List.take_add_one,hm] at hy;rcases List.mem_append.1 hy with hy|hy
    ·exact HE.o y hy
    ·simp only[Option.toList_some,List.mem_singleton] at hy;rw[hy];exact h0)
   have HNO:Hid (xGk d u xW old ep m.object≠0->op=false):=ι (λh0=>by
    rw[HOP.o];exact List.all_eq_false.2 ⟨m,List.mem_of_getElem? hm,by simpa using h0⟩)
   have hal:=φ wr (.cells #[.int .i64 m.uid,.int .i64 m.flags,.int .i64 m.object,.int .i64 m.size] 58)
   have HA:=ι (And.intro (HI.o.1.alloc (.cells #[.int .i64 m.uid,.int .i64 m.flags,.int .i64 m.object,.int .i64 m.size] 58)) (And.intro (HI.o.2.trans (hal.mono HI.o.2.size)) (xI wr (.cells #[.int .i64 m.uid,.int .i64 m.flags,.int .i64 m.object,.int .i64 m.size] 58))))
   generalize (L.map λm=>(kN d u xW old ep m.object).data.toList).take k=TK at HI HS HTL HA;generalize kN d u xW old ep m.object=mt at HTM HS;generalize xGk d u xW old ep m.object=me at HTM HE2 HNO;have HG:=ι hg;clear hm hcs e0 e1 e2 e3 HI hal hg;go_upto_region 5 with fail
   clear q0 q1 q2 q3;obtain⟨g9,hg9⟩:∃g,wr.heap.size=g:=⟨_,rfl⟩;obtain⟨w3,hw3⟩:∃w3,wr.alloc (.cells #[.int .i64 m.uid,.int .i64 m.flags,.int .i64 m.object,.int .i64 m.size] 58)=w3:=⟨_,rfl⟩;rw[hw3] at HA⊢;rw[hg9] at HA⊢;clear hw3 hg9
   refine RG.xH (λW=>Hid (ψ w3 W)) κ κ (ι (Below.refl w3.heap.size w3).drew) ?_
   iterate 11
    apply RG.xG
    ·intro w9 hw9;have hB:=HA.o.2.1.trans (hw9.o.mono HA.o.2.1.size);have x0:=(hB.cell (p:=⟨b,0,none⟩) HC.o.1).trans HC.o.2.1;have x1:=(hB.cell (p:=⟨b,1,none⟩) HC.o.1).trans HC.o.2.2.1;have x2:=(hB.cell (p:=⟨b,2,none⟩) HC.o.1).trans HC.o.2.2.2.1
     have x3:=(hB.cell (p:=⟨b,3,none⟩) HC.o.1).trans HC.o.2.2.2.2.1;have x4:=(hB.cell (p:=⟨b,4,none⟩) HC.o.1).trans HC.o.2.2.2.2.2.1;have x5:=(hB.cell (p:=⟨b,5,none⟩) HC.o.1).trans HC.o.2.2.2.2.2.2.1;have x6:=(hB.cell (p:=⟨b,6,none⟩) HC.o.1).trans HC.o.2.2.2.2.2.2.2.1
     have x7:=(hB.cell (p:=⟨b,7,none⟩) HC.o.1).trans HC.o.2.2.2.2.2.2.2.2.1;have x8:=(hB.cell (p:=⟨b,8,none⟩) HC.o.1).trans HC.o.2.2.2.2.2.2.2.2.2;have y2:=xA (xC HA.o.2.2 hw9.o (xJ HA.o.2.2)) 2;simp only[gA,gB,gC] at y2;clear hB;repeat go_step
     exact RG.xB hw9
    ·rfl
   apply RG.xG
   ·intro w9 hw9;repeat go_step
    refine(HTM.o _ (HA.o.2.1.trans (hw9.o.mono HA.o.2.1.size))).mono ?_;rintro e w10 ⟨rfl,yP⟩;simp only[];repeat go_step
    refine RG.xB ?_;exact ι (hw9.o.trans (yP.mono hw9.o.size))
   ·rfl
   iterate 5 refine RG.dS ?_
   refine RG.xL (λw4 hw4=>?_);have H4:=ι (And.intro (HA.o.1.below hw4.o) (HA.o.2.1.trans (hw4.o.mono HA.o.2.1.size)));clear hw4 HA HTM
   by_cases hme:me=0
   case neg=>
    have i1:(me==0)=false:=by simpa using hme
    have hop:=HNO.o hme;subst hop;have HB:=ι H4.o.2;clear H4 HE2 HNO HOP HTP hme;go_wp2;go_ret2;exact⟨_,_,_,rfl,(λh=>by cases h),HB.o⟩
   subst hme;have HEN:=ι (HE2.o (by first|rfl|trivial))
   have HAD:Hid (∀v8 w8,xW5 9 1 txF (w4.alloc (.cells #[.string mt] 9)) w8 w.heap.size u6 v8 (TK++[mt.data.toList])->Hid (zP 9 1 txF w8 w.heap.size v8 ((L.map λm=>(kN d u xW old ep m.object).data.toList).take (k+1))/\ψ w w8)):=ι λv8 w8 h8=>ι ⟨by rw[HS.o];exact h8.own,h8.bel (H4.o.1.alloc _) ν (H4.o.2.alloc H4.o.2.size _) (by have:=H4.o.2.size;simp;omega)⟩
   have hsz:=H4.o.2.size;clear HE2 HNO;go_wp2_with (at_builtin;refine kW tyTx rfl _ _ rfl rfl rfl (H4.o.1.alloc _) (RdR.lit (m:=[mt.data.toList]) xAt _ _ rfl) (by have:=HTL.o;simp;omega) (by simp;omega) ?_;intro v8 w8 h8;have HA8:=HAD.o _ _ h8;clear h8)
   exact⟨⟨k+1,ω,by go_num,HA8,HEN⟩,by simp[intOf];omega⟩
  ·obtain rfl:k=L.length:=ω;rw[List.take_length] at HE
   have hop:op=true:=by
    rw[HOP.o];exact List.all_eq_true.2 (λm hm=>by simpa using HE.o m hm)
   subst hop;have HR:=ι (And.intro (by have:=HI.o.1;rwa [List.take_of_length_le (by rw[List.length_map];exact Nat.le_refl _),<-HTP.o] at this:zP 9 1 txF wr w.heap.size u6 tx) HI.o.2);obtain⟨A9,c9,hu6,_⟩:=HR.o.1.form;subst hu6;clear HI HE hlt hk HOP HTP;go_wp2;go_ret2
   exact⟨_,_,_,rfl,by first|exact xDi (HR.o.1.rd xAt)|exact λ_=>xDi (HR.o.1.rd xAt),HR.o.2⟩
end Go.Proofs.IM
namespace Mailsack
def zZ (c:UInt8):Bs->List Bs
 |[]=>[[]]
 |x::r=>if x=c then[]::zZ c r else match zZ c r with
  |[]=>[[x]]
  |h::t=>(x::h)::t
theorem splitC_ne (c:UInt8):∀l:Bs,zZ c l≠[]
 |[]=>by simp[zZ]
 |x::r=>by
  unfold zZ;split
  ·simp
  ·split<;>simp
theorem xEe {c:UInt8}:∀{l:Bs},c∉l->zZ c l=[l]
 |[],_=>rfl
 |x::r,h=>by
  rw[zZ,if_neg (λe=>h (by rw[e];simp)),xEe (λhr=>h (List.mem_cons_of_mem _ hr))]
theorem xG9 {c:UInt8}:∀{a b:Bs},c∉a->zZ c (a++c::b)=a::zZ c b
 |[],b,_=>by simp[zZ]
 |x::a,b,h=>by
  rw[List.cons_append,zZ,if_neg (λe=>h (by rw[e];simp)),xG9 (λhr=>h (List.mem_cons_of_mem _ hr))]
theorem xG8 (c:UInt8):∀l:Bs,(zZ c l).length<=l.length+1
 |[]=>by simp[zZ]
 |x::r=>by
  have ih:=xG8 c r;unfold zZ;split
  ·simp;omega
  ·split
   ·simp
   ·rename_i h t e;rw[e] at ih;simp at ih⊢;omega
theorem xU4 (l:Bs) (c:UInt8):(Go.Lib.indexByte l c=-1/\c∉l)∨∃i:Nat,Go.Lib.indexByte l c=i/\i<l.length/\c∉l.take i/\l=l.take i++c::l.drop (i+1):=by
 have hge:=Go.Lib.indexByte_ge l c;rcases Int.lt_or_le (Go.Lib.indexByte l c) 0 with h|h
 ·left
  have e:Go.Lib.indexByte l c=-1:=ω;refine⟨e,λhm=>?_⟩;obtain⟨k,hk⟩:=List.mem_iff_getElem?.1 hm;exact Go.Lib.indexByte_none e k hk
 ·right
  obtain⟨i,hi⟩:∃i:Nat,Go.Lib.indexByte l c=i:=⟨_,(Int.toNat_of_nonneg h).symm⟩;obtain⟨h1,h2⟩:=Go.Lib.indexByte_some hi;obtain⟨hlt,hg⟩:=List.getElem?_eq_some_iff.1 h1;refine⟨i,hi,hlt,λhm=>?_,?_⟩
  ·obtain⟨k,hk⟩:=List.mem_iff_getElem?.1 hm;rw[List.getElem?_take] at hk;split at hk
   ·rename_i hki;exact h2 k hki hk
   ·cases hk
  ·rw[<-hg,List.getElem_cons_drop,List.take_append_drop]
def tO (c:UInt8):Bool:=decide (48<=(c.toNat:Int)/\(c.toNat:Int)<=57)
def xAz (n:Int) (c:UInt8):Int:=10*n+((c.toNat:Int)-48)
def xFf (ds:Bs):Int:=ds.foldl xAz 0
theorem xMn {c:UInt8}:tO c=true↔48<=(c.toNat:Int)/\(c.toNat:Int)<=57:=by simp[tO]
theorem xNz {c:UInt8} (h:¬(48<=(c.toNat:Int)/\(c.toNat:Int)<=57)):tO c=false:=by unfold tO;exact decide_eq_false h
theorem xJq (ds:Bs) (c:UInt8):xFf (ds++[c])=10*xFf ds+((c.toNat:Int)-48):=by
 simp[xFf,xAz]
theorem xNh:∀(ds:Bs) (n:Int),0<=n->(∀c∈ds,tO c=true)->0<=ds.foldl xAz n/\ds.foldl xAz n<(n+1)*10^ds.length
 |[],n,hn,_=>by simp;omega
 |c::ds,n,hn,h=>by
  have h2:=xMn.1 (h c σ);have ih:=xNh ds (xAz n c) (by unfold xAz;omega) (λx hx=>h x (by simp[hx]));refine⟨ih.1,Int.lt_of_lt_of_le ih.2 ?_⟩;have e:(n+1)*(10:Int)^(ds.length+1)=((n+1)*10)*10^ds.length:=by rw[Int.pow_succ,Int.mul_comm ((10:Int)^ds.length) 10,Int.mul_assoc]
  rw[List.length_cons,e];exact Int.mul_le_mul_of_nonneg_right (by unfold xAz;omega) (Int.le_of_lt (Int.pow_pos δ))
theorem xGi {ds:Bs} (h:∀c∈ds,tO c=true):0<=xFf ds/\xFf ds<10^ds.length:=by
 have:=xNh ds 0 δ h;simpa[xFf] using this
theorem xEb {l:Bs} {k:Nat} (h:k<l.length):l.take (k+1)=l.take k++[l[k]]:=by
 rw[List.take_succ_eq_append_getElem h]
theorem xOf {l:Bs} {k:Nat} (h:k<l.length) (h0:∀c∈l.take k,tO c=true) (hd:tO l[k]=true):∀c∈l.take (k+1),tO c=true:=by
 intro c hc;rw[xEb h,List.mem_append] at hc;rcases hc with hc|hc
 ·exact h0 c hc
 ·rw[List.mem_singleton.1 hc];exact hd
end Mailsack
namespace Mailsack
def xLx (s:Bs):Int×Bool:=
 if s=[42] then(0,true)
 else if s.length=0∨10<s.length∨s[0]?=some 48∨s.all tO=false∨4294967295<xFf s then(0,false)
 else(xFf s,true)
theorem xTa:xLx [42]=(0,true):=rfl
theorem xEn {s:Bs} (h1:s≠[42]) (h:s.length=0∨10<s.length∨s[0]?=some 48∨s.all tO=false∨4294967295<xFf s):xLx s=(0,false):=by
 unfold xLx;rw[if_neg h1,if_pos h]
theorem xXm {s:Bs} (h1:s≠[42]) (h2:s.length≠0) (h3:s.length<=10) (h4:s[0]?≠some 48) (h5:s.all tO=true) (h6:xFf s<=4294967295):xLx s=(xFf s,true):=by
 unfold xLx;rw[if_neg h1,if_neg];rintro(h|h|h|h|h)
 ·exact h2 h
 ·omega
 ·exact h4 h
 ·rw[h5] at h;cases h
 ·omega
theorem xNi {ds:Bs} (h:∀c∈ds,tO c=true) (hl:ds.length<=10):0<=xFf ds/\xFf ds<10000000000:=by
 have h1:=xGi h;have h2:((10^ds.length:Nat):Int)<=((10^10:Nat):Int):=Int.ofNat_le.2 (Nat.pow_le_pow_right δ hl);have h3:((10^ds.length:Nat):Int)=(10:Int)^ds.length:=by rw[Int.natCast_pow];rfl
 rw[h3] at h2;have h4:((10^10:Nat):Int)=10000000000:=δ;omega
def ends (p:Bs):Bs×Bs:=if 0<=Go.Lib.index p [58] then(p.take (Go.Lib.index p [58]).toNat,p.drop ((Go.Lib.index p [58]).toNat+1)) else(p,p)
def rC (p:Bs):Bool:=(xLx (ends p).1).2&&(xLx (ends p).2).2
def xAw (p:Bs):Int×Int:=((xLx (ends p).1).1,(xLx (ends p).2).1)
def jL (s:Bs):Option (List (Int×Int)):=if (zZ 44 s).all rC=true then some ((zZ 44 s).map xAw) else none
def kT (g x:Int):Int:=if x=0 then g else x
def hasR (n g:Int) (r:Int×Int):Bool:=decide (min (kT g r.1) (kT g r.2)<=n/\n<=max (kT g r.1) (kT g r.2))
def xZq (l:List (Int×Int)) (n g:Int):Bool:=l.any (hasR n g)
end Mailsack
namespace Mailsack
open Go.Lib (index occAt count NoOcc)
def low (c:UInt8):UInt8:=if 65<=c.toNat/\c.toNat<=90 then UInt8.ofNat (c.toNat+32) else c
def hasP (s t:Bs):Bool:=Go.Lib.contains (upP s) (upP t)
end Mailsack
namespace Mailsack
open Go.Lib (index occAt count splitK cut)
def yL:Bs->Bool
 |[]=>false
 |c::_=>c==32||c==9
def qW:Nat->List Bs->List (Bs×Bs)
 |0,_=>[]
 |_+1,[]=>[]
 |n+1,f::r=>if (cut f [58]).2.2=false∨yL f=true then qW n r
  else((cut f [58]).1,Go.Lib.trimS (Go.Lib.join ((cut f [58]).2.1::r.takeWhile yL) []) [32,9])::qW n (r.dropWhile yL)
theorem vE {α:Type} (p:α->Bool) (l:List α):(l.dropWhile p).length<=l.length:=(List.dropWhile_sublist p).length_le
theorem rY:∀(n m:Nat) (l:List Bs),l.length<=n->l.length<=m->qW n l=qW m l
 |0,0,_,_,_=>rfl
 |0,m+1,[],_,_=>rfl
 |n+1,0,[],_,_=>rfl
 |_+1,_+1,[],_,_=>rfl
 |0,_+1,_::_,h,_=>by simp at h
 |_+1,0,_::_,_,h=>by simp at h
 |n+1,m+1,f::r,h1,h2=>by
  have h1':r.length<=n:=by simpa using h1
  have h2':r.length<=m:=by simpa using h2
  have hd:=vE yL r;unfold qW;rw[rY n m r h1' h2',rY n m (r.dropWhile yL) ω ω]
def zI (l:List Bs):List (Bs×Bs):=qW l.length l
theorem pU:zI []=[]:=rfl
theorem kF {f:Bs} {r:List Bs} (h:(cut f [58]).2.2=false∨yL f=true):zI (f::r)=zI r:=by
 show qW (r.length+1) (f::r)=_;unfold qW;rw[if_pos h]
 rfl
theorem kE {f:Bs} {r:List Bs} (h1:(cut f [58]).2.2=true) (h2:yL f=false):
  zI (f::r)=((cut f [58]).1,Go.Lib.trimS (Go.Lib.join ((cut f [58]).2.1::r.takeWhile yL) []) [32,9])::zI (r.dropWhile yL):=by
 show qW (r.length+1) (f::r)=_;unfold qW;rw[if_neg (by rw[h1,h2];simp),rY r.length (r.dropWhile yL).length _ (vE _ _) ν]
 rfl
theorem xB6:∀(n:Nat) (l:List Bs),l.length<=n->(zI l).length<=l.length
 |_,[],_=>Nat.le_refl _
 |0,_::_,h=>by simp at h
 |n+1,f::r,h=>by
  have h':r.length<=n:=by simpa using h
  by_cases hc:(cut f [58]).2.2=false∨yL f=true
  ·rw[kF hc];have:=xB6 n r h';simp;omega
  ·have hc':(cut f [58]).2.2=true/\yL f=false:=by
    constructor
    ·cases hx:(cut f [58]).2.2 with
     |true=>rfl
     |false=>exact absurd (.inl hx) hc
    ·cases hx:yL f with
     |false=>rfl
     |true=>exact absurd (.inr hx) hc
   rw[kE hc'.1 hc'.2];have h2:=vE yL r;have:=xB6 n (r.dropWhile yL) ω;simp;omega
def jC (F:List (Bs×Bs)) (name:Bs):Bs×Bool:=match F.find? (λp=>decide (upP p.1=upP name)) with
 |some p=>(p.2,true)
 |none=>([],false)
theorem xEd {sep:Bs} {save:Nat}:∀(k:Nat) (s:Bs),∀x∈splitK sep save k s,x.length<=s.length
 |0,s,x,hx=>by simp[splitK] at hx;rw[hx];exact Nat.le_refl _
 |k+1,s,x,hx=>by
  unfold splitK at hx;split at hx
  ·simp at hx;rw[hx];exact Nat.le_refl _
  ·rcases List.mem_cons.1 hx with hx|hx
   ·rw[hx,List.length_take];omega
   ·have:=xEd k _ x hx;rw[List.length_drop] at this;omega
theorem xC4 (xs:List Bs):Go.Lib.join xs []=xs.flatten:=by
 unfold Go.Lib.join
 induction xs with
 |nil=>rfl
 |cons x r ih=>
  cases r with
  |nil=>simp[List.intercalate]
  |cons y r=>simp[List.intercalate] at ih⊢;rw[<-ih]
theorem kR (M:Nat):∀(xs:List Bs),(∀x∈xs,x.length<=M)->xs.flatten.length<=xs.length*M
 |[],_=>by simp
 |x::r,h=>by
  have h1:=kR M r (λy hy=>h y (by simp[hy]));have h2:=h x σ;rw[List.flatten_cons,List.length_append,List.length_cons,Nat.succ_mul];omega
theorem xS3 (l cs:Bs):(Go.Lib.trimS l cs).length<=l.length:=by
 unfold Go.Lib.trimS Go.Lib.trimLeftS Go.Lib.trimRightS;refine Nat.le_trans (vE _ _) ?_;rw[List.length_reverse];refine Nat.le_trans (vE _ _) ?_;rw[List.length_reverse];exact Nat.le_refl _
end Mailsack
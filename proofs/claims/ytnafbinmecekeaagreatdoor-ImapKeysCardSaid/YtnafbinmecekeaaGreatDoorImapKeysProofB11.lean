/- Contracts of functions. Conditions: as stated. -/
import Derived.Test.YtnafbinmecekeaaGreatDoorImapKeysProofB10
open Go.Proofs.Tryz
set_option maxHeartbeats 8000000
set_option maxRecDepth 100000
namespace Mailsack
theorem xUd {l:List Slot} {k:Nat} {t:Slot} (h:l[k]?=some t):usedNames (l.take (k+1))=usedNames (l.take k)++(if t.used=true then[t.name] else[]):=by
 unfold usedNames;rw[List.take_add_one,h,List.filter_append,List.map_append];cases hq:t.used with
 |true=>simp[hq]
 |false=>simp[hq]
theorem xP1 (l:List Slot) (k:Nat):(usedNames (l.take k)).length<=k:=by
 unfold usedNames;rw[List.length_map];have h1:=List.length_filter_le (λt:Slot=>t.used) (l.take k);have h2:=List.length_take_le k l;omega
end Mailsack
namespace Go.Proofs.ST
open Go.RowKit Go.Lib Mailsack MM BB SH SV RK DS IX
theorem yE2 (l:List Bs):l.flatMap txF=l.map xR:=by
 induction l with
 |nil=>rfl
 |cons x l ih=>
  rw[List.flatMap_cons,List.map_cons,ih]
  rfl
theorem yD6 {w:World} {base:Nat} {v:Value} {l:List Bs} (h:zI 9 1 txF w base v l):xQy w base v l:=by
 unfold xQy;rw[<-yE2];exact h
structure NmM (w:World) (gl:Nat) (sl:List Slot) (v:Value) (L:List Bs) (W:World):Prop where
 sl:kM 165 qC W gl sl
 own:zI 9 1 txF W w.heap.size v L
 bel:ψ w W
theorem NmM.below {w W W':World} {gl:Nat} {ts:List Slot} {v:Value} {L:List Bs} (h:NmM w gl ts v L W) (hb:ψ W W'):NmM w gl ts v L W':=⟨h.sl.below hb,h.own.below hb,h.bel.trans (hb.mono h.bel.size)⟩
theorem xVw (va vb:Value) (d:Dk) (w:World) (h:RdD w w.heap.size va vb d):
  Calls prog 96 #[.agg #[va,vb]] w λe w'=>∃v,e=.returned v/\RdS w' w'.heap.size v (xAa d)/\ψ w w':=by
 obtain⟨A1,c1,A2,c2,rfl,rfl⟩:=xX h;have HA:=ι (φ w (xW (.slice A1 d.secs.length c1) (.slice A2 d.cache.length c2)));have hD0:=xM w (xW (.slice A1 d.secs.length c1) (.slice A2 d.cache.length c2));obtain⟨d0,d1⟩:=zG hD0;clear hD0
 have HCT:=ι (xAy _ _ d _ ((h.below HA.o ν).more HA.o.size));have HN:Hid (xAa d=if wS d=true then Go.Lib.compact (tH (usedNames (yS (yH d).secs))) else[]):=ι rfl;have HFL:Hid (wS d=true->(yH d).secs.length=381/\∀s∈(yH d).secs,s.length=64):=ι xJy
 have HCP:Hid (∀v W,xQz d v W->wS d=true->RdS W W.heap.size v (yH d).secs):=ι (λv W h=>h);obtain⟨np,hnp⟩:∃np,xAa d=np:=⟨_,rfl⟩;rw[hnp] at HN⊢;clear hnp h;cases hc:wS d with
 |false=>
  rw[hc] at HCT HN;rw[if_neg σ] at HN;clear hc HFL HCP;go_enter func96,ntmps96;go_wp2_with fail
  refine HCT.o.mono ?_;rintro e w1 ⟨v,rfl,_,hb⟩;have HB:=ι (HA.o.trans (hb.mono HA.o.size));clear hb HA HCT d0 d1;go_wp2;go_ret;exact⟨_,rfl,by rw[HN.o];exact⟨none,0,rfl,Nat.le_refl _,λh=>by simp at h⟩,HB.o⟩
 |true=>
  have qI:=ι (HFL.o hc);have xTc:=ι (λv W h=>HCP.o v W h hc);rw[hc] at HCT HN;rw[if_pos rfl] at HN;clear hc HFL HCP;generalize (yH d).secs=S at HN qI xTc;go_enter func96,ntmps96;go_wp2_with fail
  refine HCT.o.mono ?_;rintro e w1 ⟨v,rfl,hct,hb⟩;have HB1:=ι (HA.o.trans (hb.mono HA.o.size));have HSO:=ι (xFq v S w1 (xTc.o v w1 hct) qI.o.1 qI.o.2);obtain⟨A5,c5,rfl,_⟩:=xTc.o v w1 hct;clear hct hb HCT xTc d0 d1 HA;go_wp2_with fail
  refine HSO.o.mono ?_;rintro e w2 ⟨gl,rfl,hgl,hsl,hb2⟩;have HSL:=ι (kP qI.o.1);have H0:Hid (NmM w gl (yS S) (.slice none 0 0) (usedNames ((yS S).take 0)) w2):=ι ⟨hsl,zI.nil _ _,HB1.o.trans (hb2.mono HB1.o.size)⟩;clear hsl hb2 hgl HSO HB1 qI;generalize yS S=sl at HN HSL H0
  go_wp2_with fail
  go_loopw [5,18] (λtv iv wr=>∃k:Nat,k<=32/\iv=.int .i64 k/\Hid (NmM w gl sl tv (usedNames (sl.take k)) wr)) (λ_ iv _=>32- (intOf iv).toNat)
  case atStart=>exact⟨0,Nat.zero_le _,rfl,H0⟩
  case round=>
   obtain⟨k,hk,rfl,HI⟩:=hrel;clear H0
   by_cases hlt:k<32
   ·obtain⟨x,hx⟩:∃x,sl[k]?=some x:=⟨_,List.getElem?_eq_getElem (by have:=HSL.o;omega)⟩;have q0:=HI.o.sl.cell zM (i:=0) hx rfl;have q1:=HI.o.sl.cell zM (i:=1) hx rfl;have q2:=HI.o.sl.cell zM (i:=2) hx rfl;have q3:=HI.o.sl.cell zM (i:=3) hx rfl
    have q4:=HI.o.sl.cell zM (i:=4) hx rfl;rw[Nat.add_zero] at q0;have HS:=ι (xUd hx);have HTL:=ι (xP1 sl k);have HA:=ι (HI.o.below ((Below.refl _ _).alloc ν (wU x)));have hbx:=xM wr (wU x);obtain⟨x0,x1,x2,x3,x4⟩:=xTn hbx;generalize usedNames (sl.take k)=T at HI HS HTL HA
    clear hx hbx HI;go_upto_region 8 with fail
    clear q0 q1 q2 q3 q4;obtain⟨xu,xc,xb,xs,xn⟩:=x;simp only at HS HA x0 x1 x2 x3 x4;generalize wr.alloc (.cells #[.bool xu,.int .i64 xc,.int .i64 xb,.int .i64 xs,xR xn] 165)=w3 at HA x0 x1 x2 x3 x4⊢;cases xu with
    |true=>
     rw[if_pos rfl] at HS;go_upto_region 9 with fail
     have HAD:Hid (∀v8 w8,xKt 9 1 txF (w3.alloc (.cells #[xR xn] 9)) w8 w.heap.size u5 v8 (T++[xn])->Hid (NmM w gl sl v8 (usedNames (sl.take (k+1))) w8)):=ι λv8 w8 h8=>ι (by
      have h9:=xO HA.o.sl.blk (.cells #[xR xn] 9);exact⟨h8.keep h9 (zI.neT (HA.o.own.alloc _) h9 δ),by rw[HS.o];exact h8.own,h8.bel (HA.o.own.alloc _) ν (HA.o.bel.alloc HA.o.bel.size _) (by have:=HA.o.bel.size;simp;omega)⟩)
     have hsz:=HA.o.bel.size;go_wp2_with (at_builtin;refine vL tyTx rfl _ _ rfl rfl rfl (HA.o.own.alloc _) (RdR.lit (m:=[xn]) xFj _ _ rfl) (by have:=HTL.o;simp;omega) (by simp;omega) ?_;intro v8 w8 h8;have HA8:=HAD.o _ _ h8;clear h8)
     exact⟨⟨k+1,ω,by go_num,HA8⟩,by simp[intOf];omega⟩
    |false=>
     rw[if_neg σ,List.append_nil] at HS;have HA9:Hid (NmM w gl sl u5 (usedNames (sl.take (k+1))) w3):=ι (by rw[HS.o];exact HA.o);go_wp2;exact⟨⟨k+1,ω,by go_num,HA9⟩,by simp[intOf];omega⟩
   ·obtain rfl:k=32:=ω;have HE:Hid (usedNames (sl.take 32)=usedNames sl):=ι (by rw[List.take_of_length_le (by rw[HSL.o];omega)]);rw[HE.o] at HI;have HUL:Hid ((usedNames sl).length<=32):=ι (by rw[<-HE.o];exact xP1 sl 32);clear hlt hk HE HSL
    have HSS:=ι (xV0 (yD6 HI.o.own) (by have:=HUL.o;omega));have HBI:=ι HI.o.bel;have HSRT:Hid ((tH (usedNames sl)).length<=32):=ι (by unfold tH;rw[List.length_mergeSort];exact HUL.o);clear HI HUL;generalize usedNames sl=us at HN HSS HSRT;go_wp2_with fail
    refine HSS.o.mono ?_;rintro e w4 ⟨rfl,hb4,hor⟩;have HB4:=ι (HBI.o.trans hb4);clear hb4 HSS HBI;rcases hor with ⟨h1,h2⟩|⟨g,c,h1,h2,h3,h4,h5⟩
    ·subst h1;rw[h2];have HCO:=ι (Tryz.slices_Compact_string_empty none 0 w4);rw[show Go.Lib.compact (tH ([]:List Bs))=[] by simp[tH,Go.Lib.compact,Go.Lib.compactUpTo]] at HN;clear h2;go_wp2_with fail
     refine HCO.o.mono ?_;rintro e w5 ⟨rfl,hw5⟩;rw[hw5];clear hw5 w5;go_wp2;go_ret;exact⟨_,rfl,by rw[HN.o];exact⟨none,0,rfl,Nat.le_refl _,λh=>by simp at h⟩,HB4.o⟩
    ·rw[h1];have HCO:=ι (xMg h5 h3 h4 (by have:=HSRT.o;omega) h2);clear h1 h2 h3 h4 h5;go_wp2_with fail
     refine HCO.o.mono ?_;rintro e w5 ⟨rfl,hr5,hb5⟩;have HR5:=ι (And.intro hr5 (HB4.o.trans hb5));clear hr5 hb5 HCO HB4;go_wp2;go_ret;exact⟨_,rfl,by rw[HN.o];exact HR5.o.1,HR5.o.2⟩
end Go.Proofs.ST
namespace Go.Proofs.SH
open Go.RowKit Mailsack MM BB SV
abbrev uU (xI xE xL:ByteArray) (r:Int):Obj:=.cells #[.string xI,.string xE,.string xL,.int .i64 r] 34
structure AcM (w:World) (u:ByteArray) (a1 a2:Value) (ep:Int) (pb:ByteArray) (a5 a6 a7:Value) (xI xE xL:ByteArray) (r:Int) (W:World):Prop where
 a:W.heap[w.heap.size]?=some (.cells #[.string u,a1,a2,.int .i64 ep,.string pb,a5,a6,a7] 97 (0,0))
 f:W.heap[w.heap.size+1]?=some (uU xI xE xL r)
 o:W.heap[w.heap.size+1+1]?=some (yI zT)
 bel:ψ w W
section
variable {w W W':World} {u pb xI xE xL:ByteArray} {a1 a2 a5 a6 a7:Value} {ep r:Int}
theorem AcM.below (h:AcM w u a1 a2 ep pb a5 a6 a7 xI xE xL r W) (hb:ψ W W'):AcM w u a1 a2 ep pb a5 a6 a7 xI xE xL r W':=
 ⟨xD h.a hb (xH h.a),xD h.f hb (xH h.f),xD h.o hb (xH h.o),h.bel.trans (hb.mono h.bel.size)⟩
theorem AcM.drew (h:AcM w u a1 a2 ep pb a5 a6 a7 xI xE xL r W):AcM w u a1 a2 ep pb a5 a6 a7 xI xE xL r W.drew:=⟨h.a,h.f,h.o,h.bel.drew⟩
theorem AcM.set1 (h:AcM w u a1 a2 ep pb a5 a6 a7 xI xE xL r W) (v:Value):AcM w u v a2 ep pb a5 a6 a7 xI xE xL r (W.setCell ⟨w.heap.size,1,none⟩ v):=
 ⟨by have:=xY h.a 1 v;simpa using this,yC h.f (p:=⟨w.heap.size,1,none⟩) (by show w.heap.size+1≠w.heap.size;omega) _,yC h.o (p:=⟨w.heap.size,1,none⟩) (by show w.heap.size+1+1≠w.heap.size;omega) _,h.bel.setCell (p:=⟨w.heap.size,1,none⟩) ν _⟩
theorem AcM.set2 (h:AcM w u a1 a2 ep pb a5 a6 a7 xI xE xL r W) (v:Value):AcM w u a1 v ep pb a5 a6 a7 xI xE xL r (W.setCell ⟨w.heap.size,2,none⟩ v):=
 ⟨by have:=xY h.a 2 v;simpa using this,yC h.f (p:=⟨w.heap.size,2,none⟩) (by show w.heap.size+1≠w.heap.size;omega) _,yC h.o (p:=⟨w.heap.size,2,none⟩) (by show w.heap.size+1+1≠w.heap.size;omega) _,h.bel.setCell (p:=⟨w.heap.size,2,none⟩) ν _⟩
theorem AcM.set5 (h:AcM w u a1 a2 ep pb a5 a6 a7 xI xE xL r W) (v:Value):AcM w u a1 a2 ep pb v a6 a7 xI xE xL r (W.setCell ⟨w.heap.size,5,none⟩ v):=
 ⟨by have:=xY h.a 5 v;simpa using this,yC h.f (p:=⟨w.heap.size,5,none⟩) (by show w.heap.size+1≠w.heap.size;omega) _,yC h.o (p:=⟨w.heap.size,5,none⟩) (by show w.heap.size+1+1≠w.heap.size;omega) _,h.bel.setCell (p:=⟨w.heap.size,5,none⟩) ν _⟩
theorem AcM.set6 (h:AcM w u a1 a2 ep pb a5 a6 a7 xI xE xL r W) (v:Value):AcM w u a1 a2 ep pb a5 v a7 xI xE xL r (W.setCell ⟨w.heap.size,6,none⟩ v):=
 ⟨by have:=xY h.a 6 v;simpa using this,yC h.f (p:=⟨w.heap.size,6,none⟩) (by show w.heap.size+1≠w.heap.size;omega) _,yC h.o (p:=⟨w.heap.size,6,none⟩) (by show w.heap.size+1+1≠w.heap.size;omega) _,h.bel.setCell (p:=⟨w.heap.size,6,none⟩) ν _⟩
theorem AcM.set7 (h:AcM w u a1 a2 ep pb a5 a6 a7 xI xE xL r W) (v:Value):AcM w u a1 a2 ep pb a5 a6 v xI xE xL r (W.setCell ⟨w.heap.size,7,none⟩ v):=
 ⟨by have:=xY h.a 7 v;simpa using this,yC h.f (p:=⟨w.heap.size,7,none⟩) (by show w.heap.size+1≠w.heap.size;omega) _,yC h.o (p:=⟨w.heap.size,7,none⟩) (by show w.heap.size+1+1≠w.heap.size;omega) _,h.bel.setCell (p:=⟨w.heap.size,7,none⟩) ν _⟩
end
theorem yBk {w:World} {B:Nat} {v:Value} {x:List UInt8} {l:List (List UInt8)} (h:RdS w B v (x::l)):∃b off c,v=.slice (some ⟨b,off,none⟩) (l.length+1) c/\b<B/\w.cell? ⟨b,off,none⟩=some (xR x):=by
 obtain⟨A,c,h1,h2,h3⟩:=h;obtain⟨b,off,rfl,h4,h5⟩:=h3 σ;exact⟨b,off,c,h1,h4,h5 0 x rfl⟩
abbrev yB7 (r:ByteArray):Obj:=.cells #[.string r] 9
structure TkA (w:World) (r:ByteArray) (W:World):Prop where
 o:W.heap[w.heap.size]?=some (yI zT)
 r:W.heap[w.heap.size+1]?=some (yB7 r)
 bel:ψ w W
theorem TkA.next {w W:World} {r:ByteArray} (h:TkA w r W) (r':ByteArray):TkA w r' (W.setCell ⟨w.heap.size+1,0,none⟩ (.string r')):=
 ⟨yC h.o (p:=⟨w.heap.size+1,0,none⟩) (by show w.heap.size≠w.heap.size+1;omega) _,by have:=xY h.r 0 (.string r');simpa using this,h.bel.setCell (p:=⟨w.heap.size+1,0,none⟩) σ _⟩
structure TkB (w:World) (g:Nat) (r:ByteArray) (a:zU) (W:World):Prop where
 o:W.heap[w.heap.size]?=some (yI zT)
 r:W.heap[w.heap.size+1]?=some (yB7 r)
 a:W.heap[g]?=some (yI a)
 bel:ψ w W
 lt:w.heap.size+1<g
theorem TkB.next {w W:World} {g:Nat} {r:ByteArray} {a:zU} (h:TkB w g r a W) (r':ByteArray):TkB w g r' a (W.setCell ⟨w.heap.size+1,0,none⟩ (.string r')):=
 ⟨yC h.o (p:=⟨w.heap.size+1,0,none⟩) (by show w.heap.size≠w.heap.size+1;omega) _,by have:=xY h.r 0 (.string r');simpa using this,yC h.a (p:=⟨w.heap.size+1,0,none⟩) (by show g≠w.heap.size+1;have:=h.lt;omega) _,h.bel.setCell (p:=⟨w.heap.size+1,0,none⟩) σ _,h.lt⟩
theorem TkB.put {w W:World} {g:Nat} {r:ByteArray} {a:zU} (h:TkB w g r a W) (i:Nat) (v:Value) (a':zU) (e:(#[Value.string a.user,.string a.xI,.int .i64 a.rounds,.int .i64 a.vQ,.string a.pub,.string a.xE,.string a.wrapped,.string a.old]:Array Value).setIfInBounds i v=#[.string a'.user,.string a'.xI,.int .i64 a'.rounds,.int .i64 a'.vQ,.string a'.pub,.string a'.xE,.string a'.wrapped,.string a'.old]):TkB w g r a' (W.setCell ⟨g,i,none⟩ v):=
 ⟨yC h.o (p:=⟨g,i,none⟩) (by show w.heap.size≠g;have:=h.lt;omega) _,yC h.r (p:=⟨g,i,none⟩) (by show w.heap.size+1≠g;have:=h.lt;omega) _,by have:=xY h.a i v;rw[e] at this;exact this,h.bel.setCell (p:=⟨g,i,none⟩) (by show w.heap.size<=g;have:=h.lt;omega) _,h.lt⟩
theorem xV9 (s:ByteArray) (w:World) (hs:s.size<=1000000):
  Calls prog 85 #[.string s] w λe w'=>e=.returned (.tuple #[vH (if xAj s=true then xBf s else zT),.int .i64 (if xAj s=true then 0 else 3)])/\ψ w w':=by
 have HO:Hid ((w.alloc (yI zT)).heap[w.heap.size]?=some (yI zT)/\ψ w (w.alloc (yI zT))):=ι ⟨xM _ _,φ w _⟩;have HF:Hid (xAj s=(!decide (s.size=0)&&!decide (s.size<xN5 s+111)&&zR (xBf s))):=ι rfl
 by_cases h0:s.size=0
 ·have e0:xAj s=false:=by rw[HF.o,decide_eq_true h0];rfl
  rw[e0,if_neg σ,if_neg σ];have i6:(s.toList==[])=true:=by rw[ByteArray.toList_eq];simp;exact Array.eq_empty_of_size_eq_zero h0
  clear HF e0 h0 hs;go_enter func85,ntmps85;go_upto_region 2 with fail
  obtain⟨w1,hw1⟩:∃w1,w.alloc (yI zT)=w1:=⟨_,rfl⟩;rw[hw1] at HO;simp only[yI,zT] at hw1;rw[hw1]
  obtain⟨o0,y0,f0,o1,y1,f1,o2,y2,f2,o3,y3,f3,o4,y4,f4,o5,y5,f5,o6,y6,f6,o7,y7,f7,HB⟩:=xKm HO.o.1 HO.o.2 ω (.string ⟨#[]⟩) (.string ⟨#[]⟩) (.int .i64 0) (.int .i64 0) (.string ⟨#[]⟩) (.string ⟨#[]⟩) (.string ⟨#[]⟩) (.string ⟨#[]⟩) _ rfl;clear HO hw1;go_wp2
  refine bodyPost_ret (v:=.tuple #[.agg #[.string ⟨#[]⟩,.string ⟨#[]⟩,.int .i64 0,.int .i64 0,.string ⟨#[]⟩,.string ⟨#[]⟩,.string ⟨#[]⟩,.string ⟨#[]⟩],.int .i64 3]) (by simp[results,results85,go_sem,f0,f1,f2,f3,f4,f5,f6,f7]) rfl ?_;exact⟨rfl,HB.o⟩
 ·have i6:(s.toList==[])=false:=by
   rw[ByteArray.toList_eq];cases hx:(s.data.toList==[]) with
   |false=>rfl
   |true=>
    simp only[beq_iff_eq] at hx;exact absurd (show s.data.size=0 by rw[<-Array.length_toList,hx];rfl) h0
  have ix:=λw=>zL (P:=prog) underlying9 s (0:Int) 0 rfl ω w;obtain⟨b0,b1⟩:=yR s 0;obtain⟨u,hu⟩:∃u:Nat,yQ s 0=(u:Int):=⟨(yQ s 0).toNat,ω⟩;have hun:xN5 s=u:=by unfold xN5;rw[hu];rfl
  rw[hu] at ix b0 b1;have hsz:=wY s 1;have hr0:s.extract 1 s.size=yJ s 1:=rfl
  have HT:Hid (xBf s=⟨uT (yJ s 1) u,uT (yJ (yJ s 1) u) 16,yQ (uT (yJ (yJ (yJ s 1) u) 16) 1) 0,yQ (uT (yJ (yJ (yJ (yJ s 1) u) 16) 1) 1) 0,uT (yJ (yJ (yJ (yJ (yJ s 1) u) 16) 1) 1) 32,
   uT (yJ (yJ (yJ (yJ (yJ (yJ s 1) u) 16) 1) 1) 32) 12,uT (yJ (yJ (yJ (yJ (yJ (yJ (yJ s 1) u) 16) 1) 1) 32) 12) 48,yJ (yJ (yJ (yJ (yJ (yJ (yJ (yJ s 1) u) 16) 1) 1) 32) 12) 48⟩):=ι (by
    unfold xBf yEg;rw[hun])
  have h1s:¬((s.size:Int)<1):=ω;have h1t:(1:Int)<=(s.size:Int):=ω;generalize yJ s 1=r0 at hsz hr0 HT;have HSZ:=ι hsz;have hu0:¬((u:Int)<0):=ω;have huu:u<256:=ω;have hrz:(r0.size:Int)=(s.size:Int)-1:=ω;clear hu hsz
  by_cases hsh:s.size<u+111
  ·have e0:xAj s=false:=by rw[HF.o,hun,decide_eq_true hsh,Bool.not_true,Bool.and_false,Bool.false_and]
   rw[e0,if_neg σ,if_neg σ];have hshi:(r0.size:Int)<(u:Int)+16+2+32+12+48:=ω;clear HF e0 HT hun b0 b1 hsh hrz;go_enter func85,ntmps85;go_upto_region 6 with fail
   have HO2:=ι (show TkA w r0 ((w.alloc (yI zT)).alloc (yB7 r0)) from⟨xO HO.o.1 _,zK _ _ _,HO.o.2.alloc HO.o.2.size _⟩);obtain⟨w1,hw1⟩:∃w1,(w.alloc (yI zT)).alloc (yB7 r0)=w1:=⟨_,rfl⟩;rw[hw1] at HO2;simp only[yI,zT,yB7] at hw1;rw[hw1];clear hw1 HO
   obtain⟨o0,y0,f0,o1,y1,f1,o2,y2,f2,o3,y3,f3,o4,y4,f4,o5,y5,f5,o6,y6,f6,o7,y7,f7,HB⟩:=xKm HO2.o.o HO2.o.bel ω (.string ⟨#[]⟩) (.string ⟨#[]⟩) (.int .i64 0) (.int .i64 0) (.string ⟨#[]⟩) (.string ⟨#[]⟩) (.string ⟨#[]⟩) (.string ⟨#[]⟩) _ rfl;clear HO2;go_wp2
   refine bodyPost_ret (v:=.tuple #[.agg #[.string ⟨#[]⟩,.string ⟨#[]⟩,.int .i64 0,.int .i64 0,.string ⟨#[]⟩,.string ⟨#[]⟩,.string ⟨#[]⟩,.string ⟨#[]⟩],.int .i64 3]) (by simp[results,results85,go_sem,f0,f1,f2,f3,f4,f5,f6,f7]) rfl ?_;exact⟨rfl,HB.o⟩
  ·have hshi:¬((r0.size:Int)<(u:Int)+16+2+32+12+48):=ω;have hrn:u+110<=r0.size:=by have:=HSZ.o;omega
   clear hrz;obtain⟨rv,hrv⟩:∃rv,(if xAj s=true then xBf s else zT)=rv:=⟨_,rfl⟩;obtain⟨re,hre⟩:∃re:Int,(if xAj s=true then(0:Int) else 3)=re:=⟨_,rfl⟩;rw[hrv,hre];have HV:=ι (And.intro hrv hre);clear hrv hre;go_enter func85,ntmps85;go_upto_region 8 with fail
   have HA0:=ι (show TkA w r0 ((w.alloc (yI zT)).alloc (yB7 r0)) from⟨xO HO.o.1 _,zK _ _ _,HO.o.2.alloc HO.o.2.size _⟩);obtain⟨w1,hw1⟩:∃w1,(w.alloc (yI zT)).alloc (yB7 r0)=w1:=⟨_,rfl⟩;rw[hw1] at HA0;simp only[yI,zT,yB7] at hw1;rw[hw1];clear hw1 HO
   have HZ:Hid (u+110<=r0.size/\r0.size<=1000000):=ι ⟨hrn,by have:=HSZ.o;omega⟩;have HSH:=ι hsh;clear hrn hshi h1s h1t i6 ix hr0 hsh HSZ;obtain⟨p0,hp0⟩:∃p,uT r0 u=p:=⟨_,rfl⟩;obtain⟨r1,hr1⟩:∃r,yJ r0 u=r:=⟨_,rfl⟩
   have HN:=ι (xA2 (w.heap.size+1) u r0 _ HA0.o.r (by have:=HZ.o;omega));have HP0:Hid (p0.size=u):=ι (by rw[<-hp0];exact jS _ _ (by have:=HZ.o;omega));have HZ2:Hid (110<=r1.size/\r1.size<=1000000):=ι (by have:=HZ.o;rw[<-hr1,wY];omega);rw[hp0,hr1] at HN;simp only[hp0,hr1] at HT
   clear hp0 hr1 HZ;have HZ:=HZ2;clear HZ2;go_wp2_with fail
   refine HN.o.mono ?_;rintro e wn ⟨rfl,hwn⟩;have HA1:Hid (TkA w r1 wn):=ι (by rw[hwn];exact HA0.o.next r1);clear hwn HA0 HN;obtain⟨p1,hp1⟩:∃p,uT r1 16=p:=⟨_,rfl⟩;obtain⟨r2,hr2⟩:∃r,yJ r1 16=r:=⟨_,rfl⟩;have HN:=ι (xA2 (w.heap.size+1) 16 r1 _ HA1.o.r (by have:=HZ.o;omega))
   have HP1:Hid (p1.size=16):=ι (by rw[<-hp1];exact jS _ _ (by have:=HZ.o;omega));have HZ2:Hid (94<=r2.size/\r2.size<=1000000):=ι (by have:=HZ.o;rw[<-hr2,wY];omega);rw[hp1,hr2] at HN;simp only[hp1,hr2] at HT;clear hp1 hr2 HZ;have HZ:=HZ2;clear HZ2;go_wp2_with fail
   refine HN.o.mono ?_;rintro e wm ⟨rfl,hwn⟩;have HA2:Hid (TkA w r2 wm):=ι (by rw[hwn];exact HA1.o.next r2);clear hwn HA1 HN
   have HB0:=ι (show TkB w wm.heap.size r2 ⟨p0,p1,0,0,⟨#[]⟩,⟨#[]⟩,⟨#[]⟩,⟨#[]⟩⟩ (wm.alloc (yI ⟨p0,p1,0,0,⟨#[]⟩,⟨#[]⟩,⟨#[]⟩,⟨#[]⟩⟩)) from⟨xO HA2.o.o _,xO HA2.o.r _,xM _ _,HA2.o.bel.alloc HA2.o.bel.size _,xH HA2.o.r⟩);go_upto_region 9 with fail
   obtain⟨w3,hw3⟩:∃w3,wm.alloc (yI ⟨p0,p1,0,0,⟨#[]⟩,⟨#[]⟩,⟨#[]⟩,⟨#[]⟩⟩)=w3:=⟨_,rfl⟩;rw[hw3] at HB0;simp only[yI] at hw3;rw[hw3];clear hw3;obtain⟨g,hg⟩:∃g,wm.heap.size=g:=⟨_,rfl⟩;rw[hg] at HB0⊢;clear hg HA2;obtain⟨p2,hp2⟩:∃p,uT r2 1=p:=⟨_,rfl⟩
   obtain⟨r3,hr3⟩:∃r,yJ r2 1=r:=⟨_,rfl⟩;have HN:=ι (xA2 (w.heap.size+1) 1 r2 _ HB0.o.r (by have:=HZ.o;omega));have HP2:Hid (p2.size=1):=ι (by rw[<-hp2];exact jS _ _ (by have:=HZ.o;omega));have HZ2:Hid (93<=r3.size/\r3.size<=1000000):=ι (by have:=HZ.o;rw[<-hr3,wY];omega)
   rw[hp2,hr3] at HN;simp only[hp2,hr3] at HT;clear hp2 hr3 HZ;have HZ:=HZ2;clear HZ2;go_wp2_with fail
   refine HN.o.mono ?_;rintro e wn ⟨rfl,hwn⟩;have HC:Hid (TkB w g r3 ⟨p0,p1,0,0,⟨#[]⟩,⟨#[]⟩,⟨#[]⟩,⟨#[]⟩⟩ wn):=ι (by rw[hwn];exact HB0.o.next r3);clear hwn HB0 HN;have c2:=xA HC.o.a 2;have f2:=xB HC.o.a 2;simp only[gA,gB,gC] at c2
   have ix:=λw=>zL (P:=prog) underlying9 p2 (0:Int) 0 rfl (by have:=HP2.o;omega) w;have hpi:(p2.size:Int)=1:=by have:=HP2.o;omega
   obtain⟨q0,q1⟩:=yR p2 0;generalize yQ p2 0=e2 at ix q0 q1 HT;go_upto_region 10 with fail
   have HB1:=ι (HC.o.put 2 (.int .i64 e2) ⟨p0,p1,e2,0,⟨#[]⟩,⟨#[]⟩,⟨#[]⟩,⟨#[]⟩⟩ rfl);clear c2 f2 HC ix q0 q1 hpi;generalize wn.setCell ⟨g,2,none⟩ (.int .i64 e2)=wk0 at HB1⊢;obtain⟨p3,hp3⟩:∃p,uT r3 1=p:=⟨_,rfl⟩;obtain⟨r4,hr4⟩:∃r,yJ r3 1=r:=⟨_,rfl⟩
   have HN:=ι (xA2 (w.heap.size+1) 1 r3 _ HB1.o.r (by have:=HZ.o;omega));have HP3:Hid (p3.size=1):=ι (by rw[<-hp3];exact jS _ _ (by have:=HZ.o;omega));have HZ2:Hid (92<=r4.size/\r4.size<=1000000):=ι (by have:=HZ.o;rw[<-hr4,wY];omega);rw[hp3,hr4] at HN;simp only[hp3,hr4] at HT
   clear hp3 hr4 HZ;have HZ:=HZ2;clear HZ2;go_wp2_with fail
   refine HN.o.mono ?_;rintro e wn ⟨rfl,hwn⟩;have HC:Hid (TkB w g r4 ⟨p0,p1,e2,0,⟨#[]⟩,⟨#[]⟩,⟨#[]⟩,⟨#[]⟩⟩ wn):=ι (by rw[hwn];exact HB1.o.next r4);clear hwn HB1 HN;have c3:=xA HC.o.a 3;have f3:=xB HC.o.a 3;simp only[gA,gB,gC] at c3
   have ix:=λw=>zL (P:=prog) underlying9 p3 (0:Int) 0 rfl (by have:=HP3.o;omega) w;have hpi:(p3.size:Int)=1:=by have:=HP3.o;omega
   obtain⟨q0,q1⟩:=yR p3 0;generalize yQ p3 0=e3 at ix q0 q1 HT;go_upto_region 11 with fail
   have HB2:=ι (HC.o.put 3 (.int .i64 e3) ⟨p0,p1,e2,e3,⟨#[]⟩,⟨#[]⟩,⟨#[]⟩,⟨#[]⟩⟩ rfl);clear c3 f3 HC ix q0 q1 hpi;generalize wn.setCell ⟨g,3,none⟩ (.int .i64 e3)=wk1 at HB2⊢;obtain⟨p4,hp4⟩:∃p,uT r4 32=p:=⟨_,rfl⟩;obtain⟨r5,hr5⟩:∃r,yJ r4 32=r:=⟨_,rfl⟩
   have HN:=ι (xA2 (w.heap.size+1) 32 r4 _ HB2.o.r (by have:=HZ.o;omega));have HP4:Hid (p4.size=32):=ι (by rw[<-hp4];exact jS _ _ (by have:=HZ.o;omega));have HZ2:Hid (60<=r5.size/\r5.size<=1000000):=ι (by have:=HZ.o;rw[<-hr5,wY];omega);rw[hp4,hr5] at HN;simp only[hp4,hr5] at HT
   clear hp4 hr5 HZ;have HZ:=HZ2;clear HZ2;go_wp2_with fail
   refine HN.o.mono ?_;rintro e wn ⟨rfl,hwn⟩;have HC:Hid (TkB w g r5 ⟨p0,p1,e2,e3,⟨#[]⟩,⟨#[]⟩,⟨#[]⟩,⟨#[]⟩⟩ wn):=ι (by rw[hwn];exact HB2.o.next r5);clear hwn HB2 HN;have c4:=xA HC.o.a 4;have f4:=xB HC.o.a 4;simp only[gA,gB,gC] at c4;go_upto_region 12 with fail
   have HB3:=ι (HC.o.put 4 (.string p4) ⟨p0,p1,e2,e3,p4,⟨#[]⟩,⟨#[]⟩,⟨#[]⟩⟩ rfl);clear c4 f4 HC;generalize wn.setCell ⟨g,4,none⟩ (.string p4)=wk2 at HB3⊢;obtain⟨p5,hp5⟩:∃p,uT r5 12=p:=⟨_,rfl⟩;obtain⟨r6,hr6⟩:∃r,yJ r5 12=r:=⟨_,rfl⟩
   have HN:=ι (xA2 (w.heap.size+1) 12 r5 _ HB3.o.r (by have:=HZ.o;omega));have HP5:Hid (p5.size=12):=ι (by rw[<-hp5];exact jS _ _ (by have:=HZ.o;omega));have HZ2:Hid (48<=r6.size/\r6.size<=1000000):=ι (by have:=HZ.o;rw[<-hr6,wY];omega);rw[hp5,hr6] at HN;simp only[hp5,hr6] at HT
   clear hp5 hr6 HZ;have HZ:=HZ2;clear HZ2;go_wp2_with fail
   refine HN.o.mono ?_;rintro e wn ⟨rfl,hwn⟩;have HC:Hid (TkB w g r6 ⟨p0,p1,e2,e3,p4,⟨#[]⟩,⟨#[]⟩,⟨#[]⟩⟩ wn):=ι (by rw[hwn];exact HB3.o.next r6);clear hwn HB3 HN;have c5:=xA HC.o.a 5;have f5:=xB HC.o.a 5;simp only[gA,gB,gC] at c5;go_upto_region 13 with fail
   have HB4:=ι (HC.o.put 5 (.string p5) ⟨p0,p1,e2,e3,p4,p5,⟨#[]⟩,⟨#[]⟩⟩ rfl);clear c5 f5 HC;generalize wn.setCell ⟨g,5,none⟩ (.string p5)=wk3 at HB4⊢;obtain⟨p6,hp6⟩:∃p,uT r6 48=p:=⟨_,rfl⟩;obtain⟨r7,hr7⟩:∃r,yJ r6 48=r:=⟨_,rfl⟩
   have HN:=ι (xA2 (w.heap.size+1) 48 r6 _ HB4.o.r (by have:=HZ.o;omega));have HP6:Hid (p6.size=48):=ι (by rw[<-hp6];exact jS _ _ (by have:=HZ.o;omega));have HZ2:Hid (0<=r7.size/\r7.size<=1000000):=ι (by have:=HZ.o;rw[<-hr7,wY];omega);rw[hp6,hr7] at HN;simp only[hp6,hr7] at HT
   clear hp6 hr7 HZ;have HZ:=HZ2;clear HZ2;go_wp2_with fail
   refine HN.o.mono ?_;rintro e wn ⟨rfl,hwn⟩;have HC:Hid (TkB w g r7 ⟨p0,p1,e2,e3,p4,p5,⟨#[]⟩,⟨#[]⟩⟩ wn):=ι (by rw[hwn];exact HB4.o.next r7);clear hwn HB4 HN;have c6:=xA HC.o.a 6;have f6:=xB HC.o.a 6;simp only[gA,gB,gC] at c6;go_upto_region 14 with fail
   have HB5:=ι (HC.o.put 6 (.string p6) ⟨p0,p1,e2,e3,p4,p5,p6,⟨#[]⟩⟩ rfl);clear c6 f6 HC;generalize wn.setCell ⟨g,6,none⟩ (.string p6)=wk4 at HB5⊢;have c7:=xA HB5.o.a 7;have f7:=xB HB5.o.a 7;have cr:=xA HB5.o.r 0;simp only[gA,gB,gC] at c7 cr;go_upto_region 15 with fail
   have HB6:=ι (HB5.o.put 7 (.string r7) ⟨p0,p1,e2,e3,p4,p5,p6,r7⟩ rfl);clear c7 f7 cr HB5;generalize wk4.setCell ⟨g,7,none⟩ (.string r7)=w9 at HB6⊢;have HR:=ι (λW=>xDp ⟨p0,p1,e2,e3,p4,p5,p6,r7⟩ W (by have:=HP0.o;simp only;omega));rw[<-HT.o] at HR
   obtain⟨c0,c1,c2,c3,c4,c5,c6,c7⟩:=xH1 HB6.o.a;rw[hun,decide_eq_false h0,decide_eq_false HSH.o,Bool.not_false,Bool.true_and,Bool.true_and] at HF;rw[HF.o] at HV;clear HF hun h0 HSH;cases hra:zR (xBf s) with
   |false=>
    rw[hra] at HR;rw[hra,if_neg σ,if_neg σ] at HV;simp only[HT.o,vH] at HR;clear hra HT;go_wp2_with fail
    refine(HR.o _).mono ?_;rintro e wz ⟨rfl,hbz⟩;have hoz:=xD HB6.o.o hbz (xH HB6.o.o);have hbb:=HB6.o.bel.trans (hbz.mono HB6.o.bel.size)
    obtain⟨o0,y0,f0,o1,y1,f1,o2,y2,f2,o3,y3,f3,o4,y4,f4,o5,y5,f5,o6,y6,f6,o7,y7,f7,HB⟩:=xKm hoz hbb ω (.string ⟨#[]⟩) (.string ⟨#[]⟩) (.int .i64 0) (.int .i64 0) (.string ⟨#[]⟩) (.string ⟨#[]⟩) (.string ⟨#[]⟩) (.string ⟨#[]⟩) _ rfl
    clear hoz hbb hbz HB6 HR c0 c1 c2 c3 c4 c5 c6 c7;go_wp2
    refine bodyPost_ret (v:=.tuple #[.agg #[.string ⟨#[]⟩,.string ⟨#[]⟩,.int .i64 0,.int .i64 0,.string ⟨#[]⟩,.string ⟨#[]⟩,.string ⟨#[]⟩,.string ⟨#[]⟩],.int .i64 3]) (by simp[results,results85,go_sem,f0,f1,f2,f3,f4,f5,f6,f7]) rfl ?_
    exact⟨by rw[<-HV.o.1,<-HV.o.2];rfl,HB.o⟩
   |true=>
    rw[hra] at HR;rw[hra,if_pos rfl,if_pos rfl,HT.o] at HV;simp only[HT.o,vH] at HR;clear hra HT;go_wp2_with fail
    clear c0 c1 c2 c3 c4 c5 c6 c7;refine(HR.o _).mono ?_;rintro e wz ⟨rfl,hbz⟩;have hoz:=xD HB6.o.o hbz (xH HB6.o.o);have haz:=xD HB6.o.a hbz (xH HB6.o.a);have hbb:=HB6.o.bel.trans (hbz.mono HB6.o.bel.size);obtain⟨c0,c1,c2,c3,c4,c5,c6,c7⟩:=xH1 haz
    obtain⟨o0,y0,f0,o1,y1,f1,o2,y2,f2,o3,y3,f3,o4,y4,f4,o5,y5,f5,o6,y6,f6,o7,y7,f7,HB⟩:=xKm hoz hbb ω (.string p0) (.string p1) (.int .i64 e2) (.int .i64 e3) (.string p4) (.string p5) (.string p6) (.string r7) _ rfl;clear hoz haz hbb hbz HB6 HR;go_wp2
    refine bodyPost_ret (v:=.tuple #[.agg #[.string p0,.string p1,.int .i64 e2,.int .i64 e3,.string p4,.string p5,.string p6,.string r7],.int .i64 0]) (by simp[results,results85,go_sem,f0,f1,f2,f3,f4,f5,f6,f7]) rfl ?_;exact⟨by rw[<-HV.o.1,<-HV.o.2],HB.o⟩
end Go.Proofs.SH
namespace Mailsack
theorem xI7 (l:Bs) (c:UInt8):numOf (l++[c])=10*numOf l+(c.toNat-48):=by unfold numOf;rw[List.foldl_append];rfl
theorem xPm:∀(n:Nat) (l:Bs),l.length=n->(∀c∈l,xG7 c=true)->numOf l<10^n
 |0,l,h,_=>by
  have:l=[]:=List.eq_nil_of_length_eq_zero h;subst this;simp[numOf]
 |n+1,l,h,hd=>by
  obtain⟨m,c,rfl⟩:∃m c,l=m++[c]:=⟨l.dropLast,l.getLast (by intro e;rw[e] at h;simp at h),(List.dropLast_concat_getLast _).symm⟩;have ih:=xPm n m (by simpa using h) λx hx=>hd x (List.mem_append_left _ hx);have hc:=hd c (List.mem_append_right _ (List.mem_singleton.2 rfl))
  unfold xG7 at hc;simp at hc;rw[xI7,Nat.pow_succ];omega
end Mailsack
namespace Go.Proofs.VA
open Go.RowKit Mailsack MM BB SH SV RK DS Go.Proofs.ST
theorem pK (k u:ByteArray) (w:World) (hk:k.size<=100) (hu:u.size<=1000000):Calls prog 84 #[.string k,.string u] w λe w'=>e=.returned (xR (xNw k.data.toList u.data.toList))/\w'=w:=by
 have HE:Hid (xR (xNw k.data.toList u.data.toList)=.string (k++⟨#[47]⟩++u)):=ι (by
  show Value.string _=Value.string _
  congr 1)
 have n1:¬(9223372036854775807<k.size+1):=ω;have n2:¬(9223372036854775807<(k++⟨#[47]⟩).size+u.size):=by rw[ByteArray.size_append];show ¬(_<k.size+1+u.size);omega
 clear hk hu;go_enter func84,ntmps84;go_wp2;go_ret;exact⟨by rw[HE.o];rfl,rfl⟩
def yBx (s:Bs) (w:World) (e:Ending) (w':World):Prop:=∃z,e=.returned (.tuple #[.int .i64 z,.bool (kT s)])/\(kT s=true->z=(numOf s:Int))/\w'=w
theorem xVi (s:Bs) (w:World) (hl:s.length<=1000000):Calls prog 98 #[xR s] w (yBx s w):=by
 have HP:Hid (kT s=(decide (1<=s.length)&&decide (s.length<=10)&&(s.getD 0 0 !=48)&&s.all xG7&&decide (numOf s<=4294967295))):=ι rfl
 have HQ:Hid (∀z b,kT s=b->(b=true->z=(numOf s:Int))->yBx s w (.returned (.tuple #[.int .i64 z,.bool b])) w):=ι (λz b h1 h2=>⟨z,by rw[h1],λh=>h2 (by rw[<-h1];exact h),rfl⟩)
 by_cases h0:s=[]
 ·subst h0;have HF:Hid (kT []=false):=ι rfl;go_enter func98,ntmps98;go_wp2;go_ret2;exact HQ.o 0 false HF.o (λh=>(by cases h))
 ·have hl0:1<=s.length:=by
   rcases s with _|⟨x,s⟩
   ·exact absurd rfl h0
   ·simp
  have e0:(s==[])=false:=by simpa using h0
  by_cases h10:10<s.length
  ·have i10:10<(s.length:Int):=ω;have HF:Hid (kT s=false):=ι (by rw[HP.o];simp;omega);clear h10;go_enter func98,ntmps98;go_wp2;go_ret2;exact HQ.o 0 false HF.o (λh=>(by cases h))
  ·have i10:¬(10<(s.length:Int)):=ω;have ix0:=λw=>zL (P:=prog) underlying9 ⟨s.toArray⟩ (0:Int) 0 rfl (by show 0<s.toArray.size;simp;omega) w;rw[xQt] at ix0;rw[show(⟨s.toArray⟩:ByteArray).data.toList=s from rfl] at ix0;have HB0:Hid (bN s 0=(s.getD 0 0).toNat):=ι rfl
   generalize bN s 0=b0 at ix0 HB0
   by_cases hz:b0=48
   ·have HF:Hid (kT s=false):=ι (by
     have e:s.getD 0 0=48:=by apply UInt8.toNat_inj.1;rw[<-HB0.o,hz];rfl
     rw[HP.o,e];simp)
    have z1:(b0:Int)=48:=ω;have z2:((b0:Int)==48)=true:=by simpa using z1
    clear hz;go_enter func98,ntmps98;go_wp2;go_ret2;exact HQ.o 0 false HF.o (λh=>(by cases h))
   ·have z1:¬((b0:Int)=48):=ω;have z2:((b0:Int)==48)=false:=by simpa using z1
    have HZ:Hid ((s.getD 0 0 !=48)=true):=ι (by
     simp only[bne_iff_ne,ne_eq];intro e;apply hz;rw[HB0.o,e];rfl)
    have HL:Hid (1<=s.length/\s.length<=10):=ι ⟨hl0,ω⟩;clear hz;go_enter func98,ntmps98;go_wp2_with fail
    clear ix0 z1 z2
    go_loopw [4,20] (λnv iv wr=>∃k:Nat,k<=s.length/\iv=.int .i64 k/\nv=.int .i64 (numOf (s.take k):Nat)/\wr=w/\Hid (∀c∈s.take k,xG7 c=true)) (λ_ iv _=>s.length- (intOf iv).toNat)
    case atStart=>exact⟨0,Nat.zero_le _,rfl,rfl,rfl,ι σ⟩
    case round=>
     obtain⟨k,hk,rfl,rfl,rfl,HD⟩:=hrel;have hnb:=xPm k (s.take k) (by rw[List.length_take];omega) HD.o;have hpw:10^k<=10^10:=Nat.pow_le_pow_right ω ω;have HN:Hid (numOf (s.take k)<10^10):=ι ω
     by_cases hlt:k<s.length
     ·obtain⟨x,hx⟩:∃x,s[k]?=some x:=⟨_,List.getElem?_eq_getElem hlt⟩;have ixk:=λw=>zL (P:=prog) underlying9 ⟨s.toArray⟩ (k:Int) k rfl (by show k<s.toArray.size;simpa using hlt) w
      have hby:yQ ⟨s.toArray⟩ k=(x.toNat:Int):=by
       unfold yQ;show((s.getD k 0).toNat:Int)=_;rw[List.getD_eq_getElem?_getD,hx];rfl
      rw[hby] at ixk;have HTK:Hid (s.take (k+1)=s.take k++[x]):=ι (by rw[List.take_add_one,hx];rfl);have HXM:=ι (List.mem_of_getElem? hx);have hx256:=UInt8.toNat_lt x;have hnn:numOf (s.take k)<10000000000:=by have:=HN.o;omega
      have HSN:=ι (xI7 (s.take k) x);generalize numOf (s.take k)=m at hnn HSN
      by_cases hd:xG7 x=true
      ·have hd2:=hd;unfold xG7 at hd2;simp only[Bool.and_eq_true,decide_eq_true_eq] at hd2;obtain⟨d1,d2⟩:=hd2;have g1:¬((x.toNat:Int)<48):=ω;have g2:¬(57<(x.toNat:Int)):=ω;have g3:(0:Int)<=(x.toNat:Int)-48:=ω;have g4:(x.toNat:Int)-48<=9:=ω
       have HD2:Hid (∀c∈s.take (k+1),xG7 c=true):=ι (by
        intro c hc;rw[HTK.o] at hc;rcases List.mem_append.1 hc with hc|hc
        ·exact HD.o c hc
        ·rw[List.mem_singleton.1 hc];exact hd)
       have HNV:Hid ((numOf (s.take (k+1)):Int)=10*(m:Int)+((x.toNat:Int)-48)):=ι (by rw[HTK.o,HSN.o];omega);clear hx hby hd hnb hpw d1 d2 HD;go_wp2;exact⟨⟨k+1,ω,by go_num,by rw[HNV.o],trivial,HD2⟩,by simp[intOf];omega⟩
      ·have HF:Hid (kT s=false):=ι (by
        have:s.all xG7=false:=List.all_eq_false.2 ⟨x,HXM.o,hd⟩;rw[HP.o,this];simp)
       unfold xG7 at hd;simp only[Bool.and_eq_true,decide_eq_true_eq] at hd
       by_cases d1:x.toNat<48
       ·have g1:(x.toNat:Int)<48:=ω;clear hx hby hd hnb hpw d1 HD;go_wp2;go_ret2;exact HQ.o 0 false HF.o (λh=>(by cases h))
       ·have g1:¬((x.toNat:Int)<48):=ω;have g2:57<(x.toNat:Int):=ω;clear hx hby hd hnb hpw d1 HD;go_wp2;go_ret2;exact HQ.o 0 false HF.o (λh=>(by cases h))
     ·obtain rfl:k=s.length:=ω;have HT:Hid (s.take s.length=s):=ι List.take_length;rw[HT.o];rw[HT.o] at HN HD;have HA:Hid (s.all xG7=true):=ι (List.all_eq_true.2 HD.o);have hnn:numOf s<10000000000:=by have:=HN.o;omega
      have HPE:Hid (kT s=decide (numOf s<=4294967295)):=ι (by rw[HP.o,HZ.o,HA.o,decide_eq_true HL.o.1,decide_eq_true HL.o.2];simp);obtain⟨m,hm⟩:∃m,numOf s=m:=⟨_,rfl⟩;have HM:=ι hm;rw[hm] at HPE hnn⊢;clear hnb hpw hm HN HT
      by_cases hg:m<=4294967295
      ·have gi:(m:Int)<=4294967295:=ω;rw[decide_eq_true hg] at HPE;clear hg;go_wp2;go_ret2;exact HQ.o _ true HPE.o (λ_=>by rw[HM.o])
      ·have gi:¬((m:Int)<=4294967295):=ω;rw[decide_eq_false hg] at HPE;clear hg;go_wp2;go_ret2;exact HQ.o _ false HPE.o (λh=>(by cases h))
end Go.Proofs.VA
namespace Mailsack
def xAk (h:List Nat) (i j:Nat):List Nat:=(h.set i (h.getD j 0)).set j (h.getD i 0)
theorem xCf (h:List Nat) (i j:Nat):(xAk h i j).length=h.length:=by simp[xAk]
end Mailsack
namespace Go.Proofs.AL
open Go.RowKit Mailsack MM SV
def xMu (l:List Nat):List Value:=l.map λ(x:Nat)=>Value.int .i64 (x:Int)
def vJ (W:World) (g:Nat) (h:List Nat) (rest:List Value):Prop:=W.heap[g]?=some (.cells (xMu h++rest).toArray 3 (0,0))
theorem vJ.blk {W:World} {g:Nat} {h:List Nat} {rest:List Value} (hr:vJ W g h rest):W.heap[g]?=some (.cells (xMu h++rest).toArray 3 (0,0)):=hr
theorem vJ.cell {W:World} {g:Nat} {h:List Nat} {rest:List Value} (hr:vJ W g h rest) {i:Nat} (hi:i<h.length):W.cell? ⟨g,i,none⟩=some (.int .i64 ((h.getD i 0:Nat):Int)):=by
 rw[xA hr.blk,List.getElem?_toArray,List.getElem?_append_left (by simp[xMu];exact hi)];simp[xMu,hi]
theorem vJ.free {W:World} {g:Nat} {h:List Nat} {rest:List Value} (hr:vJ W g h rest) (i:Nat):W.frozen? ⟨g,i,none⟩=false:=xB hr.blk i
theorem vJ.put {W:World} {g:Nat} {h:List Nat} {rest:List Value} (hr:vJ W g h rest) {i:Nat} (hi:i<h.length) (x:Nat):vJ (W.setCell ⟨g,i,none⟩ (.int .i64 (x:Int))) g (h.set i x) rest:=by
 have:=xY hr.blk i (.int .i64 (x:Int));unfold vJ;rw[this]
 congr 2
 rw[List.setIfInBounds_toArray,List.set_append_left _ _ (by simp[xMu];exact hi)];simp[xMu,List.map_set]
theorem vJ.below {W W':World} {g:Nat} {h:List Nat} {rest:List Value} (hr:vJ W g h rest) (hb:ψ W W'):vJ W' g h rest:=xD hr.blk hb (xH hr.blk)
theorem vJ.drew {W:World} {g:Nat} {h:List Nat} {rest:List Value} (hr:vJ W g h rest):vJ W.drew g h rest:=hr
theorem vJ.far {W:World} {g:Nat} {h:List Nat} {rest:List Value} (hr:vJ W g h rest) {p:Addr} (hp:g≠p.block) (u:Value):vJ (W.setCell p u) g h rest:=yC hr.blk hp u
theorem xO3 (A:Option Addr) (n c:Nat) (w:World):
  Calls prog 455 #[.slice A n c] w λe w'=>e=.returned (.int .i64 n)/\w'=w:=by
 go_enter func455,ntmps455;go_wp2;go_ret;exact⟨rfl,rfl⟩
theorem xZv (g n c:Nat) (h:List Nat) (rest:List Value) (i j:Nat) (w:World) (hr:vJ w g h rest) (hn:n<=h.length) (hi:i<n) (hj:j<n):
  Calls prog 456 #[.slice (some ⟨g,0,none⟩) n c,.int .i64 i,.int .i64 j] w λe w'=>e=.returned (.bool (decide (h.getD i 0<h.getD j 0)))/\ψ w w':=by
 have c0:=hr.cell (i:=i) ω;have c1:=hr.cell (i:=j) ω;generalize h.getD i 0=x at c0⊢;generalize h.getD j 0=y at c1⊢;have hii:(i:Int)<(n:Int):=ω;have hjj:(j:Int)<(n:Int):=ω;clear hr hn hi hj;go_enter func456,ntmps456;go_upto_region 1 with fail
 refine RG.xQ (λW=>Hid (ψ w W/\W.cell? ⟨g,i,none⟩=some (.int .i64 (x:Int))/\W.cell? ⟨g,j,none⟩=some (.int .i64 (y:Int)))) κ κ (ι ⟨(Below.refl w.heap.size w).drew,c0,c1⟩) ?_;clear c0 c1;iterate 3 refine RG.dS ?_
 refine RG.dF (λw9 hw9=>hw9.o.2.1) ?_;iterate 3 refine RG.dS ?_
 refine RG.dF (λw9 hw9=>hw9.o.2.2) ?_;iterate 2 refine RG.dS ?_
 refine RG.xS (λw1 hw1=>?_);go_wp2;go_ret;exact⟨rfl,hw1.o.1⟩
theorem xYw (g n c:Nat) (h:List Nat) (rest:List Value) (i j:Nat) (w:World) (hr:vJ w g h rest) (hn:n<=h.length) (hi:i<n) (hj:j<n):
  Calls prog 457 #[.slice (some ⟨g,0,none⟩) n c,.int .i64 i,.int .i64 j] w λe w'=>e=.returned (.tuple #[])/\vJ w' g (xAk h i j) rest/\Tn (λk=>k=g) w w':=by
 have HS:Hid (xAk h i j=(h.set i (h.getD j 0)).set j (h.getD i 0)):=ι rfl;have hih:i<h.length:=ω;have hjh:j<h.length:=ω;have HIH:=ι (And.intro hih hjh);obtain⟨x,hx⟩:∃x,h.getD i 0=x:=⟨_,rfl⟩;obtain⟨y,hy⟩:∃y,h.getD j 0=y:=⟨_,rfl⟩;rw[hx,hy] at HS;have HX:=ι (And.intro hx hy)
 have hii:(i:Int)<(n:Int):=ω;have hjj:(j:Int)<(n:Int):=ω;have H0:Hid (vJ w g h rest/\Tn (λk=>k=g) w w):=ι ⟨hr,Tn.refl _ _⟩;clear hr hn hi hj hih hjh hx hy;go_enter func457,ntmps457
 refine RG.yD 16 (λL W=>Hid (vJ W g (if L 15 then(if L 13 then h.set i y else h).set j x else(if L 13 then h.set i y else h)) rest/\Tn (λk=>k=g) w W)) (λL L' W h hI=>by rw[<-h 13 δ,<-h 15 δ];exact hI) κ κ rfl (ι ⟨H0.o.1.drew,H0.o.2.drew⟩) ?_;clear H0;iterate 7 refine RG.cS ?_
 apply RG.xN
 ·rfl
 ·rfl
 ·intro L w9 h0 hcl xK hw9;have e1:=hcl.not 16 (i:=13) h0 κ;have e2:=hcl.not 16 (i:=15) h0 κ;have hs9:=hw9.o.1;rw[e1,e2,if_neg (c:=false=true) σ,if_neg (c:=false=true) σ] at hs9;have q:=hs9.cell (i:=j) HIH.o.2;rw[HX.o.2] at q;clear e1 e2 hs9;repeat go_step
  refine RG.xC ?_;exact⟨xK,hw9⟩
 ·rfl
 iterate 3 refine RG.cS ?_
 apply RG.xN
 ·rfl
 ·rfl
 ·intro L w9 h0 hcl xK hw9;have e1:=hcl.not 16 (i:=13) h0 κ;have e2:=hcl.not 16 (i:=15) h0 κ;have hs9:=hw9.o.1;rw[e1,e2,if_neg (c:=false=true) σ,if_neg (c:=false=true) σ] at hs9;have q:=hs9.cell (i:=i) HIH.o.1;rw[HX.o.1] at q;clear e1 e2 hs9;repeat go_step
  refine RG.xC ?_;exact⟨xK,hw9⟩
 ·rfl
 refine RG.cS ?_;apply RG.xN
 ·rfl
 ·rfl
 ·intro L w9 h0 hcl xK hw9;have e2:=hcl.not 16 (i:=15) h0 κ;obtain⟨hs9,ht9⟩:=hw9.o;rw[h0,e2,if_neg (c:=false=true) σ,if_neg (c:=false=true) σ] at hs9;have q:=hs9.cell (i:=i) HIH.o.1;rw[HX.o.1] at q;have q1:=hs9.free i
  have hp:Hid (vJ (w9.setCell ⟨g,i,none⟩ (.int .i64 (y:Int))) g (h.set i y) rest/\Tn (λk=>k=g) w (w9.setCell ⟨g,i,none⟩ (.int .i64 (y:Int)))):=ι ⟨hs9.put HIH.o.1 y,ht9.set (p:=⟨g,i,none⟩) (.inl rfl) _⟩;have E2:=ι e2;clear hs9 ht9 e2;repeat go_step
  refine RG.xC ?_;refine⟨xK,?_⟩;show Hid (vJ _ g (if L 15=true then _ else(if (true:Bool)=true then h.set i y else h)) rest/\_);rw[E2.o,if_neg (c:=false=true) σ,if_pos rfl];with_reducible exact hp
 ·rfl
 refine RG.cS ?_;apply RG.xN
 ·rfl
 ·rfl
 ·intro L w9 h0 hcl xK hw9
  have e1:L 13=true:=by
   have:=xK.yes 16 (i:=15) (j:=13) σ κ;simpa using this
  obtain⟨hs9,ht9⟩:=hw9.o;rw[h0,e1,if_neg (c:=false=true) σ,if_pos rfl] at hs9;have q:=hs9.cell (i:=j) (by rw[List.length_set];exact HIH.o.2);have q1:=hs9.free j
  have hp:Hid (vJ (w9.setCell ⟨g,j,none⟩ (.int .i64 (x:Int))) g ((h.set i y).set j x) rest/\Tn (λk=>k=g) w (w9.setCell ⟨g,j,none⟩ (.int .i64 (x:Int)))):=ι ⟨hs9.put (by rw[List.length_set];exact HIH.o.2) x,ht9.set (p:=⟨g,j,none⟩) (.inl rfl) _⟩;have E1:=ι e1;clear hs9 ht9 e1
  repeat go_step
  refine RG.xC ?_;refine⟨xK,?_⟩;show Hid (vJ _ g (if (true:Bool)=true then(if L 13=true then h.set i y else h).set j x else _) rest/\_);rw[E1.o,if_pos rfl,if_pos rfl];with_reducible exact hp
 ·rfl
 refine RG.xZ (λw9 hw9=>?_);rw[if_pos rfl,if_pos rfl,<-HS.o] at hw9;go_wp2;refine bodyPost_end (results_none rfl _ _ _) rfl ?_;exact⟨rfl,hw9.o.1,hw9.o.2⟩
abbrev numI (gp:Nat):Value:=.iface 322 (.pointer (some ⟨gp,1,none⟩))
theorem xZm (gp g n c:Nat) (h:List Nat) (rest:List Value) (w:World) (hc:w.cell? ⟨gp,1,none⟩=some (.slice (some ⟨g,0,none⟩) (n+1) c)) (hf:w.frozen? ⟨gp,1,none⟩=false) (hr:vJ w g h rest) (hn:n+1=h.length) (hcc:n+1<=c) (hn2:n<1000000):
  Calls prog 458 #[.pointer (some ⟨gp,1,none⟩)] w λe w'=>e=.returned (.iface 3 (.int .i64 ((h.getD n 0:Nat):Int)))/\w'=w.setCell ⟨gp,1,none⟩ (.slice (some ⟨g,0,none⟩) n c):=by
 have q:=hr.cell (i:=n) ω;generalize h.getD n 0=x at q⊢;have e1:(((n+1:Nat):Int))=(n:Int)+1:=ω;have e2:(n:Int)+1-1=n:=ω;have e3:(n:Int)<((n+1:Nat):Int):=ω;have e4:(n:Int)<=(c:Int):=ω;have e5:¬((n:Int)<0):=ω;clear hr hn;go_enter func458,ntmps458;go_wp2;go_ret
 exact⟨rfl,rfl⟩
theorem row_of {P:Program} {t:TypeId} {name:String} {f:FuncId} {pr:Bool} (h:((P.info? t).bind λi=>(i.methods.find? (·.name==name)).map λm=>(m.path.toList.length,m.func))=some (0,some (f,pr))):
  ∃i m,P.info? t=some i/\i.methods.find? (·.name==name)=some m/\m.path=#[]/\m.func=some (f,pr):=by
 cases hi:P.info? t with
 |none=>rw[hi] at h;cases h
 |some i=>
  rw[hi] at h;simp only[Option.bind_some] at h;cases hm:i.methods.find? (·.name==name) with
  |none=>rw[hm] at h;cases h
  |some m=>
   rw[hm] at h;simp only[Option.map_some,Option.some.injEq,Prod.mk.injEq] at h
   exact⟨i,m,rfl,hm,by
    have:=List.eq_nil_of_length_eq_zero h.1;exact Array.toList_eq_nil_iff.1 this,h.2⟩
theorem yDd {name:String} {f:FuncId} (h:((prog.info? 322).bind λi=>(i.methods.find? (·.name==name)).map λm=>(m.path.toList.length,m.func))=some (0,some (f,false)))
  (n:Nat) (a:Addr) (w:World) (A:Option Addr) (k c:Nat) (hc:w.cell? a=some (.slice A k c)):(method (n+1) 322 (.pointer (some a)) name).run prog w=.ok (f,.slice A k c) w:=by
 obtain⟨i,m,h1,h2,h3,h4⟩:=row_of (P:=prog) h;have hu:=underlying322
 have hl:(loadVar 318 a).run prog w=.ok (.slice A k c) w:=by
  unfold loadVar;simp[go_sem,hc]
 have hw : ∀ t nm,Builtin.ssaWrapNilChk_ #[t] t #[.pointer (some a),strVal "",strVal nm] = pure (.pointer (some a)) := fun _ _ => rfl;unfold method;simp[typeInfo,h1,h2,h3,h4,follow,receiverAt,underlying,hu,Place.get,hw,asAddr,hl]
theorem m_ptr {name:String} {f:FuncId} (h:((prog.info? 322).bind λi=>(i.methods.find? (·.name==name)).map λm=>(m.path.toList.length,m.func))=some (0,some (f,true)))
  (n:Nat) (a:Addr) (w:World):(method (n+1) 322 (.pointer (some a)) name).run prog w=.ok (f,.pointer (some a)) w:=by
 obtain⟨i,m,h1,h2,h3,h4⟩:=row_of (P:=prog) h;have hu:=underlying322;unfold method;simp[typeInfo,h1,h2,h3,h4,follow,receiverAt,underlying,hu,Place.get]
theorem yDe (n : Nat) (a : Addr) (w : World) (A : Option Addr) (k c : Nat) (hc : w.cell? a = some (.slice A k c)) : (method (n + 1) 322 (.pointer (some a)) "Len").run prog w = .ok (455,.slice A k c) w := yDd (by kernel_rfl) n a w A k c hc
theorem xPu (n : Nat) (a : Addr) (w : World) (A : Option Addr) (k c : Nat) (hc : w.cell? a = some (.slice A k c)) : (method (n + 1) 322 (.pointer (some a)) "Less").run prog w = .ok (456,.slice A k c) w := yDd (by kernel_rfl) n a w A k c hc
theorem xPt (n : Nat) (a : Addr) (w : World) (A : Option Addr) (k c : Nat) (hc : w.cell? a = some (.slice A k c)) : (method (n + 1) 322 (.pointer (some a)) "Swap").run prog w = .ok (457,.slice A k c) w := yDd (by kernel_rfl) n a w A k c hc
theorem m_pop (n : Nat) (a : Addr) (w : World) : (method (n + 1) 322 (.pointer (some a)) "Pop").run prog w = .ok (458,.pointer (some a)) w := m_ptr (by kernel_rfl) n a w
theorem yCg {P:Nat->Prop} {a b:World} (h:Tn P a b) {p:Addr} (hp:p.block<a.heap.size) (hn:¬P p.block):b.cell? p=a.cell? p:=by
 unfold World.cell?;rw[h.block _ hp hn]
theorem xUp {P:Nat->Prop} {a b:World} (h:Tn P a b) {p:Addr} (hp:p.block<a.heap.size) (hn:¬P p.block):b.frozen? p=a.frozen? p:=by
 unfold World.frozen?;rw[h.block _ hp hn]
theorem xJt (g N c:Nat) (h:List Nat) (rest:List Value) (a b:Nat) (x y:Int) (w:World) (hr:vJ w g h rest) (hN:N=h.length) (hx:x=a) (hy:y=b) (ha:a<N) (hb:b<N):
  Calls prog 456 #[.slice (some ⟨g,0,none⟩) N c,.int .i64 x,.int .i64 y] w λe w'=>e=.returned (.bool (decide (h.getD a 0<h.getD b 0)))/\ψ w w':=by
 subst hx hy;exact xZv g N c h rest a b w hr ω ha hb
theorem xJ1 (g N c:Nat) (h:List Nat) (rest:List Value) (a b:Nat) (x y:Int) (w:World) (hr:vJ w g h rest) (hN:N=h.length) (hx:x=a) (hy:y=b) (ha:a<N) (hb:b<N):
  Calls prog 457 #[.slice (some ⟨g,0,none⟩) N c,.int .i64 x,.int .i64 y] w λe w'=>e=.returned (.tuple #[])/\vJ w' g (xAk h a b) rest/\Tn (λk=>k=g) w w':=by
 subst hx hy;exact xYw g N c h rest a b w hr ω ha hb
structure DwI (w:World) (gp g N c:Nat) (h:List Nat) (rest:List Value) (W:World):Prop where
 row:vJ W g h rest
 cell:W.cell? ⟨gp,1,none⟩=some (.slice (some ⟨g,0,none⟩) N c)
 len:N=h.length
 tn:Tn (λk=>k=g) w W
 lt:gp<w.heap.size
 ne:gp≠g
theorem DwI.below {w:World} {gp g N c:Nat} {h:List Nat} {rest:List Value} {W W':World} (h1:DwI w gp g N c h rest W) (hb:ψ W W'):DwI w gp g N c h rest W':=
 ⟨h1.row.below hb,(hb.cell (p:=⟨gp,1,none⟩) (Nat.lt_of_lt_of_le h1.lt h1.tn.size)).trans h1.cell,h1.len,h1.tn.call hb,h1.lt,h1.ne⟩
theorem DwI.swap {w:World} {gp g N c:Nat} {h h':List Nat} {rest:List Value} {W W':World} (h1:DwI w gp g N c h rest W) (hr:vJ W' g h' rest) (ht:Tn (λk=>k=g) W W') (hl:h'.length=h.length):DwI w gp g N c h' rest W':=
 ⟨hr,(yCg ht (p:=⟨gp,1,none⟩) (Nat.lt_of_lt_of_le h1.lt h1.tn.size) h1.ne).trans h1.cell,by rw[hl];exact h1.len,h1.tn.trans ht,h1.lt,h1.ne⟩
theorem xQf (gp g N c i0 n:Nat) (h:List Nat) (rest:List Value) (w:World) (hI:DwI w gp g N c h rest w) (hn:n<=N) (hN:N<=1000000) (hi1:i0<=1000000):
  Calls prog 339 #[numI gp,.int .i64 i0,.int .i64 n] w λe w'=>∃b,e=.returned (.bool b)/\DwI w gp g N c (vZ h n n i0) rest w':=by
 have HI0:=ι hI;have HD0:Hid (∀h' f i,vZ h n n i0=vZ h' n f i->vZ h n n i0=vZ h' n f i):=ι (λ_ _ _ e=>e);clear hI HD0;obtain⟨res,hres⟩:∃res,vZ h n n i0=res:=⟨_,rfl⟩;have HR:=ι hres;rw[hres];clear hres;go_enter func339,ntmps339;go_wp2_with fail
 go_loopw [7,8,9,10] (λiv _ _ _ wr=>∃(i f:Nat) (h':List Nat),iv=.int .i64 i/\n<=i+f/\i<=1000000/\Hid (vZ h' n f i=res)/\Hid (DwI w gp g N c h' rest wr)) (λiv _ _ _ _=>n- (intOf iv).toNat)
 case atStart=>exact⟨i0,n,h,rfl,ω,hi1,HR,HI0⟩
 case round=>
  obtain⟨i,f,h',rfl,hf,hi,HDn,HI⟩:=hrel;clear HR HI0
  by_cases hb:n<=2*i+1
  ·have hbi:(n:Int)<=2*(i:Int)+1:=ω
   have HE:Hid (res=h'):=ι (by
    rw[<-HDn.o];cases f with
    |zero=>rfl
    |succ f=>unfold vZ;rw[if_pos hb])
   clear hb hf hn;go_wp2;go_ret;refine⟨_,rfl,?_⟩;rw[HE.o];exact HI.o
  ·have hbi:¬((n:Int)<=2*(i:Int)+1):=ω;have hb0:¬(2*(i:Int)+1<0):=ω;have hiN:i<N:=ω;have HIN:=ι hiN;obtain⟨f,rfl⟩:∃f',f=f'+1:=⟨f-1,ω⟩
   have HDK:Hid (∀j,(if 2*i+2<n/\h'.getD (2*i+2) 0<h'.getD (2*i+1) 0 then 2*i+2 else 2*i+1)=j->(h'.getD j 0<h'.getD i 0->vZ (xAk h' i j) n f j=res)/\(¬h'.getD j 0<h'.getD i 0->res=h')):=ι (λj hj=>by
    have:=HDn.o;unfold vZ at this;rw[if_neg hb] at this;simp only at this;rw[hj] at this;refine⟨λhl=>?_,λhl=>?_⟩
    ·rw[if_pos hl] at this;exact this
    ·rw[if_neg hl] at this;exact this.symm)
   clear HDn
   by_cases h2:2*i+2<n
   ·have h2i:2*(i:Int)+1+1<(n:Int):=ω;have H2N:Hid (2*i+2<N/\2*i+1<N):=ι ⟨ω,ω⟩;go_wp2_with fail
    rw[xPu _ _ _ _ _ _ HI.o.cell];go_wp2_with fail
    refine(xJt g N c h' rest (2*i+2) (2*i+1) _ _ wr HI.o.row HI.o.len ω ω H2N.o.1 H2N.o.2).mono ?_;rintro e w3 ⟨rfl,hb3⟩;have HI3:=ι (HI.o.below hb3);clear HI hb3;have HI:=HI3;clear HI3;generalize w3=wr at HI⊢
    by_cases hl:h'.getD (2*i+2) 0<h'.getD (2*i+1) 0
    ·have HDJ:=ι (HDK.o (2*i+2) (by rw[if_pos ⟨h2,hl⟩]));rw[decide_eq_true hl];obtain⟨j,hje⟩:∃j,2*i+2=j:=⟨_,rfl⟩;have hj:2*(i:Int)+1+1=(j:Int):=ω;rw[hje] at HDJ;clear hl HDK H2N;have hjN:j<N:=ω;have HJ:=ι hj;have HJN:=ι hjN;clear hj hjN;go_wp2_with fail
     rw[xPu _ _ _ _ _ _ HI.o.cell];go_wp2_with fail
     refine(xJt g N c h' rest j i _ _ wr HI.o.row HI.o.len HJ.o rfl HJN.o HIN.o).mono ?_;rintro e w5 ⟨rfl,hb5⟩;have H5:=ι (HI.o.below hb5);clear HI hb5
     by_cases hl2:h'.getD j 0<h'.getD i 0
     ·have HD5:=ι (HDJ.o.1 hl2);rw[decide_eq_true hl2];clear hl2 HDJ;go_wp2_with fail
      rw[xPt _ _ _ _ _ _ H5.o.cell];go_wp2_with fail
      refine(xJ1 g N c h' rest i j _ _ w5 H5.o.row H5.o.len rfl HJ.o HIN.o HJN.o).mono ?_;rintro e w6 ⟨rfl,hr6,ht6⟩;have H6:=ι (H5.o.swap hr6 ht6 (xCf _ _ _));clear H5 hr6 ht6;go_wp2;have hj:=HJ.o;exact⟨⟨j,f,xAk h' i j,by congr 1,ω,ω,HD5,H6⟩,by simp[intOf];omega⟩
     ·have HD5:=ι (HDJ.o.2 hl2);rw[decide_eq_false hl2];clear hl2 HDJ;go_wp2;go_ret;refine⟨_,rfl,?_⟩;rw[HD5.o];exact H5.o
    ·have HDJ:=ι (HDK.o (2*i+1) (by rw[if_neg (λx=>hl x.2)]));rw[decide_eq_false hl];obtain⟨j,hje⟩:∃j,2*i+1=j:=⟨_,rfl⟩;have hj:2*(i:Int)+1=(j:Int):=ω;rw[hje] at HDJ;clear hl HDK H2N;have hjN:j<N:=ω;have HJ:=ι hj;have HJN:=ι hjN;clear hj hjN;go_wp2_with fail
     rw[xPu _ _ _ _ _ _ HI.o.cell];go_wp2_with fail
     refine(xJt g N c h' rest j i _ _ wr HI.o.row HI.o.len HJ.o rfl HJN.o HIN.o).mono ?_;rintro e w5 ⟨rfl,hb5⟩;have H5:=ι (HI.o.below hb5);clear HI hb5
     by_cases hl2:h'.getD j 0<h'.getD i 0
     ·have HD5:=ι (HDJ.o.1 hl2);rw[decide_eq_true hl2];clear hl2 HDJ;go_wp2_with fail
      rw[xPt _ _ _ _ _ _ H5.o.cell];go_wp2_with fail
      refine(xJ1 g N c h' rest i j _ _ w5 H5.o.row H5.o.len rfl HJ.o HIN.o HJN.o).mono ?_;rintro e w6 ⟨rfl,hr6,ht6⟩;have H6:=ι (H5.o.swap hr6 ht6 (xCf _ _ _));clear H5 hr6 ht6;go_wp2;have hj:=HJ.o;exact⟨⟨j,f,xAk h' i j,by congr 1,ω,ω,HD5,H6⟩,by simp[intOf];omega⟩
     ·have HD5:=ι (HDJ.o.2 hl2);rw[decide_eq_false hl2];clear hl2 HDJ;go_wp2;go_ret;refine⟨_,rfl,?_⟩;rw[HD5.o];exact H5.o
   ·have h2i:¬(2*(i:Int)+1+1<(n:Int)):=ω;have HDJ:=ι (HDK.o (2*i+1) (by rw[if_neg (λx=>h2 x.1)]));obtain⟨j,hje⟩:∃j,2*i+1=j:=⟨_,rfl⟩;have hj:2*(i:Int)+1=(j:Int):=ω;rw[hje] at HDJ;clear HDK;have hjN:j<N:=ω;have HJ:=ι hj;have HJN:=ι hjN;clear hj hjN;go_wp2_with fail
    rw[xPu _ _ _ _ _ _ HI.o.cell];go_wp2_with fail
    refine(xJt g N c h' rest j i _ _ wr HI.o.row HI.o.len HJ.o rfl HJN.o HIN.o).mono ?_;rintro e w5 ⟨rfl,hb5⟩;have H5:=ι (HI.o.below hb5);clear HI hb5
    by_cases hl2:h'.getD j 0<h'.getD i 0
    ·have HD5:=ι (HDJ.o.1 hl2);rw[decide_eq_true hl2];clear hl2 HDJ;go_wp2_with fail
     rw[xPt _ _ _ _ _ _ H5.o.cell];go_wp2_with fail
     refine(xJ1 g N c h' rest i j _ _ w5 H5.o.row H5.o.len rfl HJ.o HIN.o HJN.o).mono ?_;rintro e w6 ⟨rfl,hr6,ht6⟩;have H6:=ι (H5.o.swap hr6 ht6 (xCf _ _ _));clear H5 hr6 ht6;go_wp2;have hj:=HJ.o;exact⟨⟨j,f,xAk h' i j,by congr 1,ω,ω,HD5,H6⟩,by simp[intOf];omega⟩
    ·have HD5:=ι (HDJ.o.2 hl2);rw[decide_eq_false hl2];clear hl2 HDJ;go_wp2;go_ret;refine⟨_,rfl,?_⟩;rw[HD5.o];exact H5.o
end Go.Proofs.AL
namespace Mailsack
theorem xZd {h:List Nat} (h0:h.length≠0):(vZ (xAk h 0 (h.length-1)) (h.length-1) (h.length-1) 0).getD (h.length-1) 0=h.getD 0 0:=by
 have hsw:(xAk h 0 (h.length-1))[h.length-1]?=some (h.getD 0 0):=by
  unfold xAk;rw[List.getElem?_set_self (by simp;omega)]
 rw[List.getD_eq_getElem?_getD]
 by_cases h1:h.length=1
 ·have hk:vZ (xAk h 0 (h.length-1)) (h.length-1) (h.length-1) 0=xAk h 0 (h.length-1):=by rw[h1];rfl
  rw[hk,hsw]
  rfl
 ·rw[xE5 _ _ _ _ _ ν ω,hsw]
  rfl
theorem pop_eq (h:List Nat):xH0 h=(vZ (xAk h 0 (h.length-1)) (h.length-1) (h.length-1) 0).dropLast:=rfl
end Mailsack
namespace Go.Proofs.AL
open Go.RowKit Mailsack MM SV
theorem vJ.short {W:World} {g:Nat} {h:List Nat} {rest:List Value} (hr:vJ W g h rest):vJ W g h.dropLast (xMu (h.drop (h.length-1))++rest):=by
 have e:xMu h=xMu h.dropLast++xMu (h.drop (h.length-1)):=by
  unfold xMu;rw[<-List.map_append,List.dropLast_eq_take,List.take_append_drop]
 unfold vJ;rw[<-List.append_assoc,<-e];exact hr
theorem yA4 (gp g N c:Nat) (h:List Nat) (rest:List Value) (w:World) (hI:DwI w gp g N c h rest w) (hN:N<=1000000):
  Calls prog 264 #[numI gp] w λe w'=>e=.returned (.tuple #[])/\DwI w gp g N c (xSn h) rest w':=by
 have HI0:=ι hI;have HE:Hid (∀k,k=N / 2->xM3 h k=xSn h):=ι (λk hk=>by rw[hk,hI.len];rfl);have HDN:=ι (λ(h':List Nat) (k:Nat) W (hw:DwI W gp g N c h' rest W) (hk:k+1<=N / 2)=>xQf gp g N c k N h' rest W hw ν hN ω);generalize xSn h=res at HE⊢;clear hI
 go_enter func264,ntmps264;go_wp2_with fail
 rw[yDe _ _ _ _ _ _ HI0.o.cell];go_wp2_with (go_at_call 455;refine(xO3 _ _ _ _).mono ?_;rintro e w1 ⟨rfl,rfl⟩)
 go_loopw [3] (λiv wr=>∃(k:Nat) (h':List Nat),iv=.int .i64 ((k:Int)-1)/\k<=N / 2/\Hid (xM3 h' k=res)/\Hid (DwI w1 gp g N c h' rest wr)) (λiv _=>(intOf iv+1).toNat)
 case atStart=>exact⟨N / 2,h,by congr 1,Nat.le_refl _,ι (HE.o _ rfl),HI0⟩
 case round=>
  obtain⟨k,h',rfl,hk,hR,HI⟩:=hrel;clear HI0 HE;cases k with
  |zero=>
   have hr0:Hid (res=h'):=ι hR.o.symm;go_wp2;refine bodyPost_end (results_none rfl _ _ _) rfl ?_;rw[hr0.o];exact⟨rfl,HI.o⟩
  |succ k=>
   have hR2:Hid (xM3 (vZ h' N N k) k=res):=ι (by rw[<-hR.o];conv=>rhs;unfold xM3;rw[<-HI.o.len]);rw[show((k+1:Nat):Int)-1=(k:Int) by omega];have HD1:=ι (HDN.o h' k wr ⟨HI.o.row,HI.o.cell,HI.o.len,Tn.refl _ _,Nat.lt_of_lt_of_le HI.o.lt HI.o.tn.size,HI.o.ne⟩ hk);clear hR HDN
   go_wp2_with fail
   refine HD1.o.mono ?_;rintro e w2 ⟨b,rfl,hw2⟩;have H2:Hid (DwI w1 gp g N c (vZ h' N N k) rest w2):=ι ⟨hw2.row,hw2.cell,hw2.len,HI.o.tn.trans hw2.tn,HI.o.lt,HI.o.ne⟩;clear hw2 HI HD1;go_wp2;exact⟨⟨k,_,by rfl,ω,hR2,H2⟩,by simp[intOf]⟩
theorem yA3 (gp c:Nat) (A:Option Addr) (w:World) (hc:w.cell? ⟨gp,1,none⟩=some (.slice A 0 c)):
  Calls prog 264 #[numI gp] w λe w'=>e=.returned (.tuple #[])/\w'=w:=by
 go_enter func264,ntmps264;go_wp2_with fail
 rw[yDe _ _ _ _ _ _ hc];go_wp2_with (go_at_call 455;refine(xO3 _ _ _ _).mono ?_;rintro e w1 ⟨rfl,rfl⟩)
 go_loopw [3] (λiv wr=>iv=.int .i64 (-1)/\wr=w1) (λ_ _=>0)
 case atStart=>exact⟨rfl,rfl⟩
 case round=>
  obtain⟨rfl,rfl⟩:=hrel;go_wp2;refine bodyPost_end (results_none rfl _ _ _) rfl ?_;exact⟨rfl,rfl⟩
theorem yA6 (gp g n c:Nat) (h:List Nat) (rest:List Value) (w:World) (hI:DwI w gp g (n+1) c h rest w) (hf:w.frozen? ⟨gp,1,none⟩=false) (hc:n+1<=c) (hN:n+1<=1000000):
  Calls prog 340 #[numI gp] w λe w'=>e=.returned (.iface 3 (.int .i64 ((h.getD 0 0:Nat):Int)))/\∃W rest',w'=W.setCell ⟨gp,1,none⟩ (.slice (some ⟨g,0,none⟩) n c)/\Tn (λk=>k=g) w W/\vJ W g (xH0 h) rest':=by
 have hl:h.length=n+1:=hI.len.symm;have H0:=ι hI;have hlast:=xZd (h:=h) ω;have hpe:=pop_eq h;rw[hl,show n+1-1=n by omega] at hlast hpe;have HPE:=ι hpe;have HLA:=ι hlast;have HF:=ι (λW (ht:Tn (λk=>k=g) w W)=>(xUp ht (p:=⟨gp,1,none⟩) hI.lt hI.ne).trans hf);clear hpe hlast hI
 go_enter func340,ntmps340;go_wp2_with fail
 rw[yDe _ _ _ _ _ _ H0.o.cell];go_wp2_with (go_at_call 455;refine(xO3 _ _ _ _).mono ?_;rintro e w1 ⟨rfl,rfl⟩)
 rw[xPt _ _ _ _ _ _ H0.o.cell];go_wp2_with fail
 refine(xJ1 g (n+1) c h rest 0 n _ _ w1 H0.o.row H0.o.len rfl rfl ω ω).mono ?_;rintro e w2 ⟨rfl,hr2,ht2⟩;have H2:=ι (H0.o.swap hr2 ht2 (xCf _ _ _));clear hr2 ht2
 have HDN:=ι (xQf gp g (n+1) c 0 n (xAk h 0 n) rest w2 ⟨H2.o.row,H2.o.cell,H2.o.len,Tn.refl _ _,Nat.lt_of_lt_of_le H2.o.lt H2.o.tn.size,H2.o.ne⟩ ω ω ω);clear hf;go_wp2_with fail
 refine HDN.o.mono ?_;rintro e w3 ⟨b,rfl,hw3⟩;have HT3:=ι (H2.o.tn.trans hw3.tn);have HPOP:=ι (xZm gp g n c (vZ (xAk h 0 n) n n 0) rest w3 hw3.cell (HF.o _ HT3.o) hw3.row hw3.len hc ω);rw[HLA.o] at HPOP;have HSH:=ι hw3.row.short;rw[<-HPE.o] at HSH
 clear hw3 H2 HDN HF HLA HPE hl hN hc;go_wp2_with fail
 rw[m_pop];go_wp2_with fail
 refine HPOP.o.mono ?_;rintro e w4 ⟨rfl,rfl⟩;go_wp2;go_ret;exact⟨rfl,w3,_,rfl,HT3.o,HSH.o⟩
end Go.Proofs.AL
namespace Mailsack
def tkB (n:Nat) (l:List Nat):List Bool:=(List.range n).map λi=>l.contains i
theorem xDi (n:Nat) (l:List Nat):(tkB n l).length=n:=by simp[tkB]
theorem yCh (n:Nat):tkB n []=List.replicate n false:=by
 apply List.ext_getElem?;intro i;simp only[tkB,List.getElem?_map,List.getElem?_replicate]
 by_cases h:i<n
 ·rw[if_pos h,List.getElem?_range h];rfl
 ·rw[if_neg h,List.getElem?_eq_none (by simpa using h)];rfl
theorem xJ0 {n:Nat} {l:List Nat} {i:Nat} (h:i<n):(tkB n l)[i]?=some (l.contains i):=by simp[tkB,h]
theorem xYs {n:Nat} {l:List Nat} {k t:Nat} (h:l[k]?=some t):tkB n (l.take (k+1))=(tkB n (l.take k)).set t true:=by
 rw[List.take_add_one,h];apply List.ext_getElem?;intro i;rw[List.getElem?_set]
 by_cases hi:i<n
 ·rw[xJ0 hi,xJ0 hi,xDi]
  by_cases e:t=i
  ·subst e;rw[if_pos rfl,if_pos hi];simp
  ·rw[if_neg e];simp;intro h;exact absurd h.symm e
 ·rw[List.getElem?_eq_none (by rw[xDi];omega),List.getElem?_eq_none (by rw[xDi];omega)]
  by_cases e:t=i
  ·subst e;rw[if_pos rfl,if_neg (by rw[xDi];exact hi)]
  ·rw[if_neg e]
def frL (l:List Nat) (k:Nat):List Nat:=(List.range k).filter λi=>!l.contains i
theorem yAd (l:List Nat) (k:Nat):frL l (k+1)=if l.contains k=true then frL l k else frL l k++[k]:=by
 unfold frL;rw[List.range_succ,List.filter_append];cases h:l.contains k<;>simp at h<;>simp[h]
theorem xX0 (l:List Nat) (k:Nat):(frL l k).length<=k:=by
 have:=List.length_filter_le (λi=>!l.contains i) (List.range k);simpa[frL] using this
theorem frL_lt {l:List Nat} {k x:Nat} (h:x∈frL l k):x<k:=by
 have:=(List.mem_filter.1 h).1;simpa using this
theorem yAc (n:Nat) (l:List Nat):xDv n l=xSn (frL l n):=rfl
end Mailsack
namespace Go.Proofs.AL
open Go.RowKit Mailsack MM SV DS BB
def RdN (w:World) (B:Nat) (v:Value) (L:List Nat):Prop:=
 ∃A c,v=.slice A L.length c/\L.length<=c/\(0<L.length->∃b off,A=some ⟨b,off,none⟩/\b<B/\∀j x,L[j]?=some x->w.cell? ⟨b,off+j,none⟩=some (.int .i64 ((x:Nat):Int)))
def xIv (w:World) (base:Nat) (v:Value) (l:List Nat):Prop:=w.ownsRow base 3 1 v l.length (xMu l)
theorem xIv.nil (w:World) (base:Nat):xIv w base (.slice none 0 0) []:=World.ownsRow_nil w base _ _
theorem xIv.row {w:World} {base:Nat} {v:Value} {l:List Nat} (h:xIv w base v l):w.ownsRow base 3 1 v l.length (xMu l):=h
theorem xIv.of {w:World} {base:Nat} {v:Value} {l:List Nat} {x:Nat} (h:w.ownsRow base 3 1 v (l.length+1) (xMu l++[.int .i64 (x:Int)])):xIv w base v (l++[x]):=by
 unfold xIv xMu;rw[List.length_append,List.map_append];exact h
theorem xIv.alloc {w:World} {base:Nat} {v:Value} {l:List Nat} (h:xIv w base v l) (o:Obj):xIv (w.alloc o) base v l:=World.ownsRow.alloc h o
theorem xIv.form {w:World} {base:Nat} {v:Value} {l:List Nat} (h:xIv w base v l):∃A c,v=.slice A l.length c/\l.length<=c:=by
 rcases h.2 with ⟨h1,h2⟩|⟨g,cap,cur,h1,_,_,h2,_⟩
 ·exact⟨none,0,by rw[h1,h2],ω⟩
 ·exact⟨_,_,h1,h2⟩
theorem xIv.row_of {w:World} {base:Nat} {v:Value} {l:List Nat} (h:xIv w base v l):(l=[]/\v=.slice none 0 0)∨∃g c rest,v=.slice (some ⟨g,0,none⟩) l.length c/\l.length<=c/\vJ w g l rest/\base<=g:=by
 rcases h.2 with ⟨h1,h2⟩|⟨g,cap,cur,h1,hb,hg,hnc,_,_,ht⟩
 ·exact .inl ⟨List.eq_nil_of_length_eq_zero h2,h1⟩
 ·refine .inr ⟨g,cap,cur.toList.drop l.length,h1,hnc,?_,hb⟩;unfold vJ;rw[Nat.mul_one] at ht;rw[<-ht,List.take_append_drop];exact hg
theorem xIv.xHw {w:World} {base:Nat} {v:Value} {l:List Nat} (h:xIv w base v l) {p:Addr} (u:Value) (hne:v.ownBlock≠some p.block):xIv (w.setCell p u) base v l:=by
 refine⟨h.1,?_⟩;rcases h.2 with hn|⟨g,cap,cur,h1,h2,h3,h4⟩
 ·exact .inl hn
 ·exact .inr ⟨g,cap,cur,h1,h2,yC h3 (λe=>hne (by rw[h1,<-e];rfl)) u,h4⟩
theorem yDu:(prog.info? 3).map (λi=>(i.zero,i.size,i.bytes))=some (some (.int .i64 0),1,8):=κ
theorem yD8 (z:Int):∀v∈[Value.int .i64 z],v.oneCell'=true:=by simp[Value.oneCell']
abbrev polO (tv fv:Value):Obj:=.cells #[tv,fv] 320
def FreeM (W:World) (lo hi:Nat) (fv:Value) (h:List Nat) (gp gt:Nat):Prop:=
 (h=[]/\∃A c,fv=.slice A 0 c)∨∃g c rest,fv=.slice (some ⟨g,0,none⟩) h.length c/\h.length<=c/\vJ W g h rest/\lo<=g/\g<hi/\g≠gp/\g≠gt
def pW (W:World) (lo hi gp n:Nat) (h:List Nat):Prop:=
 ∃gt fv bs,lo<=gp/\gp<hi/\lo<=gt/\gt<hi/\gp≠gt/\W.heap[gp]?=some (polO (.slice (some ⟨gt,0,none⟩) n n) fv)/\W.heap[gt]?=some (.cells ((bs:List Bool).map Value.bool).toArray 4 (0,0))/\bs.length=n/\FreeM W lo hi fv h gp gt/\(∀x∈h,x<n)/\h.length<=n/\n<=256
theorem pW.kept {W W':World} {lo hi gp n:Nat} {h:List Nat} (hp:pW W lo hi gp n h) (hk:∀(k:Nat) o,W.heap[k]?=some o->lo<=k->k<hi->W'.heap[k]?=some o):pW W' lo hi gp n h:=by
 obtain⟨gt,fv,bs,h1,h1',h2,h2',h3,h4,h5,h6,h7,h8⟩:=hp;refine⟨gt,fv,bs,h1,h1',h2,h2',h3,hk _ _ h4 h1 h1',hk _ _ h5 h2 h2',h6,?_,h8⟩;rcases h7 with h7|⟨g,c,rest,k1,k2,k3,k4,k4',k5⟩
 ·exact .inl h7
 ·exact .inr ⟨g,c,rest,k1,k2,hk _ _ k3 k4 k4',k4,k4',k5⟩
theorem pW.below {W W':World} {lo hi gp n:Nat} {h:List Nat} (hp:pW W lo hi gp n h) (hb:ψ W W'):pW W' lo hi gp n h:=hp.kept λ_ _ hk _ _=>xD hk hb (xH hk)
theorem pW.tn {P:Nat->Prop} {W W':World} {lo hi gp n:Nat} {h:List Nat} (hp:pW W lo hi gp n h) (ht:Tn P W W') (hP:∀k,lo<=k->k<hi->¬P k):pW W' lo hi gp n h:=hp.kept λk _ hk h1 h2=>ht.blk hk (hP k h1 h2)
structure NwM (w:World) (n:Nat) (tk:List Bool) (fv:Value) (fl:List Nat) (W:World):Prop where
 tb:W.heap[w.heap.size]?=some (.cells (tk.map Value.bool).toArray 4 (0,0))
 pl:W.heap[w.heap.size+1]?=some (polO (.slice (some ⟨w.heap.size,0,none⟩) n n) fv)
 own:xIv W w.heap.size fv fl
 ne0:fv.ownBlock≠some w.heap.size
 ne1:fv.ownBlock≠some (w.heap.size+1)
 bel:ψ w W
theorem NwM.put {w:World} {n:Nat} {tk:List Bool} {fv:Value} {fl:List Nat} {W:World} (h:NwM w n tk fv fl W) (i:Nat):NwM w n (tk.set i true) fv fl (W.setCell ⟨w.heap.size,i,none⟩ (.bool true)):=
 ⟨by have:=xY h.tb i (.bool true);rw[this];simp[List.map_set],yC h.pl (p:=⟨w.heap.size,i,none⟩) σ _,h.own.xHw (p:=⟨w.heap.size,i,none⟩) _ h.ne0,h.ne0,h.ne1,h.bel.setCell (p:=⟨w.heap.size,i,none⟩) ν _⟩
theorem NwM.push {w:World} {n:Nat} {tk:List Bool} {fv fv':Value} {fl:List Nat} {W W':World} {o:Obj} {x:Nat} (h:NwM w n tk fv fl W) (hown:W'.ownsRow w.heap.size 3 1 fv' (fl.length+1) (xMu fl++[.int .i64 (x:Int)])) (hg:(W.alloc o).grownBy W' fv.ownBlock) (hloc:fv'.ownBlock=fv.ownBlock∨fv'.ownBlock=some (W.heap.size+1)):
  NwM w n tk fv' (fl++[x]) (W'.setCell ⟨w.heap.size+1,1,none⟩ fv'):=by
 have hw:=xH h.pl;have t1:=vR (xO h.tb o) hg (Ne.symm h.ne0);have t2:=vR (xO h.pl o) hg (Ne.symm h.ne1);have n0:fv'.ownBlock≠some w.heap.size:=by rcases hloc with e|e<;>rw[e];exact h.ne0;simp;omega
 have n1:fv'.ownBlock≠some (w.heap.size+1):=by rcases hloc with e|e<;>rw[e];exact h.ne1;simp;omega
 have b1:ψ w W':=(h.bel.alloc h.bel.size o).grown hg (by simp;omega) (λk hk=>(World.ownsRow.lt h.own.row k hk).1);refine⟨yC t1 (p:=⟨w.heap.size+1,1,none⟩) σ _,?_,(xIv.of hown).xHw (p:=⟨w.heap.size+1,1,none⟩) _ n1,n0,n1,b1.setCell (p:=⟨w.heap.size+1,1,none⟩) σ _⟩;have:=xY t2 1 fv'
 simpa using this
theorem NwM.pool {w:World} {n:Nat} {tk:List Bool} {fv:Value} {fl:List Nat} {W:World} (h:NwM w n tk fv fl W) (hl:tk.length=n) (hx:∀x∈fl,x<n) (hf:fl.length<=n) (hn:n<=256) (hne:fl=[]):pW W w.heap.size W.heap.size (w.heap.size+1) n []:=by
 subst hne;refine⟨w.heap.size,fv,tk,ω,xH h.pl,Nat.le_refl _,xH h.tb,ω,h.pl,h.tb,hl,.inl ⟨rfl,?_⟩,σ,σ,hn⟩;obtain⟨A,c,e,_⟩:=h.own.form;exact⟨A,c,e⟩
theorem xQu (n:Nat) (tk:List Nat) (tv:Value) (w:World) (hn:n<=256) (ht:RdN w w.heap.size tv tk) (hlt:∀x∈tk,x<n) (htl:tk.length<=1000000):
  Calls prog 173 #[.int .i64 n,tv] w λe w'=>∃gp,e=.returned (.pointer (some ⟨gp,0,none⟩))/\pW w' w.heap.size w'.heap.size gp n (xDv n tk)/\ψ w w':=by
 obtain⟨A,c,rfl,hc,hr⟩:=ht;have h0:¬((n:Int)<0):=ω;have h1:¬(256<(n:Int)):=ω;have hmk:=madeB w n ω
 have HI0:Hid (NwM w n (tkB n []) (.slice none 0 0) [] ((w.alloc (.cells (noB n) 4)).alloc (polO (.slice (some ⟨w.heap.size,0,none⟩) n n) (.slice none 0 0)))):=ι (by
  refine⟨?_,zK _ _ _,xIv.nil _ _,by simp[Value.ownBlock],by simp[Value.ownBlock],(φ w _).alloc σ _⟩;have:=zV w (.cells (noB n) 4) (polO (.slice (some ⟨w.heap.size,0,none⟩) n n) (.slice none 0 0));rw[this,yCh];simp[noB])
 have HR:=ι hr;have HL:=ι hlt;have HN:=ι hn;clear hr hlt;go_enter func173,ntmps173;go_wp2_with fail
 clear hmk;generalize (w.alloc (.cells (noB n) 4)).alloc (polO (.slice (some ⟨w.heap.size,0,none⟩) n n) (.slice none 0 0))=w1 at HI0
 go_loopw [22] (λiv wr=>∃k:Nat,k<=tk.length/\iv=.int .i64 k/\Hid (NwM w n (tkB n (tk.take k)) (.slice none 0 0) [] wr)) (λiv _=>tk.length- (intOf iv).toNat)
 case atStart=>exact⟨0,Nat.zero_le _,rfl,HI0⟩
 case round=>
  obtain⟨k,hk,rfl,HI⟩:=hrel;clear HI0
  by_cases hlt:k<tk.length
  ·obtain⟨x,hx⟩:∃x,tk[k]?=some x:=⟨_,List.getElem?_eq_getElem hlt⟩;obtain⟨b,off,rfl,hb,hcell⟩:=HR.o ω;have q:=(HI.o.bel.cell (p:=⟨b,off+k,none⟩) hb).trans (hcell k x hx);have hxn:=HL.o x (List.mem_of_getElem? hx);have hx0:¬((x:Int)<0):=ω;have hx1:(x:Int)<(n:Int):=ω
   have hs:=xYs (n:=n) hx;have HI2:=ι (HI.o.put x);rw[<-hs] at HI2;have c0:=xA HI.o.pl 0
   have c1:wr.cell? ⟨w.heap.size,x,none⟩=some (.bool ((tk.take k).contains x)):=by
    rw[xA HI.o.tb,List.getElem?_toArray,List.getElem?_map,xJ0 hxn];rfl
   have f1:=xB HI.o.tb x;generalize (tk.take k).contains x=bx at c1;simp only[gA,gC] at c0;clear hcell hx hs HI hxn;go_wp2;exact⟨⟨k+1,ω,by go_num,HI2⟩,by simp[intOf];omega⟩
  ·obtain rfl:k=tk.length:=ω;rw[List.take_length] at HI;have c0:=xKb HI.o.pl;clear HR hlt;go_wp2_with fail
   clear c0;obtain⟨i0,hi,hz0,hz1,hz2⟩:=jA yDu
   go_loopw [45] (λiv wx=>∃(k:Nat) (fv:Value),k<=n/\iv=.int .i64 k/\Hid (NwM w n (tkB n tk) fv (frL tk k) wx)) (λiv _=>n- (intOf iv).toNat)
   case atStart=>exact⟨0,_,Nat.zero_le _,rfl,HI⟩
   case round=>
    obtain⟨k,fv,hk,rfl,HJ⟩:=hrel;clear HI
    by_cases hlt:k<n
    ·have c1:wr.cell? ⟨w.heap.size,k,none⟩=some (.bool (tk.contains k)):=by
      rw[xA HJ.o.tb,List.getElem?_toArray,List.getElem?_map,xJ0 hlt];rfl
     have HS:=ι (yAd tk k);cases hb:tk.contains k with
     |true=>
      rw[hb] at c1 HS;rw[if_pos rfl] at HS;clear hb;go_wp2;exact⟨⟨k+1,fv,ω,by go_num,by rw[HS.o];exact HJ⟩,by simp[intOf];omega⟩
     |false=>
      rw[hb] at c1 HS;rw[if_neg σ] at HS;have hfl:=xX0 tk k;have c0:=xA HJ.o.pl 1;have f0:=xB (xO HJ.o.pl (.cells #[.int .i64 (k:Int)] 3)) 1;simp only[gA,gB,gC] at c0;clear hb;generalize frL tk k=fl at HJ HS hfl
      go_wp2_with (at_builtin;refine wpList_append_lies _ rfl _ _ 318 rfl w.heap.size 3 i0 (.int .i64 0) 1 8 underlying318 hi hz0 hz1 hz2 rfl δ _ _ _ rfl (HJ.o.own.alloc _) ⟨wr.heap.size,0,none⟩ 1 1 [.int .i64 (k:Int)] rfl rfl (cell_one_new _ _ _) (yD8 _) δ (by unfold maxLen;omega) ω (by have:=HJ.o.bel.size;simp;omega) (wr.heap.size+1) σ ?_;intro g cap w5 hown hgrow hat hlt5;have HK:=ι (HJ.o.push hown hgrow (loc_of hat));have hb5:=vR (xO HJ.o.pl (.cells #[.int .i64 (k:Int)] 3)) hgrow (Ne.symm HJ.o.ne1);have y1:=xB hb5 1;have y2:=xA hb5 1;simp only[gA,gB,gC] at y2;clear hown hgrow hat hb5)
      exact⟨⟨k+1,_,ω,by go_num,by rw[HS.o];exact HK⟩,by simp[intOf];omega⟩
    ·obtain rfl:k=n:=ω;have HLN:Hid (∀x∈frL tk k,x<k):=ι (λx hx=>frL_lt hx);have hfl:=xX0 tk k;have HFE:=ι (yAc k tk);generalize frL tk k=fl at HJ HLN hfl HFE;have c0:=xA HJ.o.pl 1;simp only[gA,gB,gC] at c0;clear hlt
     rcases HJ.o.own.row_of with ⟨rfl,rfl⟩|⟨g,cc,rest,rfl,hcc,hrow,hbg⟩
     ·have HP:=ι (HJ.o.pool (xDi _ _) σ σ HN.o rfl);go_wp2_with fail
      refine(yA3 _ _ _ wr c0).mono ?_;rintro e w6 ⟨rfl,rfl⟩;go_wp2;go_ret;refine⟨_,rfl,?_,HJ.o.bel⟩;rw[HFE.o];exact HP.o
     ·have hdw:DwI wr (w.heap.size+1) g fl.length cc fl rest wr:=⟨hrow,c0,rfl,Tn.refl _ _,xH HJ.o.pl,λe=>HJ.o.ne1 (by rw[e];rfl)⟩;have HD:=ι (yA4 (w.heap.size+1) g fl.length cc fl rest wr hdw ω)
      have HF:Hid (g≠w.heap.size/\g≠w.heap.size+1/\w.heap.size<=g/\fl.length<=cc):=ι ⟨λe=>HJ.o.ne0 (by rw[e];rfl),λe=>HJ.o.ne1 (by rw[e];rfl),hbg,hcc⟩;clear hdw hrow hbg hcc;go_wp2_with fail
      refine HD.o.mono ?_;rintro e w6 ⟨rfl,hd⟩;have H6:=ι hd;clear hd HD;go_wp2;go_ret;obtain⟨f1,f2,f3,f4⟩:=HF.o;have hd:=H6.o;have hpm:=xSm fl;have hs6:=hd.tn.size;have hs7:=xH HJ.o.pl
      refine⟨_,rfl,⟨w.heap.size,_,tkB k tk,ω,ω,Nat.le_refl _,ω,ω,?_,?_,xDi _ _,.inr ⟨g,cc,rest,rfl,?_,?_,f3,xH hd.row.blk,f2,f1⟩,?_,?_,HN.o⟩,?_⟩
      ·exact(hd.tn.block _ (xH HJ.o.pl) (Ne.symm f2)).trans (by have:=HJ.o.pl;rw[this,HFE.o,hpm.length_eq])
      ·exact(hd.tn.block _ (xH HJ.o.tb) (Ne.symm f1)).trans HJ.o.tb
      ·rw[HFE.o,hpm.length_eq];exact f4
      ·rw[HFE.o];exact hd.row
      ·rw[HFE.o];exact λx hx=>HLN.o x (hpm.mem_iff.1 hx)
      ·rw[HFE.o,hpm.length_eq];exact hfl
      ·exact HJ.o.bel.trans (hd.tn.below (λq hq=>by rw[hq];exact f3) HJ.o.bel.size)
theorem xCe (lo hi gp n:Nat) (w:World) (hp:pW w lo hi gp n []):
  Calls prog 267 #[.pointer (some ⟨gp,0,none⟩)] w λe w'=>e=.returned (.tuple #[.int .i64 0,.bool false])/\w'=w:=by
 obtain⟨gt,fv,bs,h1,h1',h2,h2',h3,h4,h5,h6,h7,h8,h9,h10⟩:=hp
 have hf:∃A c,fv=.slice A 0 c:=by
  rcases h7 with ⟨_,h⟩|⟨g,c,rest,h,_⟩
  ·exact h
  ·exact⟨_,_,h⟩
 obtain⟨A,c,rfl⟩:=hf;have c1:=xA h4 1;simp only[gA,gB,gC] at c1;clear h1 h2 h3 h4 h5 h6 h7 h8 h9 h10 h1' h2';go_enter func267,ntmps267;go_wp2;go_ret2;exact⟨rfl,rfl⟩
theorem xEx (lo hi gp n x:Nat) (h:List Nat) (w:World) (hp:pW w lo hi gp n (x::h)):
  Calls prog 267 #[.pointer (some ⟨gp,0,none⟩)] w λe w'=>e=.returned (.tuple #[.int .i64 x,.bool true])/\pW w' lo hi gp n (xH0 (x::h))/\Tn (λk=>lo<=k/\k<hi) w w':=by
 obtain⟨gt,fv,bs,h1,h1',h2,h2',h3,h4,h5,h6,h7,h8,h9,h10⟩:=hp;rcases h7 with ⟨h7,_⟩|⟨g,c,rest,rfl,k2,k3,k4,k4',k5,k6⟩
 ·cases h7
 have c1:=xA h4 1;simp only[gA,gB,gC] at c1;have hx:=h8 x (List.mem_cons_self ..);have hp0:=ι (yA6 gp g h.length c (x::h) rest w ⟨k3,c1,rfl,Tn.refl _ _,xH h4,λe=>k5 e.symm⟩ (xB h4 1) k2 (by simp at h9;omega));have hpl:=yD2 (h:=x::h) σ;have hpp:=xPg (h:=x::h) σ
 have H:=ι (And.intro h4 h5);have HM:Hid ((xH0 (x::h)).length=h.length/\(∀y∈xH0 (x::h),y<n)):=ι ⟨by simpa using hpl,λy hy=>h8 y (hpp.mem_iff.1 (List.mem_cons_of_mem _ hy))⟩
 have HX:Hid (lo<=gp/\gp<hi/\lo<=gt/\gt<hi/\gp≠gt/\bs.length=n/\lo<=g/\g<hi/\g≠gp/\g≠gt/\h.length<=c/\h.length<=n/\n<=256):=ι ⟨h1,h1',h2,h2',h3,h6,k4,k4',k5,k6,by simp at k2;omega,by simp at h9;omega,h10⟩;have hnz:¬((h.length:Int)+1=0):=ω
 have hnz2:((h.length:Int)+1==0)=false:=by simpa using hnz
 have hxn:(x:Int)<(n:Int):=ω;clear h1 h2 h3 h4 h5 h6 h8 h9 h10 h1' h2' k2 k3 k4 k4' k5 k6 hpl hpp hx;go_enter func267,ntmps267;go_wp2_with fail
 refine hp0.o.mono ?_;rintro e w1 ⟨rfl,W,rest',rfl,ht,hrow⟩;obtain⟨x1,x2,x3,x4,x5,x6,x7,x8,x9,x10,x11,x12,x13⟩:=HX.o;have q1:=ht.blk H.o.1 (λe=>x9 e.symm);have q2:=ht.blk H.o.2 (λe=>x10 e.symm);have q3:=xY q1 1 (.slice (some ⟨g,0,none⟩) h.length c)
 simp only[List.setIfInBounds_toArray,List.set_cons_zero,List.set_cons_succ] at q3;have q4:=yC q2 (p:=⟨gp,1,none⟩) (λe=>x5 e.symm) (.slice (some ⟨g,0,none⟩) h.length c);have q5:=vJ.far hrow (p:=⟨gp,1,none⟩) x9 (.slice (some ⟨g,0,none⟩) h.length c)
 have t1:Tn (λk=>lo<=k/\k<hi) w (W.setCell ⟨gp,1,none⟩ (.slice (some ⟨g,0,none⟩) h.length c)):=(ht.more (λk hk=>by subst hk;exact⟨x7,x8⟩)).set (p:=⟨gp,1,none⟩) (.inl ⟨x1,x2⟩) _;have HK:=ι (And.intro q3 (And.intro q4 (And.intro q5 t1)))
 clear q1 q2 q3 q4 q5 t1 ht hrow H hp0 c1 x1 x2 x3 x4 x5 x7 x8 x9 x10 x11 x12 x13;generalize W.setCell ⟨gp,1,none⟩ (.slice (some ⟨g,0,none⟩) h.length c)=w2 at HK⊢;have c0:=xA HK.o.1 0
 have c2:∃b,w2.cell? ⟨gt,x,none⟩=some (.bool b):=by
  rw[xA HK.o.2.1,List.getElem?_toArray,List.getElem?_map,List.getElem?_eq_getElem ω];exact⟨_,rfl⟩
 obtain⟨b,c2⟩:=c2;have f2:=xB HK.o.2.1 x;simp only[gA,gC] at c0;clear x6;have hta:∀w,(Instr.typeAssert (.iface 3 (.int .i64 (x:Int))) 20 3 true).run prog w=.ok (.tuple #[.int .i64 (x:Int),.bool true]) w:=λ_=>by kernel_rfl
 go_wp2;go_ret2;obtain⟨x1,x2,x3,x4,x5,x6,x7,x8,x9,x10,x11,x12,x13⟩:=HX.o
 refine⟨rfl,⟨gt,_,bs.set x true,x1,x2,x3,x4,x5,yC HK.o.1 (p:=⟨gt,x,none⟩) x5 _,?_,by simpa using x6,.inr ⟨g,c,rest',by rw[HM.o.1],by rw[HM.o.1];exact x11,vJ.far HK.o.2.2.1 (p:=⟨gt,x,none⟩) x10 _,x7,x8,x9,x10⟩,HM.o.2,by rw[HM.o.1];exact x12,x13⟩,HK.o.2.2.2.set (p:=⟨gt,x,none⟩) (.inl ⟨x3,x4⟩) _⟩
 have:=xY HK.o.2.1 x (.bool true);rw[this];simp[List.map_set]
end Go.Proofs.AL
namespace Mailsack
theorem xRc {l:List Slot} {k c:Nat} {t:Slot} (h:l[k]?=some t):uD (l.take (k+1)) c=uD (l.take k) c++(if (t.used&&t.cls==c)=true then[t.blk] else[]):=by
 unfold uD;rw[List.take_add_one,h,List.filter_append,List.map_append];cases hq:(t.used&&t.cls==c) with
 |true=>simp[hq]
 |false=>simp[hq]
theorem xL2 (l:List Slot) (c k:Nat):(uD (l.take k) c).length<=k:=by
 unfold uD;rw[List.length_map];have h1:=List.length_filter_le (λt:Slot=>t.used&&t.cls==c) (l.take k);have h2:=List.length_take_le k l;omega
end Mailsack
namespace Go.Proofs.ST
open Go.RowKit Mailsack MM BB SH SV RK DS AL
abbrev natF (n:Nat):List Value:=[.int .i64 (n:Int)]
theorem xJm (n:Nat):(natF n).length=1:=rfl
theorem xZr (x:Nat):∀u∈natF x,u.oneCell'=true:=by
 intro u hu;rw[List.mem_singleton.1 hu];rfl
theorem xQ1:(prog.info? 3).map (λi=>(i.zero,i.size,i.bytes))=some (some (.int .i64 0),1,8):=κ
theorem tyNat:yBw prog 65 3 1 8 natF:=by
 obtain⟨i,hi,hz,hs,hb⟩:=jA xQ1;exact⟨underlying65,⟨i,_,hi,hz,hs,hb,rfl⟩,ω,ω,xJm,xZr⟩
theorem rdN_of {w:World} {B:Nat} {v:Value} {l:List Nat} (h:RdR 1 natF w B v l):RdN w B v l:=by
 obtain⟨A,c,h1,h2,h3⟩:=h;refine⟨A,c,h1,h2,λhn=>?_⟩;obtain⟨b,off,h4,h5,h6⟩:=h3 hn;refine⟨b,off,h4,h5,λj x hx=>?_⟩;have:=h6 j x hx 0 _ rfl;rw[Nat.mul_one,Nat.add_zero] at this;exact this
structure TkS (w:World) (gs gl:Nat) (l:List Slot) (v:Value) (T:List Nat) (W:World):Prop where
 st:W.cell? ⟨gs,0,none⟩=some (.slice (some ⟨gl,0,none⟩) 32 32)
 sl:kM 165 qC W gl l
 own:zI 3 1 natF W w.heap.size v T
 bel:ψ w W
theorem xRd {w W W':World} {gs gl:Nat} {l:List Slot} {v:Value} {T:List Nat} (h:TkS w gs gl l v T W) (hgs:gs<w.heap.size) (hb:ψ W W'):TkS w gs gl l v T W':=
 ⟨(hb.cell (p:=⟨gs,0,none⟩) (Nat.lt_of_lt_of_le hgs h.bel.size)).trans h.st,h.sl.below hb,h.own.below hb,h.bel.trans (hb.mono h.bel.size)⟩
theorem xL3 (gs gl c:Nat) (l:List Slot) (w:World) (h1:w.cell? ⟨gs,0,none⟩=some (.slice (some ⟨gl,0,none⟩) 32 32)) (h2:kM 165 qC w gl l) (hl:l.length=32) (hgs:gs<w.heap.size):
  Calls prog 175 #[.pointer (some ⟨gs,0,none⟩),.int .i64 c] w λe w'=>∃v,e=.returned v/\RdN w' w'.heap.size v (uD l c)/\ψ w w':=by
 have H0:Hid (TkS w gs gl l (.slice none 0 0) (uD (l.take 0) c) w):=ι ⟨h1,h2,zI.nil _ _,Below.refl _ _⟩;have HL:=ι (And.intro hl hgs);clear h2 hl hgs;go_enter func175,ntmps175;go_wp2_with fail
 clear h1
 go_loopw [5,13] (λtv iv wr=>∃k:Nat,k<=32/\iv=.int .i64 k/\Hid (TkS w gs gl l tv (uD (l.take k) c) wr)) (λ_ iv _=>32- (intOf iv).toNat)
 case atStart=>exact⟨0,Nat.zero_le _,rfl,H0⟩
 case round=>
  obtain⟨k,hk,rfl,HI⟩:=hrel;clear H0
  by_cases hlt:k<32
  ·obtain⟨x,hx⟩:∃x,l[k]?=some x:=⟨_,List.getElem?_eq_getElem (by have:=HL.o.1;omega)⟩;have q0:=HI.o.sl.cell zM (i:=0) hx rfl;have q1:=HI.o.sl.cell zM (i:=1) hx rfl;have q2:=HI.o.sl.cell zM (i:=2) hx rfl;have q3:=HI.o.sl.cell zM (i:=3) hx rfl
   have q4:=HI.o.sl.cell zM (i:=4) hx rfl;rw[Nat.add_zero] at q0;have HS:=ι (xRc (c:=c) hx);have HTL:=ι (xL2 l c k);have HA:=ι (xRd HI.o HL.o.2 ((Below.refl _ _).alloc ν (wU x)));have hbx:=xM wr (wU x);obtain⟨x0,x1,x2,x3,x4⟩:=xTn hbx;have hbx2:=ι hbx
   generalize uD (l.take k) c=T at HI HS HTL HA;clear hx hbx HI;go_upto_region 5 with fail
   clear q0 q1 q2 q3 q4;obtain⟨xu,xc,xb,xs,xn⟩:=x;simp only at HS HA x0 x1 x2 x3 x4 hbx2;generalize wr.alloc (.cells #[.bool xu,.int .i64 xc,.int .i64 xb,.int .i64 xs,xR xn] 165)=w2 at HA x0 x1 x2 x3 x4 hbx2⊢
   by_cases hu:xu=true/\xc=c
   ·obtain⟨rfl,rfl⟩:=hu;rw[if_pos σ] at HS;go_upto_region 6 with fail
    have hsz:=HA.o.bel.size
    have HAD:Hid (∀v8 w8,xKt 3 1 natF (w2.alloc (.cells #[.int .i64 (xb:Int)] 3)) w8 w.heap.size u5 v8 (T++[xb])->Hid (TkS w gs gl l v8 (uD (l.take (k+1)) xc) w8)):=ι λv8 w8 h8=>ι (by
     have hlo:=HL.o.2;have h9:=xO HA.o.sl.blk (.cells #[.int .i64 (xb:Int)] 3);refine⟨?_,h8.keep h9 (zI.neT (HA.o.own.alloc _) h9 δ),by rw[HS.o];exact h8.own,h8.bel (HA.o.own.alloc _) ν (HA.o.bel.alloc HA.o.bel.size _) (by simp;omega)⟩
     rw[(h8.bel (HA.o.own.alloc _) ν ((Below.refl w.heap.size w2).alloc hsz _) (by simp;omega)).cell (p:=⟨gs,0,none⟩) hlo];exact HA.o.st)
    go_wp2_with (at_builtin;refine vL tyNat rfl _ _ rfl rfl rfl (HA.o.own.alloc _) (RdR.lit (m:=[xb]) xJm _ _ rfl) (by have:=HTL.o;simp;omega) (by simp;omega) ?_;intro v8 w8 h8;have HA8:=HAD.o _ _ h8;clear h8)
    exact⟨⟨k+1,ω,by go_num,HA8⟩,by simp[intOf];omega⟩
   ·have hf:(xu&&xc==c)=false:=by
     cases hq:(xu&&xc==c) with
     |false=>rfl
     |true=>simp at hq;exact absurd hq hu
    rw[hf,if_neg σ,List.append_nil] at HS;have HA9:Hid (TkS w gs gl l u5 (uD (l.take (k+1)) c) w2):=ι (by rw[HS.o];exact HA.o);cases xu with
    |false=>
     clear hu hf;go_wp2;exact⟨⟨k+1,ω,by go_num,HA9⟩,by simp[intOf];omega⟩
    |true=>
     have hc:¬((xc:Int)=(c:Int)):=by
      intro e;exact hu ⟨rfl,ω⟩
     have hc2:((xc:Int)==(c:Int))=false:=by simpa using hc
     clear hu hf;go_wp2;exact⟨⟨k+1,ω,by go_num,HA9⟩,by simp[intOf];omega⟩
  ·obtain rfl:k=32:=ω;have HE:Hid (uD (l.take 32) c=uD l c):=ι (by rw[List.take_of_length_le (by rw[HL.o.1];omega)]);rw[HE.o] at HI;go_wp2;go_ret;exact⟨_,rfl,rdN_of (HI.o.own.rd xJm),HI.o.bel⟩
structure StL where
 gl:Nat
 gs:Nat
 gp0:Nat
 lo0:Nat
 hi0:Nat
 gp1:Nat
 lo1:Nat
 hi1:Nat
abbrev wT (L:StL) (cv:Value):Obj:=.cells #[.slice (some ⟨L.gl,0,none⟩) 32 32,.pointer (some ⟨L.gp0,0,none⟩),.pointer (some ⟨L.gp1,0,none⟩),cv] 236
structure StM (w:World) (L:StL) (cv wv:Value) (s:StS) (W:World):Prop where
 st:W.heap[L.gs]?=some (wT L cv)
 sl:kM 165 qC W L.gl s.slots
 p0:pW W L.lo0 L.hi0 L.gp0 24 s.xAr
 p1:pW W L.lo1 L.hi1 L.gp1 12 s.xAq
 wr:zI 154 2 wrF W L.hi1 wv s.writes
 len:s.slots.length=32
 bel:ψ w W
 o0:w.heap.size<=L.gl
 o1:L.gl<L.gs
 o2:L.gs<L.lo0
 o3:L.lo0<=L.hi0
 o4:L.hi0<=L.lo1
 o5:L.lo1<=L.hi1
 o6:L.hi1<=W.heap.size
section
variable {w W W':World} {L:StL} {cv wv:Value} {s:StS}
theorem StM.below (h:StM w L cv wv s W) (hb:ψ W W'):StM w L cv wv s W':=
 ⟨xD h.st hb (xH h.st),h.sl.below hb,h.p0.below hb,h.p1.below hb,h.wr.below hb,h.len,h.bel.trans (hb.mono h.bel.size),h.o0,h.o1,h.o2,h.o3,h.o4,h.o5,Nat.le_trans h.o6 hb.size⟩
theorem xFt (b:Nat):∀(l:List Value) (i:Nat) (W:World),(xU b i l W).heap.size=W.heap.size
 |[],_,_=>rfl
 |_::l,i,W=>by unfold xU;rw[xFt b l,size_set]
theorem zI.xU {α:Type} {e:TypeId} {k:Nat} {f:α->List Value} {w:World} {base:Nat} {v:Value} {l:List α} (h:zI e k f w base v l) {g:Nat} (xs:List Value) (i:Nat) (hg:g<base):zI e k f (SV.xU g i xs w) base v l:=by
 refine⟨h.1,?_⟩;rcases h.2 with hn|⟨g',cap,cur,h1,h2,h3,h4⟩
 ·exact .inl hn
 ·exact .inr ⟨g',cap,cur,h1,h2,yX ω xs i _ h3,h4⟩
theorem StM.slot (h:StM w L cv wv s W) {k:Nat} (hk:k<32) (t:Slot):StM w L cv wv {s with slots:=s.slots.set k t} (xU L.gl (k*5) (qC t) W):=by
 have a1:=h.o1;have a2:=h.o2;have a3:=h.o3;have a4:=h.o4;have a5:=h.o5
 refine⟨yX ω _ _ _ h.st,h.sl.put zM (by rw[h.len];exact hk) t,h.p0.kept λq o hq h1 h2=>yX ω _ _ _ hq,h.p1.kept λq o hq h1 h2=>yX ω _ _ _ hq,zI.xU h.wr _ _ ω,by simpa using h.len,yZ h.o0 _ _ _ h.bel,h.o0,h.o1,h.o2,h.o3,h.o4,h.o5,by rw[xFt];exact h.o6⟩
theorem StM.app {l':List Wr} {wv':Value} (h:StM w L cv wv s W) (ha:xKt 154 2 wrF W W' L.hi1 wv wv' l'):StM w L cv wv' {s with writes:=l'} W':=by
 have a0:=h.o0;have a1:=h.o1;have a2:=h.o2;have a3:=h.o3;have a4:=h.o4;have a5:=h.o5;have a6:=h.o6;have hf:∀p,p<L.hi1->wv.ownBlock≠some p:=λp hp=>h.wr.far hp
 refine⟨ha.keep h.st (hf _ ω),ha.keep h.sl.blk (hf _ ω),h.p0.kept λq o hq h1 h2=>ha.keep hq (hf _ ω),h.p1.kept λq o hq h1 h2=>ha.keep hq (hf _ h2),ha.own,h.len,ha.bel h.wr ω h.bel ω,h.o0,h.o1,h.o2,h.o3,h.o4,h.o5,Nat.le_trans h.o6 ha.grown.size⟩
theorem StM.cell (h:StM w L cv wv s W) (cv':Value):StM w L cv' wv s (W.setCell ⟨L.gs,3,none⟩ cv'):=by
 have a0:=h.o0;have a1:=h.o1;have a2:=h.o2;have a3:=h.o3;have a4:=h.o4;have a5:=h.o5;have a6:=h.o6;have hs:=xY h.st 3 cv';simp only[List.setIfInBounds_toArray,List.set_cons_zero,List.set_cons_succ] at hs
 refine⟨hs,yC h.sl.blk (p:=⟨L.gs,3,none⟩) (by show L.gl≠L.gs;omega) _,h.p0.kept λq o hq h1 h2=>yC hq (p:=⟨L.gs,3,none⟩) (by show q≠L.gs;omega) _,h.p1.kept λq o hq h1 h2=>yC hq (p:=⟨L.gs,3,none⟩) (by show q≠L.gs;omega) _,h.wr.xHw (p:=⟨L.gs,3,none⟩) _ (h.wr.far (by show L.gs<L.hi1;omega)),h.len,h.bel.setCell (p:=⟨L.gs,3,none⟩) (by show w.heap.size<=L.gs;omega) _,h.o0,h.o1,h.o2,h.o3,h.o4,h.o5,by rw[size_set];exact h.o6⟩
end
theorem xFs (w:World) (K:StL) (wv:Value) (s:StS) (i:Nat) (t:Slot) (W:World) (h:StM w K wv wv s W) (hi:i<32) (hc:t.cls<=255) (hb:t.blk<=255) (hs:t.size<=65535) (hn:t.name.length<=255) (hw:s.writes.length<=10000):
  Calls prog 265 #[.pointer (some ⟨K.gs,0,none⟩),.int .i64 i,xGz t] W λe W'=>e=.returned (.tuple #[])/\∃wv',StM w K wv' wv' (putAt s i t) W':=by
 have HEN:=ι (λW=>xIi t W hc hb hs hn);have HP0:Hid (StM w K wv wv s (W.alloc (wU t))/\(W.alloc (wU t)).heap[W.heap.size]?=some (wU t)/\K.hi1<=W.heap.size):=ι ⟨h.below ((Below.refl _ _).alloc ν _),xM _ _,h.o6⟩
 have HPA:Hid (putAt s i t={s with slots:=s.slots.set i t,writes:=s.writes++[setW i t]}):=ι rfl;have HSW:Hid (setW i t=⟨((61+i:Nat):Int),xQd t⟩):=ι rfl;have hi32:(i:Int)<32:=ω;obtain⟨bx,hbx⟩:∃bx,W.heap.size=bx:=⟨_,rfl⟩;rw[hbx] at HP0;have HBX:=ι hbx;have HW:=ι hw
 clear h hc hb hs hn hbx hw;go_enter func265,ntmps265;go_upto_region 1 with fail
 rw[HBX.o];generalize hw1:W.alloc (.cells #[.bool t.used,.int .i64 t.cls,.int .i64 t.blk,.int .i64 t.size,xR t.name] 165)=w1;have HP1:Hid (StM w K wv wv s w1/\w1.heap[bx]?=some (wU t)/\K.hi1<=bx):=ι (by rw[<-hw1];exact HP0.o);clear hw1 HP0 HBX
 refine RG.uA [7] [] (λF α W=>Hid ((F 7=false->StM w K wv wv s W)/\(F 7=true->StM w K wv wv {s with slots:=s.slots.set i t} W)/\W.heap[bx]?=some (wU t)))
  (λF F' α α' W hl _ h=>ι (by rw[<-hl 7 σ];exact h.o)) κ κ κ (ι ⟨λ_=>HP1.o.1.below (Below.refl _ _).drew,λe=>(by cases e),HP1.o.2.1⟩) ?_
 iterate 3 refine RG.vS ?_
 apply RG.zC
 ·rfl
 ·rfl
 ·intro α L w9 h0 hcl xK hw9;have f7:L 7=false:=hcl.not 8 (i:=7) h0 κ;have hb:=(hw9.o.1 f7).st;have s0:=xKb hb;repeat go_step
  exact RG.xC hw9
 ·intro α;rfl
 refine RG.vS ?_;iterate 2 refine RG.vF (λα L w9 h0 hcl xK hw9=>xTn hw9.o.2.2) ?_
 apply RG.jK (v:=undef)
 ·rfl
 ·rfl
 ·intro α L w9 h0 hcl xK hw9;have hst:=hw9.o.1 h0;have HPU:=ι (hst.slot hi t);have HBX:=ι (yX (b:=K.gl) (g:=bx) (by have:=HP1.o.2.2;have:=hst.o1;have:=hst.o2;have:=hst.o3;have:=hst.o4;have:=hst.o5;omega) (qC t) (i*5) w9 hw9.o.2.2)
  obtain⟨y,hy⟩:∃y,s.slots[i]?=some y:=⟨_,List.getElem?_eq_getElem (by rw[hst.len];exact hi)⟩;have f0:=hst.sl.free (i*5);have f1:=hst.sl.free (i*5+1);have f2:=hst.sl.free (i*5+2);have f3:=hst.sl.free (i*5+3);have f4:=hst.sl.free (i*5+4);have o0:=hst.sl.cell zM (i:=0) hy rfl
  have o1:=hst.sl.cell zM (i:=1) hy rfl;have o2:=hst.sl.cell zM (i:=2) hy rfl;have o3:=hst.sl.cell zM (i:=3) hy rfl;have o4:=hst.sl.cell zM (i:=4) hy rfl;rw[Nat.add_zero] at o0;simp only[xU] at HPU HBX;clear hst hy;repeat go_step
  refine RG.xC ?_;exact ι ⟨λe=>by simp at e,λ_=>HPU.o,HBX.o⟩
 ·intro α;rfl
 refine RG.qV (λα w2 hw2=>?_);have HP2:Hid (StM w K wv wv {s with slots:=s.slots.set i t} w2/\w2.heap[bx]?=some (wU t)/\K.hi1<=bx):=ι ⟨hw2.o.2.1 rfl,hw2.o.2.2,HP1.o.2.2⟩;clear hw2 HP1;go_upto_region 2 with fail
 obtain⟨ev,hev⟩:∃ev,xQd t=ev:=⟨_,rfl⟩;rw[hev] at HEN HSW;clear hev;obtain⟨sl2,hsl2⟩:∃l,s.slots.set i t=l:=⟨_,rfl⟩;rw[hsl2] at HP2 HPA;have hat:(61:Int)+(i:Int)=((61+i:Nat):Int):=ω;have HAT:=ι hat;clear hat hsl2
 refine RG.uA [14] [10,11] (λF α W=>Hid ((F 11=false->StM w K wv wv {s with slots:=sl2} W)/\(F 10=true->F 11=false->RdR 2 wrF W W.heap.size (α 10) [⟨61+(i:Int),ev⟩])/\
  (F 11=true->F 14=false->StM w K wv (α 11) {s with slots:=sl2,writes:=s.writes++[⟨61+(i:Int),ev⟩]} W)/\(F 11=true->F 14=true->StM w K (α 11) (α 11) {s with slots:=sl2,writes:=s.writes++[⟨61+(i:Int),ev⟩]} W)/\W.heap[bx]?=some (wU t)))
  (λF F' α α' W hl ha h=>ι (by
   have l10:=hl 10 σ;have l11:=hl 11 σ;have l14:=hl 14 σ;refine⟨λe=>h.o.1 (l11.trans e),λe f=>?_,λe f=>?_,λe f=>?_,h.o.2.2.2.2⟩
   ·rw[<-ha 10 σ (l10.trans e)];exact h.o.2.1 (l10.trans e) (l11.trans f)
   ·rw[<-ha 11 σ (l11.trans e)];exact h.o.2.2.1 (l11.trans e) (l14.trans f)
   ·rw[<-ha 11 σ (l11.trans e)];exact h.o.2.2.2.1 (l11.trans e) (l14.trans f))) κ κ κ (ι ⟨λ_=>HP2.o.1.below (Below.refl _ _).drew,λe=>(by cases e),λe=>(by cases e),λe=>(by cases e),HP2.o.2.1⟩) ?_
 iterate 4 refine RG.vS ?_
 apply RG.zC
 ·rfl
 ·rfl
 ·intro α L w9 h0 hcl xK hw9;have f14:L 14=false:=hcl.not 9 (i:=14) h0 κ
  have hb:w9.heap[K.gs]?=some (wT K wv):=by
   cases f11:L 11 with
   |false=>exact(hw9.o.1 f11).st
   |true=>exact(hw9.o.2.2.1 f11 f14).st
  have s3:=xA hb 3;simp only[gA,gB,gC] at s3;clear hb;repeat go_step
  exact RG.xC hw9
 ·intro α;rfl
 iterate 2 refine RG.vS ?_
 refine RG.vF (λα L w9 h0 hcl xK hw9=>xTn hw9.o.2.2.2.2) ?_;apply RG.zC
 ·rfl
 ·rfl
 ·intro α L w9 h0 hcl xK hw9;repeat go_step
  refine(HEN.o _).mono ?_;rintro e w10 ⟨rfl,zF⟩;simp only[];repeat go_step
  refine RG.xC ?_;exact ι ⟨λe=>(hw9.o.1 e).below zF,λe f=>((hw9.o.2.1 e f).below zF ν).more zF.size,λe f=>(hw9.o.2.2.1 e f).below zF,λe f=>(hw9.o.2.2.2.1 e f).below zF,xD hw9.o.2.2.2.2 zF (xH hw9.o.2.2.2.2)⟩
 ·intro α;rfl
 refine RG.vS ?_;apply RG.vK
 ·rfl
 ·intro α L w9 h0 hcl xK hw9;have f11:L 11=false:=hcl.not 9 (i:=11) h0 κ;refine⟨.slice (some ⟨w9.heap.size,0,none⟩) 1 1,λbv hbv=>?_⟩;repeat go_step
  rw[<-hbv];refine RG.xC ?_;have hal:=φ w9 (.cells #[.int .i64 (61+(i:Int)),xR ev] 154)
  exact ι ⟨λ_=>(hw9.o.1 f11).below hal,λ_ _=>by
   rw[show RG.wO α (0+1+1+1+1+1+1+1+1+1+1) bv 10=bv from RG.uV _ _ _,hbv,vD];exact RdR.lit (m:=[(⟨61+(i:Int),ev⟩:Wr)]) xDd w9 _ rfl,λe=>absurd (show L 11=true by simpa using e) (by rw[f11];simp),λe=>absurd (show L 11=true by simpa using e) (by rw[f11];simp),xO hw9.o.2.2.2.2 _⟩
 ·intro b α;rfl
 apply RG.vK
 ·rfl
 ·intro α L w9 h0 hcl xK hw9
  have f10:L 10=true:=by
   have:=xK.yes 9 (i:=11) (j:=10) σ κ;simpa using this
  have f14:L 14=false:=hcl.not 9 (i:=14) h0 κ;have hst:=hw9.o.1 h0;obtain⟨v',w',hr,ha⟩:=xJ7 (P:=prog) tyWr 23 hst.wr (hw9.o.2.1 f10 h0) (by have:=HW.o;simp;omega) hst.o6;refine⟨v',λbv hbv=>?_⟩;refine xBk rfl _ _ rfl rfl rfl hr ?_;rw[<-hbv];repeat go_step
  refine RG.xC ?_
  exact ι ⟨λe=>by simp at e,λ_ e=>by simp at e,λ_ _=>by
   rw[show RG.wO α (0+1+1+1+1+1+1+1+1+1+1+1) bv 11=bv from RG.uV _ _ _,hbv];exact hst.app ha,λ_ e=>absurd (show L 14=true by simpa using e) (by rw[f14];simp),ha.keep hw9.o.2.2.2.2 (zI.neT hst.wr hw9.o.2.2.2.2 δ)⟩
 ·intro b α;rfl
 iterate 2 refine RG.vS ?_
 apply RG.xOx (v:=λ_=>undef)
 ·rfl
 ·kernel_rfl
 ·rfl
 ·intro α L w9 h0 hcl xK hw9
  have f11:L 11=true:=by
   have:=xK.yes 9 (i:=14) (j:=11) σ κ;simpa using this
  have hst:=hw9.o.2.2.1 f11 h0;obtain⟨A,c,hg,_⟩:=hst.wr.form;rw[show(s.writes++[(⟨61+(i:Int),ev⟩:Wr)]).length=s.writes.length+1 by simp] at hg;have HC:=ι (hst.cell (α 11))
  have HBX:=ι (yC hw9.o.2.2.2.2 (p:=⟨K.gs,3,none⟩) (by have:=HP2.o.2.2;have:=hst.o2;have:=hst.o3;have:=hst.o4;have:=hst.o5;show bx≠K.gs;omega) (α 11));have hb:=hst.st;have s3:=xA hb 3;have y3:=xB hb 3;simp only[gA,gB,gC] at s3;have HG:=ι hg
  rw[show α (0+1+1+1+1+1+1+1+1+1+1+1)=_ from hg];clear hst hb hg;repeat go_step
  rw[<-show α (0+1+1+1+1+1+1+1+1+1+1+1)=_ from HG.o];refine RG.xC ?_;exact ι ⟨λe=>absurd (show L 11=false by simpa using e) (by rw[f11];simp),λ_ e=>absurd (show L 11=false by simpa using e) (by rw[f11];simp),λ_ e=>by simp at e,λ_ _=>HC.o,HBX.o⟩
 ·intro α;rfl
 refine RG.qV (λα w3 hw3=>?_);have HR:=ι (hw3.o.2.2.2.1 rfl rfl);clear hw3;go_wp2;refine bodyPost_end (results_none rfl _ _ _) rfl ?_;refine⟨rfl,α 11,?_⟩;rw[HPA.o,HSW.o,<-HAT.o];exact HR.o
end Go.Proofs.ST
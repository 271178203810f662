/- Contracts of functions. Conditions: as stated. -/
import Derived.Test.YtacahegificeoaaGreatDoorImapLoginsProofB12
set_option maxHeartbeats 8000000
set_option maxRecDepth 100000
namespace Mailsack
def finA (l:List Int):Int:=Go.bits .or .u64 (Go.bits .or .u64 (l.getD 0 0) (Go.IntKind.u64.wrap (l.getD 1 0*67108864))) (Go.IntKind.u64.wrap (l.getD 2 0*4503599627370496))
def finB (l:List Int):Int:=Go.bits .or .u64 (Go.bits .or .u64 (l.getD 2 0 / 4096) (Go.IntKind.u64.wrap (l.getD 3 0*16384))) (Go.IntKind.u64.wrap (l.getD 4 0*1099511627776))
def xX8 (s:ByteArray):Int:=Go.bits .or .u64 (uD s 0) (Go.IntKind.u64.wrap (uD s 4*4294967296))
def halfB (s:ByteArray):Int:=Go.bits .or .u64 (uD s 8) (Go.IntKind.u64.wrap (uD s 12*4294967296))
def lowF (l:List Int) (s:ByteArray):Int:=(finA l+xX8 s) % 18446744073709551616
def yA9 (l:List Int) (s:ByteArray):Int:=(finA l+xX8 s) / 18446744073709551616
def xX3 (l:List Int) (s:ByteArray):Int:=(finB l+halfB s+yA9 l s) % 18446744073709551616
def xS6 (lo hi:Int):Nat->Bs
 |0=>xQ 16
 |i+1=>((xS6 lo hi i).set i (oct (lo / 2^(8*i)))).set (8+i) (oct (hi / 2^(8*i)))
theorem xJ7 (lo hi:Int):∀i,(xS6 lo hi i).length=16
 |0=>zC 16
 |i+1=>by rw[xS6,List.length_set,List.length_set,xJ7 lo hi i]
def finP (l:List Int) (s:ByteArray):ByteArray:=bsA (xS6 (lowF l s) (xX3 l s) 8)
theorem xXj (l:List Int) (s:ByteArray):(finP l s).size=16:=by
 have:=xJ7 (lowF l s) (xX3 l s) 8;simpa[finP,bsA,ByteArray.size] using this
end Mailsack
namespace Go.Proofs.SH
open Go.RowKit Mailsack MM BB
theorem yFb (x y c:Int) (hx:0<=x) (hy:0<=y) (hc0:0<=c) (hc:c<=1) (w:World):
  (callFunc 252 #[.int .u64 x,.int .u64 y,.int .u64 c]).run Tryz.prog w=
   .ok (.value (.tuple #[.int .u64 ((x+y+c) % 18446744073709551616),.int .u64 ((x+y+c) / 18446744073709551616)])) w:=by
 rw[run_callFunc_extern Tryz.func252 κ κ κ (e:=add64Entry) κ,run_add64 x y c hx hy hc0 hc]
 rfl
structure FhM (w:World) (hs:List Int) (W:World):Prop where
 bh:uJ W w.heap.size hs
 bel:Below w.heap.size w W
theorem FhM.below {w:World} {hs:List Int} {W W':World} (h:FhM w hs W) (hb:Below W.heap.size W W'):FhM w hs W':=
 ⟨xB h.bh hb (xG h.bh),h.bel.trans (hb.mono h.bel.size)⟩
theorem xOg (hs:List Int) (s:ByteArray) (w:World) (hl:hs.length=5) (hu:yV hs) (h16:s.size=16):
  Calls Tryz.prog 241 #[.agg (xH hs),.string s] w λe w'=>e=.returned (.string (finP hs s))/\Below w.heap.size w w':=by
 have W0:Hid (∀W,Calls Tryz.prog 323 #[.string s,.int .i64 0] W λe w'=>e=.returned (.int .u64 (uD s 0))/\Below W.heap.size W w'):=ι (λW=>jX s 0 W ω ω)
 have W4:Hid (∀W,Calls Tryz.prog 323 #[.string s,.int .i64 4] W λe w'=>e=.returned (.int .u64 (uD s 4))/\Below W.heap.size W w'):=ι (λW=>jX s 4 W ω ω)
 have W8:Hid (∀W,Calls Tryz.prog 323 #[.string s,.int .i64 8] W λe w'=>e=.returned (.int .u64 (uD s 8))/\Below W.heap.size W w'):=ι (λW=>jX s 8 W ω ω)
 have W12:Hid (∀W,Calls Tryz.prog 323 #[.string s,.int .i64 12] W λe w'=>e=.returned (.int .u64 (uD s 12))/\Below W.heap.size W w'):=ι (λW=>jX s 12 W ω ω);have HF:Hid (∀n,n=8->finP hs s=bsA (xS6 (lowF hs s) (xX3 hs s) n)):=ι (λn hn=>by rw[hn];rfl)
 obtain⟨lw,hlw⟩:∃x,lowF hs s=x:=⟨_,rfl⟩;obtain⟨hw,hhw⟩:∃x,xX3 hs s=x:=⟨_,rfl⟩;obtain⟨ov,hov⟩:∃x,yA9 hs s=x:=⟨_,rfl⟩;rw[hlw,hhw] at HF;unfold lowF finA xX8 at hlw;unfold yA9 finA xX8 at hov;have xJn:=hhw;unfold xX3 finB halfB at xJn;unfold yA9 finA xX8 at xJn;clear hhw
 obtain⟨u00,u01⟩:=pF s 0;obtain⟨u40,u41⟩:=pF s 4;obtain⟨u80,u81⟩:=pF s 8;obtain⟨uc0,uc1⟩:=pF s 12;obtain⟨y0,hy0⟩:∃x,uD s 0=x:=⟨_,rfl⟩;obtain⟨y4,hy4⟩:∃x,uD s 4=x:=⟨_,rfl⟩;obtain⟨y8,hy8⟩:∃x,uD s 8=x:=⟨_,rfl⟩;obtain⟨y12,hy12⟩:∃x,uD s 12=x:=⟨_,rfl⟩;rw[hy0] at W0 u00 u01 hlw hov xJn
 rw[hy4] at W4 u40 u41 hlw hov xJn;rw[hy8] at W8 u80 u81 xJn;rw[hy12] at W12 uc0 uc1 xJn;have HM:Hid (FhM w hs (w.alloc (.cells (xH hs) 310))):=ι ⟨xL _ _,(Below.refl w.heap.size w).alloc ν _⟩;have HM2:Hid (FhM w hs (w.alloc (.cells (xH hs) 310)).drew):=ι ⟨HM.o.bh,HM.o.bel.drew⟩
 obtain⟨a,ha⟩:∃x,hs.getD 0 0=x:=⟨_,rfl⟩;obtain⟨b,hb⟩:∃x,hs.getD 1 0=x:=⟨_,rfl⟩;obtain⟨c,hc⟩:∃x,hs.getD 2 0=x:=⟨_,rfl⟩;obtain⟨d,hd⟩:∃x,hs.getD 3 0=x:=⟨_,rfl⟩;obtain⟨e,he⟩:∃x,hs.getD 4 0=x:=⟨_,rfl⟩;obtain⟨a0,a1⟩:=ha▸hu 0;obtain⟨b0,b1⟩:=hb▸hu 1;obtain⟨c0,c1⟩:=hc▸hu 2
 obtain⟨d0,d1⟩:=hd▸hu 3;obtain⟨e0,e1⟩:=he▸hu 4
 have HQ:Hid (∀W,Hid (FhM w hs W)->W.cell? ⟨w.heap.size,0,none⟩=some (.int .u64 a)/\W.cell? ⟨w.heap.size,1,none⟩=some (.int .u64 b)/\W.cell? ⟨w.heap.size,2,none⟩=some (.int .u64 c)/\W.cell? ⟨w.heap.size,3,none⟩=some (.int .u64 d)/\W.cell? ⟨w.heap.size,4,none⟩=some (.int .u64 e)):=ι (λW h=>by
  refine⟨?_,?_,?_,?_,?_⟩
  ·rw[h.o.bh.cell (i:=0) ω,ha]
  ·rw[h.o.bh.cell (i:=1) ω,hb]
  ·rw[h.o.bh.cell (i:=2) ω,hc]
  ·rw[h.o.bh.cell (i:=3) ω,hd]
  ·rw[h.o.bh.cell (i:=4) ω,he])
 rw[ha,hb,hc] at hlw hov;rw[hc,hd,he,ha,hb] at xJn;have HLW:=ι hlw;have HOV:=ι hov;have HHW:=ι xJn;clear hlw hov xJn;clear hu hl h16 ha hb hc hd he hy0 hy4 hy8 hy12;go_enter Tryz.func241,Tryz.ntmps241;go_upto_region 1 with fail
 refine RG.xP (λW=>Hid (FhM w hs W)) κ κ HM2 ?_;clear HM HM2
 iterate 11
  apply RG.xJ
  ·intro w9 hw9;obtain⟨q0,q1,q2,q3,q4⟩:=HQ.o w9 hw9;repeat go_step
   with_reducible exact RG.xD hw9
  ·rfl
 apply RG.xJ
 ·intro w9 hw9;repeat go_step
  refine(W0.o _).mono ?_;rintro e w10 ⟨rfl,zM⟩;simp only[];repeat go_step
  with_reducible refine RG.xD ?_
  exact ι (hw9.o.below zM)
 ·rfl
 refine RG.dS ?_;apply RG.xJ
 ·intro w9 hw9;repeat go_step
  refine(W4.o _).mono ?_;rintro e w10 ⟨rfl,zM⟩;simp only[];repeat go_step
  with_reducible refine RG.xD ?_
  exact ι (hw9.o.below zM)
 ·rfl
 iterate 2 refine RG.dS ?_
 obtain⟨lo,hlo⟩:∃x,bits .or .u64 (bits .or .u64 a (IntKind.u64.wrap (b*67108864))) (IntKind.u64.wrap (c*4503599627370496))=x:=⟨_,rfl⟩;obtain⟨lo0,lo1⟩:=hlo▸zD .or (bits .or .u64 a (IntKind.u64.wrap (b*67108864))) (IntKind.u64.wrap (c*4503599627370496))
 obtain⟨ha,hha⟩:∃x,bits .or .u64 y0 (IntKind.u64.wrap (y4*4294967296))=x:=⟨_,rfl⟩;obtain⟨ha0,ha1⟩:=hha▸zD .or y0 (IntKind.u64.wrap (y4*4294967296));rw[hlo,hha];have HLO:=ι hlo;have HHA:=ι hha;clear hlo hha;have hlw:=HLW.o;have hov:=HOV.o;have xJn:=HHW.o
 rw[HLO.o,HHA.o] at hlw hov xJn;rw[hov] at xJn;clear HLW HOV HHW HLO HHA;have HHW:=ι xJn;have hl0:=xDt (lo+ha);rw[hlw] at hl0;obtain⟨l0,l1⟩:=hl0;have ho0:0<=ov:=by omega
 have ho1:ov<=1:=by omega
 have A1:Hid (∀W,(callFunc 252 #[.int .u64 lo,.int .u64 ha,.int .u64 0]).run Tryz.prog W=.ok (.value (.tuple #[.int .u64 lw,.int .u64 ov])) W):=ι (λW=>by
  have h:=yFb lo ha 0 lo0 ha0 δ δ W;rw[Int.add_zero,hlw,hov] at h;exact h)
 clear xJn hlw hov;apply RG.xJ
 ·intro w9 hw9;have q9:=A1.o w9;repeat go_step
  with_reducible exact RG.xD hw9
 ·rfl
 iterate 5 refine RG.dS ?_
 refine RG.xS (λw9 hw9=>?_);clear W0 W4 A1 lo0 lo1 ha0 ha1 a0 a1 b0 b1 u00 u01 u40 u41;go_upto_region 2 with fail
 have HM2:Hid (FhM w hs w9.drew):=ι ⟨hw9.o.bh,hw9.o.bel.drew⟩;refine RG.xP (λW=>Hid (FhM w hs W)) κ κ HM2 ?_;clear HM2 hw9
 iterate 12
  apply RG.xJ
  ·intro w9 hw9;obtain⟨q0,q1,q2,q3,q4⟩:=HQ.o w9 hw9;repeat go_step
   with_reducible exact RG.xD hw9
  ·rfl
 apply RG.xJ
 ·intro w9 hw9;repeat go_step
  refine(W8.o _).mono ?_;rintro e w10 ⟨rfl,zM⟩;simp only[];repeat go_step
  with_reducible refine RG.xD ?_
  exact ι (hw9.o.below zM)
 ·rfl
 refine RG.dS ?_;apply RG.xJ
 ·intro w9 hw9;repeat go_step
  refine(W12.o _).mono ?_;rintro e w10 ⟨rfl,zM⟩;simp only[];repeat go_step
  with_reducible refine RG.xD ?_
  exact ι (hw9.o.below zM)
 ·rfl
 iterate 3 refine RG.dS ?_
 obtain⟨lo2,hlo⟩:∃x,bits .or .u64 (bits .or .u64 (c / 4096) (IntKind.u64.wrap (d*16384))) (IntKind.u64.wrap (e*1099511627776))=x:=⟨_,rfl⟩;obtain⟨lo0,lo1⟩:=hlo▸zD .or (bits .or .u64 (c / 4096) (IntKind.u64.wrap (d*16384))) (IntKind.u64.wrap (e*1099511627776))
 obtain⟨hb,hhb⟩:∃x,bits .or .u64 y8 (IntKind.u64.wrap (y12*4294967296))=x:=⟨_,rfl⟩;obtain⟨hb0,hb1⟩:=hhb▸zD .or y8 (IntKind.u64.wrap (y12*4294967296));rw[hlo,hhb];have xJn:=HHW.o;rw[hlo,hhb] at xJn;clear hlo hhb HHW;have hh0:=xDt (lo2+hb+ov);rw[xJn] at hh0;obtain⟨h0,h1⟩:=hh0
 obtain⟨ov2,hov2⟩:∃x,(lo2+hb+ov) / 18446744073709551616=x:=⟨_,rfl⟩
 have A2:Hid (∀W,(callFunc 252 #[.int .u64 lo2,.int .u64 hb,.int .u64 ov]).run Tryz.prog W=.ok (.value (.tuple #[.int .u64 hw,.int .u64 ov2])) W):=ι (λW=>by
  have h:=yFb lo2 hb ov lo0 hb0 ho0 ho1 W;rw[xJn,hov2] at h;exact h)
 clear xJn hov2;apply RG.xJ
 ·intro w9 hw9;have q9:=A2.o w9;repeat go_step
  with_reducible exact RG.xD hw9
 ·rfl
 iterate 5 refine RG.dS ?_
 refine RG.xS (λw9 hw9=>?_);clear W8 W12 A2 lo0 lo1 hb0 hb1 c0 c1 d0 d1 e0 e1 u80 u81 uc0 uc1 HQ ho0 ho1
 have HO0:Hid (FhM w hs (w9.alloc (.cells (yJ (xQ 16)) 389))/\(w9.alloc (.cells (yJ (xQ 16)) 389)).heap[w9.heap.size]?=some (.cells (yJ (xS6 lw hw 0)) 389 (0,0))/\w.heap.size<w9.heap.size):=ι ⟨⟨xK hw9.o.bh _,hw9.o.bel.alloc hw9.o.bel.size _⟩,xL _ _,xG hw9.o.bh⟩
 have HOS:Hid (∀i,xS6 lw hw (i+1)=((xS6 lw hw i).set i (oct (lw / 2^(8*i)))).set (8+i) (oct (hw / 2^(8*i)))):=ι (λi=>rfl);have HOL:=ι (λi=>xJ7 lw hw i);go_upto_region 4 with fail
 refine(λ(h:∀W3,Hid (FhM w hs W3/\W3.heap[w9.heap.size]?=some (.cells (yJ (xS6 lw hw 0)) 389 (0,0))/\w.heap.size<w9.heap.size)->Code.wp _ _ _ _ W3)=>h _ HO0) ?_;clear HO0 hw9;generalize w9.heap.size=g;intro w3 hw3;go_wp2_with fail
 go_loopw [53] (λiv W=>∃i:Nat,i<=8/\iv=.int .i64 i/\Hid (FhM w hs W/\W.heap[g]?=some (.cells (yJ (xS6 lw hw i)) 389 (0,0))/\w.heap.size<g)) (λiv _=>8- (intOf iv).toNat)
 case atStart=>exact⟨0,δ,rfl,hw3⟩
 case round=>
  clear hw3
  rename World=>wi
  obtain⟨i,hi,rfl,hr⟩:=hrel
  by_cases hlt:i<8
  ·have HS1:=ι (HOS.o i);have hol:=HOL.o i;generalize xS6 lw hw i=l at hr HS1 hol;have hg:=hr.o.2.2;have q0:=xA hr.o.2.1 i;rw[qN ω] at q0;have q1:=xC hr.o.2.1 i;generalize ((l.getD i 0).toNat:Int)=old at q0
   have HA:Hid (FhM w hs (wi.setCell ⟨g,i,none⟩ (.int .u8 (lw / 2^(8*i) % 256)))/\(wi.setCell ⟨g,i,none⟩ (.int .u8 (lw / 2^(8*i) % 256))).heap[g]?=some (.cells (yJ (l.set i (oct (lw / 2^(8*i))))) 389 (0,0))):=ι (by
    refine⟨⟨hr.o.1.bh.far (p:=⟨g,i,none⟩) (by simp only[];omega) _,hr.o.1.bel.setCell (p:=⟨g,i,none⟩) (by simp only[];omega) _⟩,?_⟩;have h:=xY hr.o.2.1 i (.int .u8 (lw / 2^(8*i) % 256));rw[xD8] at h;exact h)
   have HG:=ι hg;have HL1:Hid ((l.set i (oct (lw / 2^(8*i)))).length=16):=ι (by rw[List.length_set];exact hol);clear hr hol hg;generalize l.set i (oct (lw / 2^(8*i)))=l1 at HA HS1 HL1;go_upto_region 8 with fail
   clear q0 q1;refine(λ(h:∀W3,Hid (FhM w hs W3/\W3.heap[g]?=some (.cells (yJ l1) 389 (0,0)))->Code.wp _ _ _ _ W3)=>h _ HA) ?_;clear HA;intro wk hk;have q0:=xA hk.o.2 (8+i);rw[qN (by rw[HL1.o];omega)] at q0;have q1:=xC hk.o.2 (8+i)
   generalize ((l1.getD (8+i) 0).toNat:Int)=old at q0
   have HB:Hid (FhM w hs (wk.setCell ⟨g,8+i,none⟩ (.int .u8 (hw / 2^(8*i) % 256)))/\(wk.setCell ⟨g,8+i,none⟩ (.int .u8 (hw / 2^(8*i) % 256))).heap[g]?=some (.cells (yJ (xS6 lw hw (i+1))) 389 (0,0))/\w.heap.size<g):=ι (by
    have hg:=HG.o;refine⟨⟨hk.o.1.bh.far (p:=⟨g,8+i,none⟩) (by simp only[];omega) _,hk.o.1.bel.setCell (p:=⟨g,8+i,none⟩) (by simp only[];omega) _⟩,?_,hg⟩;have h:=xY hk.o.2 (8+i) (.int .u8 (hw / 2^(8*i) % 256));rw[xD8] at h;rw[HS1.o];exact h)
   clear hk HL1;go_wp2;exact⟨⟨i+1,ω,by go_num,HB⟩,by simp[intOf];omega⟩
  ·have hie:i=8:=by omega
   have HFi:=ι (HF.o i hie);have hneg:¬((i:Int)<8):=by omega
   have HT:=xCi (t:=389) hr.o.2.1 16 16 (HOL.o i);clear HF HOS HOL hlt hi hie;generalize xS6 lw hw i=l at hr HFi HT;go_wp2;go_ret;rw[HFi.o];exact⟨rfl,hr.o.1.bel⟩
end Go.Proofs.SH
namespace Mailsack
def rR (s:ByteArray):List Int:=if s.size=16 then(zO (qD s)).list.set 4 (Go.IntKind.u64.wrap ((zO (qD s)).e+16777216)) else(zO (qD s)).list
def wD (h b:List Int):Nat->List Int
 |0=>h
 |i+1=>(wD h b i).set i (Go.IntKind.u64.wrap ((wD h b i).getD i 0+b.getD i 0))
theorem xFj (h b:List Int):∀i,(wD h b i).length=h.length
 |0=>rfl
 |i+1=>by rw[wD,List.length_set,xFj h b i]
theorem xQx {h:List Int} (b:List Int) (hh:yV h):∀i,yV (wD h b i)
 |0=>hh
 |i+1=>(xQx b hh i).set i (wrap_u64 _)
theorem xIh (s:ByteArray):(rR s).length=5:=by
 unfold rR;split<;>simp[L5.list]
theorem xQp (s:ByteArray):yV (rR s):=by
 unfold rR;split
 ·exact(L5.all (xAk _)).set 4 (wrap_u64 _)
 ·exact L5.all (xAk _)
def qH (n k:Nat):Nat:=if 16*k<=n then 16*k else n
def yC5 (n k:Nat):Nat:=if 16<=n-qH n k then 16 else n-qH n k
theorem xVz (n k:Nat):qH n (k+1)=qH n k+yC5 n k:=by
 unfold yC5 qH
 repeat' split
 all_goals omega
theorem yDw (n k:Nat):qH n k<=n:=by
 unfold qH;split<;>omega
def xMs (r:List Int) (s:ByteArray):Nat->List Int
 |0=>List.replicate 5 0
 |k+1=>yAh (wD (xMs r s k) (rR (s.extract (qH s.size k) (qH s.size k+yC5 s.size k))) 5) r
theorem xZk (r:List Int) (s:ByteArray):∀k,(xMs r s k).length=5
 |0=>by simp[xMs]
 |k+1=>by rw[xMs,xJc]
theorem tagI_u (r:List Int) (s:ByteArray):∀k,yV (xMs r s k)
 |0=>xBy 5
 |_+1=>mulP_u _ _
def tagP (key s:ByteArray):ByteArray:=finP (rD (xMs (jK (key.extract 0 16)).list s ((s.size+15) / 16))) (key.extract 16 32)
theorem xV6 (key s:ByteArray):(tagP key s).size=16:=xXj _ _
end Mailsack
namespace Go.Proofs.SH
open Go.RowKit Mailsack MM BB
structure jA (w:World) (g:Nat) (rs hs:List Int) (W:World):Prop where
 br:uJ W g rs
 bh:uJ W (g+1) hs
 ge:w.heap.size<=g
 bel:Below w.heap.size w W
theorem jA.below {w:World} {g:Nat} {rs hs:List Int} {W W':World} (h:jA w g rs hs W) (hb:Below W.heap.size W W'):jA w g rs hs W':=
 ⟨xB h.br hb (xG h.br),xB h.bh hb (xG h.bh),h.ge,h.bel.trans (hb.mono h.bel.size)⟩
theorem jA.put {w:World} {g:Nat} {rs hs:List Int} {W:World} (h:jA w g rs hs W) (i:Nat) (x:Int):jA w g rs (hs.set i x) (W.setCell ⟨g+1,i,none⟩ (.int .u64 x)):=by
 have hg:=h.ge;exact⟨h.br.far (p:=⟨g+1,i,none⟩) (by simp only[];omega) _,h.bh.put i x,hg,h.bel.setCell (p:=⟨g+1,i,none⟩) (by simp only[];omega) _⟩
theorem yD7 (key s:ByteArray) (w:World) (hk:key.size=32) (hs:s.size<=1099511627776):
  Calls Tryz.prog 166 #[.string key,.string s] w λe w'=>e=.returned (.tuple #[.string (tagP key s),.bool true])/\Below w.heap.size w w':=by
 have hki:(key.size:Int)=32:=by omega
 have h16:(key.extract 0 16).size=16:=by simp;omega
 have HCL:=ι (λW=>xGp (key.extract 0 16) W h16);have hrl:(jK (key.extract 0 16)).list.length=5:=rfl;have hru:=L5.all (xY7 (key.extract 0 16))
 have HA:Hid (#[Value.int .u64 (jK (key.extract 0 16)).a,Value.int .u64 (jK (key.extract 0 16)).b,Value.int .u64 (jK (key.extract 0 16)).c,Value.int .u64 (jK (key.extract 0 16)).d,Value.int .u64 (jK (key.extract 0 16)).e]=xH (jK (key.extract 0 16)).list):=ι rfl
 have HP:Hid (∀n,n=(s.size+15) / 16->tagP key s=finP (rD (xMs (jK (key.extract 0 16)).list s n)) (key.extract 16 32)):=ι (λn hn=>by rw[hn];rfl);rw[HA.o] at HCL;clear HA;generalize (jK (key.extract 0 16)).list=rs at HCL hrl hru HP
 have HIr:Hid ((Tryz.prog.info? 310).map (·.size)=some (xH rs).size):=ι (xBp hrl);have HZr:Hid ((xH (List.replicate 5 0)).size=(xH rs).size):=ι (by rw[xW,xW,hrl];rfl);have HK16:=ι h16;clear h16 hk;go_enter Tryz.func166,Tryz.ntmps166;go_upto_region 3 with fail
 refine wp_region_lit ?_;repeat go_step
 refine(HCL.o _).mono ?_;rintro e w5 ⟨rfl,hb⟩;simp only[]
 rename ∀(a:Act) (w:World),wpList _ _ _ _ a w->_=>hk
 refine hk _ _ ?_;clear hk;iterate 3 go_step
 refine wpList_store_row rfl _ _ _ rfl w5.heap.size (xH rs) rfl rfl _ (xH (List.replicate 5 0)) (xL _ _) HIr.o HZr.o (yC _) ?_
 have H6:Hid (uJ ((w5.alloc (.cells (xH (List.replicate 5 0)) 310)).setRow w5.heap.size (xH rs)) w5.heap.size rs/\w.heap.size<=w5.heap.size/\Below w.heap.size w ((w5.alloc (.cells (xH (List.replicate 5 0)) 310)).setRow w5.heap.size (xH rs))/\((w5.alloc (.cells (xH (List.replicate 5 0)) 310)).setRow w5.heap.size (xH rs)).heap.size=w5.heap.size+1):=ι ⟨setRow_heap _ _ _ _ _ _ (xL _ _),hb.size,below_setRow (hb.alloc hb.size _) hb.size _,by rw[setRow_size,uX]⟩
 refine(λ(h:∀W3,Hid (uJ W3 w5.heap.size rs/\w.heap.size<=w5.heap.size/\Below w.heap.size w W3/\W3.heap.size=w5.heap.size+1)->wpList _ _ _ _ _ W3)=>h _ H6) ?_;clear H6 hb;generalize w5.heap.size=g;intro w6 h6;have hsz:=h6.o.2.2.2
 have H7:Hid (jA w g rs (xMs rs s 0) (w6.alloc (.cells (xH (List.replicate 5 0)) 310))):=ι ⟨xK h6.o.1 _,by have h:=xL w6 (.cells (xH (List.replicate 5 0)) 310);rw[hsz] at h;exact h,h6.o.2.1,h6.o.2.2.1.alloc h6.o.2.2.1.size _⟩;clear h6;go_wp2_with fail
 clear hsz;refine(λ(h:∀W3,Hid (jA w g rs (xMs rs s 0) W3)->Code.wp _ _ _ _ W3)=>h _ H7) ?_;clear H7;intro w7 h7;have HTS:Hid (∀k n,n=5->xMs rs s (k+1)=yAh (wD (xMs rs s k) (rR (s.extract (qH s.size k) (qH s.size k+yC5 s.size k))) n) rs):=ι (λk n hn=>by rw[hn];rfl)
 have HTL:=ι (λk=>xZk rs s k);have HTU:=ι (λk=>tagI_u rs s k)
 go_loopw [1] (λtv W=>∃k:Nat,k<=(s.size+15) / 16/\tv=.string (s.extract (qH s.size k) s.size)/\Hid (jA w g rs (xMs rs s k) W)) (λtv _=>lenOf tv)
 case atStart=>exact⟨0,ω,by simp[qH],h7⟩
 case round=>
  clear h7
  rename World=>wk
  obtain⟨k,hk,rfl,hr⟩:=hrel;have hoff:=yDw s.size k;have hts:(s.extract (qH s.size k) s.size).size=s.size-qH s.size k:=by simp
  by_cases hlt:qH s.size k<s.size
  ·have hz:yC5 s.size k=16/\16<=s.size-qH s.size k∨yC5 s.size k=s.size-qH s.size k/\s.size-qH s.size k<16:=by unfold yC5;split<;>omega
   have hoz:=xVz s.size k;have HSK:=ι (HTS.o k);have HKB:Hid (k+1<=(s.size+15) / 16):=ι (by unfold qH at hlt;split at hlt<;>omega);generalize qH s.size k=o at hoff hts hlt hz hoz HSK⊢;generalize yC5 s.size k=z at hz hoz HSK;obtain⟨m,hm⟩:∃m,s.size-o=m:=⟨_,rfl⟩;rw[hm] at hts hz
   have h1:(s.extract o s.size).extract 0 z=s.extract o (o+z):=by
    rw[ByteArray.extract_extract]
    congr 1
    omega
   have h2:(s.extract o s.size).extract z m=s.extract (o+z) s.size:=by
    rw[ByteArray.extract_extract]
    congr 1
    omega
   have hcz:(s.extract o (o+z)).size=z:=by simp;omega
   have hzm:Hid (min (16:Int) m=z):=ι ω;have hz16:z<=16:=by omega
   have hzm2:z<=m:=by omega
   have hm0:(0:Int)<m:=by omega
   have HNX:Hid (s.extract (qH s.size (k+1)) s.size=s.extract (o+z) s.size):=ι (by rw[hoz]);have HNS:Hid ((s.extract (o+z) s.size).size+z=m/\0<z):=ι (by rw[ByteArray.size_extract];omega);generalize s.extract (o+z) s.size=nx at h2 HNX HNS
   generalize s.extract o (o+z)=ck at h1 hcz HSK;generalize s.extract o s.size=t at hts h1 h2⊢;clear hoff hlt hz hm;go_upto_region 7 with fail
   rw[hzm.o];clear hzm;have HPD:=ι (λW=>xS4 ck W ω);have HSP:=ι (λW=>xKy (qD ck) W (xVv ck ω))
   have HB:Hid (#[Value.int .u64 (zO (qD ck)).a,Value.int .u64 (zO (qD ck)).b,Value.int .u64 (zO (qD ck)).c,Value.int .u64 (zO (qD ck)).d,Value.int .u64 (zO (qD ck)).e]=xH (zO (qD ck)).list):=ι rfl;rw[HB.o] at HSP;clear HB;have hbl:(zO (qD ck)).list.length=5:=rfl
   obtain⟨e0,e1⟩:U64 (zO (qD ck)).e:=(xAk (qD ck)).2.2.2.2;have HE4:Hid ((zO (qD ck)).list.getD 4 0=(zO (qD ck)).e):=ι rfl;have HBK:Hid (rR ck=if ck.size=16 then(zO (qD ck)).list.set 4 (IntKind.u64.wrap ((zO (qD ck)).e+16777216)) else(zO (qD ck)).list):=ι rfl
   have hbu:=L5.all (xAk (qD ck));generalize (zO (qD ck)).e=e4 at e0 e1 HE4 HBK;generalize (zO (qD ck)).list=bs at HSP hbl HE4 HBK hbu;have HIb:Hid ((Tryz.prog.info? 310).map (·.size)=some (xH bs).size):=ι (xBp hbl)
   have HZb:Hid ((xH (List.replicate 5 0)).size=(xH bs).size):=ι (by rw[xW,xW,hbl];rfl);refine wp_region_lit ?_;repeat go_step
   refine(HPD.o _).mono ?_;rintro e wp1 ⟨rfl,hb⟩;have hr1:=ι (hr.o.below hb);clear hr hb HPD;simp only[]
   rename ∀(a:Act) (w:World),wpList _ _ _ _ a w->_=>hkk
   refine hkk _ _ ?_;clear hkk;repeat go_step
   refine(HSP.o _).mono ?_;rintro e wp2 ⟨rfl,hb⟩;have hr2:=ι (hr1.o.below hb);clear hr1 hb HSP;simp only[]
   rename ∀(a:Act) (w:World),wpList _ _ _ _ a w->_=>hkk
   refine hkk _ _ ?_;clear hkk;iterate 3 go_step
   refine wpList_store_row rfl _ _ _ rfl wp2.heap.size (xH bs) rfl rfl _ (xH (List.replicate 5 0)) (xL _ _) HIb.o HZb.o (yC _) ?_;have hgl:=xG hr2.o.bh;have hge:=hr2.o.ge
   have H8:Hid (jA w g rs (xMs rs s k) ((wp2.alloc (.cells (xH (List.replicate 5 0)) 310)).setRow wp2.heap.size (xH bs))/\uJ ((wp2.alloc (.cells (xH (List.replicate 5 0)) 310)).setRow wp2.heap.size (xH bs)) wp2.heap.size bs/\g+1<wp2.heap.size):=ι ⟨⟨by unfold uJ;rw[setRow_other _ _ _ _ ω];exact xK hr2.o.br _,by unfold uJ;rw[setRow_other _ _ _ _ ω];exact xK hr2.o.bh _,hge,below_setRow (hr2.o.bel.alloc hr2.o.bel.size _) ω _⟩,setRow_heap _ _ _ _ _ _ (xL _ _),hgl⟩
   refine(λ(h:∀W3,Hid (jA w g rs (xMs rs s k) W3/\uJ W3 wp2.heap.size bs/\g+1<wp2.heap.size)->wpList _ _ _ _ _ W3)=>h _ H8) ?_;clear H8 hgl hge hr2 HIb HZb;generalize wp2.heap.size=g2;intro w8 h8;have h0l:=HTL.o k;have h0u:=HTU.o k;generalize xMs rs s k=hs0 at h8 HSK h0l h0u
   have q4:=h8.o.2.1.cell (i:=4) ω;have y4:=h8.o.2.1.free 4;rw[HE4.o] at q4
   by_cases h16:z=16
   ·have H9:Hid (jA w g rs hs0 (w8.setCell ⟨g2,4,none⟩ (.int .u64 (IntKind.u64.wrap (e4+16777216))))/\uJ (w8.setCell ⟨g2,4,none⟩ (.int .u64 (IntKind.u64.wrap (e4+16777216)))) g2 (rR ck)/\g+1<g2):=ι (by
     obtain⟨t1,t2,t3⟩:=h8.o;have t4:=t1.ge;refine⟨⟨t1.br.far (p:=⟨g2,4,none⟩) (by simp only[];omega) _,t1.bh.far (p:=⟨g2,4,none⟩) (by simp only[];omega) _,t4,t1.bel.setCell (p:=⟨g2,4,none⟩) (by simp only[];omega) _⟩,?_,t3⟩;rw[HBK.o,if_pos ω];exact t2.put 4 _)
    have hzi:(z:Int)=16:=by omega
    clear HBK HE4;clear h8;go_upto_region 10 with fail
    refine(λ(h:∀W3,Hid (jA w g rs hs0 W3/\uJ W3 g2 (rR ck)/\g+1<g2)->Code.wp _ _ _ _ W3)=>h _ H9) ?_;clear H9;intro w9 h9;have hbkl:=xIh ck;have hbku:=xQp ck;generalize rR ck=bk at HSK h9 hbkl hbku;have HA0:Hid (jA w g rs (wD hs0 bk 0) w9/\uJ w9 g2 bk/\g+1<g2):=ι h9.o
    have HAS:Hid (∀i,wD hs0 bk (i+1)=(wD hs0 bk i).set i (IntKind.u64.wrap ((wD hs0 bk i).getD i 0+bk.getD i 0))):=ι (λi=>rfl);have HAL:Hid (∀i,(wD hs0 bk i).length=5):=ι (λi=>by rw[xFj,h0l]);have HAU:=ι (λi=>xQx bk h0u i);have HBU:=ι hbku;clear h9;go_wp2_with fail
    go_loopw [34] (λiv W=>∃i:Nat,i<=5/\iv=.int .i64 i/\Hid (jA w g rs (wD hs0 bk i) W/\uJ W g2 bk/\g+1<g2)) (λiv _=>5- (intOf iv).toNat)
    case atStart=>exact⟨0,δ,rfl,HA0⟩
    case round=>
     clear HA0
     rename World=>wi
     obtain⟨i,hi,rfl,hri⟩:=hrel
     by_cases hlt:i<5
     ·have HS1:=ι (HAS.o i);have hol:=HAL.o i;have hou:=HAU.o i i;have hbi:=HBU.o i;generalize wD hs0 bk i=l at hri HS1 hol hou;obtain⟨x,hx⟩:∃x,l.getD i 0=x:=⟨_,rfl⟩;obtain⟨y,hy⟩:∃y,bk.getD i 0=y:=⟨_,rfl⟩;rw[hx] at HS1 hou;rw[hy] at HS1 hbi;obtain⟨x0,x1⟩:=hou
      obtain⟨y0,y1⟩:=hbi
      have HQ:Hid (∀W,Hid (jA w g rs l W/\uJ W g2 bk/\g+1<g2)->W.cell? ⟨g+1,i,none⟩=some (.int .u64 x)/\W.cell? ⟨g2,i,none⟩=some (.int .u64 y)/\W.frozen? ⟨g+1,i,none⟩=false):=ι (λW h=>by
       refine⟨?_,?_,h.o.1.bh.free i⟩
       ·rw[h.o.1.bh.cell (i:=i) ω,hx]
       ·rw[h.o.2.1.cell (i:=i) ω,hy])
      have HPT:Hid (∀W,Hid (jA w g rs l W/\uJ W g2 bk/\g+1<g2)->Hid (jA w g rs (wD hs0 bk (i+1)) (W.setCell ⟨g+1,i,none⟩ (.int .u64 (IntKind.u64.wrap (x+y))))/\uJ (W.setCell ⟨g+1,i,none⟩ (.int .u64 (IntKind.u64.wrap (x+y)))) g2 bk/\g+1<g2)):=ι (λW h=>ι (by
       refine⟨by rw[HS1.o];exact h.o.1.put i _,h.o.2.1.far (p:=⟨g+1,i,none⟩) (by have:=h.o.2.2;simp only[];omega) _,h.o.2.2⟩))
      have hii:(i:Int)<5:=by omega
      have HBI:Hid (i<bk.length):=ι ω;have HY:=ι hy;clear hx hy hol;obtain⟨l1,hl1⟩:∃x,wD hs0 bk (i+1)=x:=⟨_,rfl⟩;rw[hl1] at HPT;have HL1:=ι hl1;clear hl1 HS1;go_upto_region 13 with fail
      refine RG.yT 9 (λL W=>Hid (jA w g rs (if L 8 then l1 else l) W/\uJ W g2 bk/\g+1<g2)) (λL L' W h hI=>by rw[<-h 8 δ];exact hI) κ κ rfl (ι ⟨⟨hri.o.1.br,hri.o.1.bh,hri.o.1.ge,hri.o.1.bel.drew⟩,hri.o.2⟩) ?_;iterate 2 refine RG.cS ?_
      apply RG.xR
      ·rfl
      ·rfl
      ·intro L w9 h0 hcl xN hw9;have e1:=hcl.not 6 (i:=8) h0 κ;have hs9:=hw9;rw[e1,if_neg σ] at hs9;have q:=(HQ.o w9 hs9).1;clear e1 hs9;repeat go_step
       with_reducible refine RG.xD ?_
       exact⟨xN,hw9⟩
      ·rfl
      iterate 2 refine RG.cS ?_
      apply RG.xR
      ·rfl
      ·rfl
      ·intro L w9 h0 hcl xN hw9;have q:w9.cell? ⟨g2,i,none⟩=some (.int .u64 y):=by rw[hw9.o.2.1.cell (i:=i) HBI.o,HY.o]
       repeat go_step
       with_reducible refine RG.xD ?_
       exact⟨xN,hw9⟩
      ·rfl
      iterate 2 refine RG.cS ?_
      apply RG.xR
      ·rfl
      ·rfl
      ·intro L w9 h0 hcl xN hw9;have hs9:=hw9;rw[h0,if_neg σ] at hs9;obtain⟨q1,q2,q3⟩:=HQ.o w9 hs9;have hp:=HPT.o w9 hs9;repeat go_step
       with_reducible refine RG.xD ?_
       refine⟨xN,?_⟩;show Hid (jA w g rs (if (true:Bool)=true then l1 else l) _/\uJ _ g2 bk/\g+1<g2);rw[if_pos rfl];with_reducible exact hp
      ·rfl
      refine RG.yI (λw9 hw9=>?_);go_wp2;exact⟨⟨i+1,ω,by go_num,by rw[HL1.o];exact hw9⟩,by simp[intOf];omega⟩
     ·have hie:i=5:=by omega
      have hneg:¬((i:Int)<5):=by omega
      have HSi:=ι (HSK.o i hie);have hol:=HAL.o i;have hou:yV (wD hs0 bk i):=HAU.o i;generalize wD hs0 bk i=l at hri HSi hol hou;have HIl:Hid ((Tryz.prog.info? 310).map (·.size)=some (xH l).size):=ι (xBp hol);have HML:=ι (λW=>xW6 l rs W hol hou hrl hru)
      obtain⟨l2,hl2⟩:∃x,yAh l rs=x:=⟨_,rfl⟩;have yCf:l2.length=5:=hl2▸xJc l rs;rw[hl2] at HML HSi;have HI2:Hid ((Tryz.prog.info? 310).map (·.size)=some (xH l2).size):=ι (xBp yCf);have HZ2:Hid ((xH l).size=(xH l2).size):=ι (by rw[xW,xW,hol,yCf])
      clear hl2 hol hou HSK HAS HAL HAU HBU hie hi hlt;go_upto_region 15 with fail
      refine wp_region_lit ?_;refine wpList_load_row rfl _ _ rfl (g+1) rfl _ (xH l) (0,0) _ hri.o.1.bh Tryz.underlying310 rfl HIl.o ?_;refine wpList_load_row rfl _ _ rfl g rfl _ (xH rs) (0,0) _ hri.o.1.br Tryz.underlying310 rfl HIr.o ?_;repeat go_step
      refine(HML.o _).mono ?_;rintro e wm ⟨rfl,hb⟩;have hm:=ι (hri.o.1.below hb);clear hri hb HML;simp only[]
      rename ∀(a:Act) (w:World),wpList _ _ _ _ a w->_=>hkk
      refine hkk _ _ ?_;clear hkk;refine wpList_store_row rfl _ _ _ rfl (g+1) (xH l2) rfl rfl _ _ hm.o.bh HI2.o HZ2.o (yC _) ?_
      have hm2:Hid (jA w g rs l2 (wm.setRow (g+1) (xH l2))):=ι ⟨by unfold uJ;rw[setRow_other _ _ _ _ ω];exact hm.o.br,setRow_heap _ _ _ _ _ _ hm.o.bh,hm.o.ge,below_setRow hm.o.bel (by have:=hm.o.ge;omega) _⟩
      refine(λ(h:∀W3,Hid (jA w g rs l2 W3)->wpList _ _ _ _ _ W3)=>h _ hm2) ?_;clear hm hm2;intro wn hwn;go_wp2;refine⟨⟨k+1,HKB.o,by first|(rw[HNX.o];done)|rw[HNX.o,<-h2,h16],by rw[HSi.o];exact hwn⟩,?_⟩;have hns:=HNS.o;simp[lenOf];omega
   ·have H9:Hid (jA w g rs hs0 w8/\uJ w8 g2 (rR ck)/\g+1<g2):=ι (by
     rw[HBK.o,if_neg ω];exact h8.o)
    have hzi:¬((z:Int)=16):=by omega
    clear HBK HE4;clear h8;go_upto_region 10 with fail
    refine(λ(h:∀W3,Hid (jA w g rs hs0 W3/\uJ W3 g2 (rR ck)/\g+1<g2)->Code.wp _ _ _ _ W3)=>h _ H9) ?_;clear H9;intro w9 h9;have hbkl:=xIh ck;have hbku:=xQp ck;generalize rR ck=bk at HSK h9 hbkl hbku;have HA0:Hid (jA w g rs (wD hs0 bk 0) w9/\uJ w9 g2 bk/\g+1<g2):=ι h9.o
    have HAS:Hid (∀i,wD hs0 bk (i+1)=(wD hs0 bk i).set i (IntKind.u64.wrap ((wD hs0 bk i).getD i 0+bk.getD i 0))):=ι (λi=>rfl);have HAL:Hid (∀i,(wD hs0 bk i).length=5):=ι (λi=>by rw[xFj,h0l]);have HAU:=ι (λi=>xQx bk h0u i);have HBU:=ι hbku;clear h9;go_wp2_with fail
    go_loopw [34] (λiv W=>∃i:Nat,i<=5/\iv=.int .i64 i/\Hid (jA w g rs (wD hs0 bk i) W/\uJ W g2 bk/\g+1<g2)) (λiv _=>5- (intOf iv).toNat)
    case atStart=>exact⟨0,δ,rfl,HA0⟩
    case round=>
     clear HA0
     rename World=>wi
     obtain⟨i,hi,rfl,hri⟩:=hrel
     by_cases hlt:i<5
     ·have HS1:=ι (HAS.o i);have hol:=HAL.o i;have hou:=HAU.o i i;have hbi:=HBU.o i;generalize wD hs0 bk i=l at hri HS1 hol hou;obtain⟨x,hx⟩:∃x,l.getD i 0=x:=⟨_,rfl⟩;obtain⟨y,hy⟩:∃y,bk.getD i 0=y:=⟨_,rfl⟩;rw[hx] at HS1 hou;rw[hy] at HS1 hbi;obtain⟨x0,x1⟩:=hou
      obtain⟨y0,y1⟩:=hbi
      have HQ:Hid (∀W,Hid (jA w g rs l W/\uJ W g2 bk/\g+1<g2)->W.cell? ⟨g+1,i,none⟩=some (.int .u64 x)/\W.cell? ⟨g2,i,none⟩=some (.int .u64 y)/\W.frozen? ⟨g+1,i,none⟩=false):=ι (λW h=>by
       refine⟨?_,?_,h.o.1.bh.free i⟩
       ·rw[h.o.1.bh.cell (i:=i) ω,hx]
       ·rw[h.o.2.1.cell (i:=i) ω,hy])
      have HPT:Hid (∀W,Hid (jA w g rs l W/\uJ W g2 bk/\g+1<g2)->Hid (jA w g rs (wD hs0 bk (i+1)) (W.setCell ⟨g+1,i,none⟩ (.int .u64 (IntKind.u64.wrap (x+y))))/\uJ (W.setCell ⟨g+1,i,none⟩ (.int .u64 (IntKind.u64.wrap (x+y)))) g2 bk/\g+1<g2)):=ι (λW h=>ι (by
       refine⟨by rw[HS1.o];exact h.o.1.put i _,h.o.2.1.far (p:=⟨g+1,i,none⟩) (by have:=h.o.2.2;simp only[];omega) _,h.o.2.2⟩))
      have hii:(i:Int)<5:=by omega
      have HBI:Hid (i<bk.length):=ι ω;have HY:=ι hy;clear hx hy hol;obtain⟨l1,hl1⟩:∃x,wD hs0 bk (i+1)=x:=⟨_,rfl⟩;rw[hl1] at HPT;have HL1:=ι hl1;clear hl1 HS1;go_upto_region 13 with fail
      refine RG.yT 9 (λL W=>Hid (jA w g rs (if L 8 then l1 else l) W/\uJ W g2 bk/\g+1<g2)) (λL L' W h hI=>by rw[<-h 8 δ];exact hI) κ κ rfl (ι ⟨⟨hri.o.1.br,hri.o.1.bh,hri.o.1.ge,hri.o.1.bel.drew⟩,hri.o.2⟩) ?_;iterate 2 refine RG.cS ?_
      apply RG.xR
      ·rfl
      ·rfl
      ·intro L w9 h0 hcl xN hw9;have e1:=hcl.not 6 (i:=8) h0 κ;have hs9:=hw9;rw[e1,if_neg σ] at hs9;have q:=(HQ.o w9 hs9).1;clear e1 hs9;repeat go_step
       with_reducible refine RG.xD ?_
       exact⟨xN,hw9⟩
      ·rfl
      iterate 2 refine RG.cS ?_
      apply RG.xR
      ·rfl
      ·rfl
      ·intro L w9 h0 hcl xN hw9;have q:w9.cell? ⟨g2,i,none⟩=some (.int .u64 y):=by rw[hw9.o.2.1.cell (i:=i) HBI.o,HY.o]
       repeat go_step
       with_reducible refine RG.xD ?_
       exact⟨xN,hw9⟩
      ·rfl
      iterate 2 refine RG.cS ?_
      apply RG.xR
      ·rfl
      ·rfl
      ·intro L w9 h0 hcl xN hw9;have hs9:=hw9;rw[h0,if_neg σ] at hs9;obtain⟨q1,q2,q3⟩:=HQ.o w9 hs9;have hp:=HPT.o w9 hs9;repeat go_step
       with_reducible refine RG.xD ?_
       refine⟨xN,?_⟩;show Hid (jA w g rs (if (true:Bool)=true then l1 else l) _/\uJ _ g2 bk/\g+1<g2);rw[if_pos rfl];with_reducible exact hp
      ·rfl
      refine RG.yI (λw9 hw9=>?_);go_wp2;exact⟨⟨i+1,ω,by go_num,by rw[HL1.o];exact hw9⟩,by simp[intOf];omega⟩
     ·have hie:i=5:=by omega
      have hneg:¬((i:Int)<5):=by omega
      have HSi:=ι (HSK.o i hie);have hol:=HAL.o i;have hou:yV (wD hs0 bk i):=HAU.o i;generalize wD hs0 bk i=l at hri HSi hol hou;have HIl:Hid ((Tryz.prog.info? 310).map (·.size)=some (xH l).size):=ι (xBp hol);have HML:=ι (λW=>xW6 l rs W hol hou hrl hru)
      obtain⟨l2,hl2⟩:∃x,yAh l rs=x:=⟨_,rfl⟩;have yCf:l2.length=5:=hl2▸xJc l rs;rw[hl2] at HML HSi;have HI2:Hid ((Tryz.prog.info? 310).map (·.size)=some (xH l2).size):=ι (xBp yCf);have HZ2:Hid ((xH l).size=(xH l2).size):=ι (by rw[xW,xW,hol,yCf])
      clear hl2 hol hou HSK HAS HAL HAU HBU hie hi hlt;go_upto_region 15 with fail
      refine wp_region_lit ?_;refine wpList_load_row rfl _ _ rfl (g+1) rfl _ (xH l) (0,0) _ hri.o.1.bh Tryz.underlying310 rfl HIl.o ?_;refine wpList_load_row rfl _ _ rfl g rfl _ (xH rs) (0,0) _ hri.o.1.br Tryz.underlying310 rfl HIr.o ?_;repeat go_step
      refine(HML.o _).mono ?_;rintro e wm ⟨rfl,hb⟩;have hm:=ι (hri.o.1.below hb);clear hri hb HML;simp only[]
      rename ∀(a:Act) (w:World),wpList _ _ _ _ a w->_=>hkk
      refine hkk _ _ ?_;clear hkk;refine wpList_store_row rfl _ _ _ rfl (g+1) (xH l2) rfl rfl _ _ hm.o.bh HI2.o HZ2.o (yC _) ?_
      have hm2:Hid (jA w g rs l2 (wm.setRow (g+1) (xH l2))):=ι ⟨by unfold uJ;rw[setRow_other _ _ _ _ ω];exact hm.o.br,setRow_heap _ _ _ _ _ _ hm.o.bh,hm.o.ge,below_setRow hm.o.bel (by have:=hm.o.ge;omega) _⟩
      refine(λ(h:∀W3,Hid (jA w g rs l2 W3)->wpList _ _ _ _ _ W3)=>h _ hm2) ?_;clear hm hm2;intro wn hwn;go_wp2;refine⟨⟨k+1,HKB.o,by first|(rw[HNX.o];done)|rw[HNX.o,<-h2,h16],by rw[HSi.o];exact hwn⟩,?_⟩;have hns:=HNS.o;simp[lenOf];omega
  ·have hke:k=(s.size+15) / 16:=by unfold qH at hlt hoff;split at hlt<;>split at hoff<;>omega
   have HF:=ι (HP.o k hke);have hol:=HTL.o k;have hou:=HTU.o k;have h0:s.size-qH s.size k=0:=by omega
   rw[h0] at hts;generalize s.extract (qH s.size k) s.size=t at hts⊢;generalize xMs rs s k=l at hr HF hol hou;have HIl:Hid ((Tryz.prog.info? 310).map (·.size)=some (xH l).size):=ι (xBp hol);have HLE:=ι (λW=>xWi l W hol hou);have yCf:(rD l).length=5:=by rw[xSn,hol]
   have hl2u:=yAr hou;have hk2:(key.extract 16 32).size=16:=by simp;omega
   have hk3:key.extract 16 32=key.extract 16 key.size:=by
    congr 1
    omega
   rw[hk3] at hk2 HF;have HFI:=ι (λW=>xOg (rD l) (key.extract 16 key.size) W yCf hl2u hk2);generalize rD l=l2 at HLE HFI HF;clear HP HTS HTL HTU HCL hke hk hoff hlt h0 hol hou yCf hl2u hk2 hk3;go_upto_region 17 with fail
   refine RG.xP (λW=>Hid (jA w g rs l W)) κ κ (ι ⟨hr.o.br,hr.o.bh,hr.o.ge,hr.o.bel.drew⟩) ?_;apply RG.xJ
   ·intro w9 hw9;refine wpList_load_row rfl _ _ rfl (g+1) rfl _ (xH l) (0,0) _ hw9.o.bh Tryz.underlying310 rfl HIl.o ?_;repeat go_step
    with_reducible exact RG.xD hw9
   ·rfl
   apply RG.xJ
   ·intro w9 hw9;repeat go_step
    refine(HLE.o _).mono ?_;rintro e w10 ⟨rfl,zM⟩;simp only[];repeat go_step
    with_reducible refine RG.xD ?_
    exact ι (hw9.o.below zM)
   ·rfl
   iterate 2 refine RG.dS ?_
   apply RG.xJ
   ·intro w9 hw9;repeat go_step
    refine(HFI.o _).mono ?_;rintro e w10 ⟨rfl,zM⟩;simp only[];repeat go_step
    with_reducible refine RG.xD ?_
    exact ι (hw9.o.below zM)
   ·rfl
   iterate 2 refine RG.dS ?_
   refine RG.xS (λw9 hw9=>?_);go_wp2;go_ret2;rw[HF.o];exact⟨rfl,hw9.o.bel⟩
end Go.Proofs.SH
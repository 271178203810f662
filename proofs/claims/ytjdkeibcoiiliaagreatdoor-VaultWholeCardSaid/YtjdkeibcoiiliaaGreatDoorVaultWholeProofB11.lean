/- Contracts of functions. Conditions: as stated. -/
import Derived.Test.YtjdkeibcoiiliaaGreatDoorVaultWholeProofB10
open Go.Proofs.Tryz
set_option maxHeartbeats 8000000
set_option maxRecDepth 100000
namespace Mailsack
def unN (s:ByteArray):Nat:=(s.data.toList.getD 0 0).toNat+256*(s.data.toList.getD 1 0).toNat
def zB (r:ByteArray):Nat->Bool
 |0=>true
 |k+1=>zB r k&&yU r k==0
def unR (s:ByteArray):ByteArray:=s.extract (2+unN s) s.size
def xZ7 (s:ByteArray):Bool:=decide (2<=s.size)&&(xAq (unN s)==(s.size:Int))&&zB (unR s) (unR s).size
def unE (s:ByteArray):Int:=if xZ7 s=true then 0 else 3
def unT (s:ByteArray):ByteArray:=if xZ7 s=true then s.extract 2 (2+unN s) else⟨#[]⟩
theorem yF5 (r:ByteArray) (k:Nat) (h:zB r k=false):∀n,k<=n->zB r n=false:=by
 intro n hn
 induction n with
 |zero=>rw[show k=0 by omega] at h;exact h
 |succ n ih=>
  by_cases e:k=n+1
  ·rw[<-e];exact h
  ·rw[zB,ih ω,Dy]
theorem yM4 {n c:Nat} (h:xAq (n:Int)=(c:Int)) (hc:2<=c):2+n<=c/\n<=700:=by
 have h2:n<=700:=by
  apply Hm;intro hh;unfold xAq at h;rw[Ah ω] at h;omega
 obtain⟨c',e,h1,_⟩:=xDq h2;rw[h] at e;omega
end Mailsack
namespace Go.Proofs.SE
open Go.RowKit Mailsack MM BB SH SV
theorem yE2 (s:ByteArray) (w:World) (hs:s.size<=1000000):Calls prog 142 #[.string s] w (pv (.string s) w):=by
 go_enter func142,ntmps142;go_wp2_with fail
 refine(Tryz.stringslite_Clone s _ ω).mono ?_;rintro e w1 ⟨rfl,hb⟩;go_wp2;go_ret;exact⟨rfl,hb⟩
theorem yA6 (s:ByteArray) (w:World) (hs:s.size<=1000000) (hC:yJ9 w):
  Calls prog 98 #[.string s] w (pv (.tuple #[.string (unT s),.int .i64 (unE s)]) w):=by
 by_cases h2:s.size<2
 ·have HR:Hid (xZ7 s=false):=ι (by unfold xZ7;rw[Cq ω];rfl);rw[show unT s=⟨#[]⟩ by unfold unT;rw[HR.o];rfl,show unE s=3 by unfold unE;rw[HR.o];rfl];have hi:(s.size:Int)<2:=ω;clear h2 hs hC;go_enter func98,ntmps98;go_wp2;go_ret2;exact⟨rfl,Aq _ _⟩
 ·have hi:¬(s.size:Int)<2:=ω;have hj:¬(s.size<2):=h2;have i0:=λw=>zN (P:=prog) underlying9 s 0 0 rfl ω w;have i1:=λw=>zN (P:=prog) underlying9 s 1 1 rfl ω w;have hN:(unN s:Int)=yU s 0+yU s 1*256:=by unfold unN yU;omega
  have hor:Go.bits .or .i64 (yU s 0) (yU s 1*256)=(unN s:Int):=by
   unfold unN yU;rw[yIp _ _ (Ex _) (Ex _)];omega
  obtain⟨c00,c01⟩:=zD s 0;obtain⟨c10,c11⟩:=zD s 1;have HCL:=ι (λW (hb:ψ w W)=>xKg (unN s:Int) W (hC.below hb ν));have HOK:Hid (xZ7 s=((xAq (unN s)==(s.size:Int))&&zB (unR s) (unR s).size)):=ι (by unfold xZ7;rw[Bq ω,Ed])
  have HE:Hid (unE s=if xZ7 s=true then 0 else 3):=ι rfl;have HTT:Hid (unT s=if xZ7 s=true then s.extract 2 (2+unN s) else⟨#[]⟩):=ι rfl;have HCE:=ι (λh=>yM4 (n:=unN s) (c:=s.size) h ω);have HUR:Hid (unR s=s.extract (2+unN s) s.size):=ι rfl;generalize unE s=ue at HE⊢
  generalize unT s=ut at HTT⊢;generalize xZ7 s=ok at HOK HE HTT;generalize unR s=rr at HOK HUR;generalize unN s=n at hN hor HCL HOK HTT HCE HUR;generalize yU s 0=b0 at i0 hN hor c00 c01;generalize yU s 1=b1 at i1 hN hor c10 c11;clear h2 hC hN;go_enter func98,ntmps98
  go_upto_region 3 with fail
  refine RG.xU (λW=>Hid (ψ w W)) κ κ (ι (Aq w.heap.size w).drew) ?_;iterate 9 refine RG.dS ?_
  refine RG.xX (λw1 hw1=>?_);clear i0 i1 hor c00 c01 c10 c11;go_wp2_with fail
  refine cM (HCL.o _ hw1.o) λw2 hw2=>?_;rw[hw2];clear hw2 w2 HCL;have B1:=ι hw1.o;clear hw1
  by_cases hc:xAq (n:Int)=(s.size:Int)
  rotate_left
  ·have hc1:(xAq (n:Int)==(s.size:Int))=false:=by simpa using hc
   have hc2:(xAq (n:Int)!=(s.size:Int))=true:=by simpa using hc
   rw[hc1,Dy] at HOK;rw[HOK.o] at HE HTT;clear HOK HCE HUR;go_wp2;go_ret2;exact⟨by rw[HE.o,HTT.o];rfl,B1.o⟩
  ·have hc1:(xAq (n:Int)==(s.size:Int))=true:=by simpa using hc
   have hc2:(xAq (n:Int)!=(s.size:Int))=false:=by simpa using hc
   obtain⟨g1,g2⟩:=HCE.o hc;rw[hc1,Ed] at HOK;clear HCE hc;go_upto_region 6 with fail
   clear hc1 hc2 hi hj;refine RG.xU (λW=>Hid (ψ w W)) κ κ (ι B1.o.drew) ?_;iterate 10 refine RG.dS ?_
   refine RG.xX (λw3 hw3=>?_);rw[<-HUR.o];have hts:(s.extract 2 (2+n)).size<=1000000:=by rw[Az];omega
   have hrs:rr.size<=1000000:=by rw[HUR.o,Az];omega
   generalize s.extract 2 (2+n)=tt at HTT hts⊢;have HW:=ι hw3.o;clear hw3 B1 HUR g1 g2;have HLT:=ι (yF5 rr);have HSS:Hid (∀k,zB rr (k+1)=(zB rr k&&yU rr k==0)):=ι (λk=>rfl);have HS0:Hid (zB rr 0=true):=ι rfl;have HCN:=ι (λW=>yE2 tt W hts);clear hts;go_wp2_with fail
   go_loopw [34] (λiv W=>∃k:Nat,k<=rr.size/\iv=.int .i64 k/\Hid (zB rr k=true)/\Hid (ψ w W)) (λiv _=>rr.size- (intOf iv).toNat)
   case atStart=>exact⟨0,Bc _,rfl,HS0,HW⟩
   case round=>
    obtain⟨k,hk,rfl,hu,hbw⟩:=hrel
    by_cases hlt:k<rr.size
    ·have i1:=λw=>zN (P:=prog) underlying9 rr (k:Int) k rfl hlt w;have HSk:=ι (HSS.o k);generalize yU rr k=c at i1 HSk
     by_cases hcz:c=0
     ·have hc0:(c==0)=true:=by simpa using hcz
      have hc1:(c !=0)=false:=by simp[hcz]
      have HN:Hid (zB rr (k+1)=true):=ι (by rw[HSk.o,hu.o,hc0];rfl);subst hcz;clear HSk hu;go_wp2;exact⟨⟨k+1,ω,by go_num,HN,hbw⟩,by simp[intOf];omega⟩
     ·have hc0:(c==0)=false:=by simpa using hcz
      have hc1:(c !=0)=true:=by simp[hcz]
      have HN:Hid (ok=false):=ι (by rw[HOK.o];exact HLT.o (k+1) (by rw[HSk.o,hc0,Gq]) rr.size ω);clear HSk hu HOK HLT;go_wp2;go_ret2;exact⟨by rw[HE.o,HTT.o,HN.o];rfl,hbw.o⟩
    ·have he:k=rr.size:=ω;subst he;have HN:Hid (ok=true):=ι (by rw[HOK.o];exact hu.o);clear hu HOK HLT HSS HS0;go_wp2_with fail
     refine cM (HCN.o _) λw5 hb5=>?_;have B5:=ι (bT hbw.o hb5);clear hb5 hbw;go_wp2;go_ret2;exact⟨by rw[HE.o,HTT.o,HN.o];rfl,B5.o⟩
end Go.Proofs.SE
namespace Go.Proofs.ST
open Go.RowKit Mailsack MM BB SH SV RK DS AL
structure StL where
 gl:Nat
 gs:Nat
 gp0:Nat
 lo0:Nat
 hi0:Nat
 gp1:Nat
 lo1:Nat
 hi1:Nat
abbrev staO (L:StL) (cv:Value):Obj:=.cells #[.slice (some (θ L.gl 0)) 32 32,.pointer (some (θ L.gp0 0)),.pointer (some (θ L.gp1 0)),cv] 87
structure StM (w:World) (L:StL) (cv wv:Value) (s:StS) (W:World):Prop where
 st:W.heap[L.gs]?=some (staO L cv)
 sl:rG 137 rW W L.gl s.slots
 p0:xBm W L.lo0 L.hi0 L.gp0 24 s.jG
 p1:xBm W L.lo1 L.hi1 L.gp1 12 s.xCf
 wr:xW 94 2 wrF W L.hi1 wv s.writes
 len:s.slots.length=32
 bel:ψ w W
 o0:w.heap.size<=L.gl
 o1:L.gl<L.gs
 o2:L.gs<L.lo0
 o3:L.lo0<=L.hi0
 o4:L.hi0<=L.lo1
 o5:L.lo1<=L.hi1
 o6:L.hi1<=W.heap.size
section
variable {w W W':World} {L:StL} {cv wv:Value} {s:StS}
theorem StM.below (h:StM w L cv wv s W) (hb:ψ W W'):StM w L cv wv s W':=
 ⟨xC h.st hb (xH h.st),h.sl.below hb,h.p0.below hb,h.p1.below hb,h.wr.below hb,h.len,bT h.bel hb,h.o0,h.o1,h.o2,h.o3,h.o4,h.o5,Bg h.o6 hb.size⟩
theorem xJ3 (b:Nat):∀(l:List Value) (i:Nat) (W:World),(yE b i l W).heap.size=W.heap.size
 |[],_,_=>rfl
 |_::l,i,W=>by unfold yE;rw[xJ3 b l,size_set]
theorem xW.yE {α:Type} {e:TypeId} {k:Nat} {f:α->List Value} {w:World} {base:Nat} {v:Value} {l:List α} (h:xW e k f w base v l) {g:Nat} (xs:List Value) (i:Nat) (hg:g<base):xW e k f (SV.yE g i xs w) base v l:=by
 refine⟨h.1,?_⟩;rcases h.2 with hn|⟨g',cap,cur,h1,h2,h3,h4⟩
 ·exact .inl hn
 ·exact .inr ⟨g',cap,cur,h1,h2,yH ω xs i _ h3,h4⟩
theorem StM.slot (h:StM w L cv wv s W) {k:Nat} (hk:k<32) (t:Slot):StM w L cv wv {s with slots:=s.slots.set k t} (yE L.gl (k*5) (rW t) W):=by
 have a1:=h.o1;have a2:=h.o2;have a3:=h.o3;have a4:=h.o4;have a5:=h.o5
 refine⟨yH ω _ _ _ h.st,h.sl.put zZ (by rw[h.len];exact hk) t,h.p0.kept λq o hq h1 h2=>yH ω _ _ _ hq,h.p1.kept λq o hq h1 h2=>yH ω _ _ _ hq,xW.yE h.wr _ _ ω,by simpa using h.len,zG h.o0 _ _ _ h.bel,h.o0,h.o1,h.o2,h.o3,h.o4,h.o5,by rw[xJ3];exact h.o6⟩
theorem StM.app {l':List Wr} {wv':Value} (h:StM w L cv wv s W) (ha:xA5 94 2 wrF W W' L.hi1 wv wv' l'):StM w L cv wv' {s with writes:=l'} W':=by
 have a0:=h.o0;have a1:=h.o1;have a2:=h.o2;have a3:=h.o3;have a4:=h.o4;have a5:=h.o5;have a6:=h.o6;have hf:∀p,p<L.hi1->wv.ownBlock≠some p:=λp hp=>h.wr.far hp
 refine⟨ha.keep h.st (hf _ ω),ha.keep h.sl.blk (hf _ ω),h.p0.kept λq o hq h1 h2=>ha.keep hq (hf _ ω),h.p1.kept λq o hq h1 h2=>ha.keep hq (hf _ h2),ha.own,h.len,ha.bel h.wr ω h.bel ω,h.o0,h.o1,h.o2,h.o3,h.o4,h.o5,Bg h.o6 ha.grown.size⟩
theorem StM.cell (h:StM w L cv wv s W) (cv':Value):StM w L cv' wv s (W.setCell (θ L.gs 3) cv'):=by
 have a0:=h.o0;have a1:=h.o1;have a2:=h.o2;have a3:=h.o3;have a4:=h.o4;have a5:=h.o5;have a6:=h.o6;have hs:=yD h.st 3 cv';simp only[Ba,Bh,Cm] at hs
 refine⟨hs,yA h.sl.blk (p:=θ L.gs 3) (by show L.gl≠L.gs;omega) _,h.p0.kept λq o hq h1 h2=>yA hq (p:=θ L.gs 3) (by show q≠L.gs;omega) _,h.p1.kept λq o hq h1 h2=>yA hq (p:=θ L.gs 3) (by show q≠L.gs;omega) _,h.wr.xCz (p:=θ L.gs 3) _ (h.wr.far (by show L.gs<L.hi1;omega)),h.len,h.bel.setCell (p:=θ L.gs 3) (by show w.heap.size<=L.gs;omega) _,h.o0,h.o1,h.o2,h.o3,h.o4,h.o5,by rw[size_set];exact h.o6⟩
end
theorem xJ0 (w:World) (K:StL) (wv:Value) (s:StS) (i:Nat) (t:Slot) (W:World) (h:StM w K wv wv s W) (hi:i<32) (hc:t.cls<=255) (hb:t.blk<=255) (hs:t.size<=65535) (hn:t.name.length<=255) (hw:s.writes.length<=10000):
  Calls prog 79 #[.pointer (some (θ K.gs 0)),.int .i64 i,xKq t] W λe W'=>e=.returned (.tuple #[])/\∃wv',StM w K wv' wv' (putAt s i t) W':=by
 have HEN:=ι (λW=>xMf t W hc hb hs hn);have HP0:Hid (StM w K wv wv s (W.alloc (kQ t))/\(W.alloc (kQ t)).heap[W.heap.size]?=some (kQ t)/\K.hi1<=W.heap.size):=ι ⟨h.below ((Aq _ _).alloc ν _),xJ _ _,h.o6⟩
 have HPA:Hid (putAt s i t={s with slots:=s.slots.set i t,writes:=s.writes++[setW i t]}):=ι rfl;have HSW:Hid (setW i t=⟨((61+i:Nat):Int),tX t⟩):=ι rfl;have hi32:(i:Int)<32:=ω;obtain⟨bx,hbx⟩:=eX W.heap.size;rw[hbx] at HP0;have HBX:=ι hbx;have HW:=ι hw
 clear h hc hb hs hn hbx hw;go_enter func79,ntmps79;go_upto_region 1 with fail
 rw[HBX.o];generalize hw1:W.alloc (.cells #[.bool t.used,.int .i64 t.cls,.int .i64 t.blk,.int .i64 t.size,xR t.name] 137)=w1;have HP1:Hid (StM w K wv wv s w1/\w1.heap[bx]?=some (kQ t)/\K.hi1<=bx):=ι (by rw[<-hw1];exact HP0.o);clear hw1 HP0 HBX
 refine RG.vE [7] [] (λF α W=>Hid ((F 7=false->StM w K wv wv s W)/\(F 7=true->StM w K wv wv {s with slots:=s.slots.set i t} W)/\W.heap[bx]?=some (kQ t)))
  (λF F' α α' W hl _ h=>ι (by rw[<-hl 7 σ];exact h.o)) κ κ κ (ι ⟨λ_=>HP1.o.1.below (Aq _ _).drew,λe=>(by cases e),HP1.o.2.1⟩) ?_
 iterate 3 refine RG.vS ?_
 apply RG.zR
 ·rfl
 ·rfl
 ·intro α L w9 h0 hcl xQ hw9;have f7:L 7=false:=hcl.not 8 (i:=7) h0 κ;have hb:=(hw9.o.1 f7).st;have s0:=xR9 hb;repeat go_step
  exact RG.xE hw9
 ·intro α;rfl
 refine RG.vS ?_;iterate 2 refine RG.vF (λα L w9 h0 hcl xQ hw9=>xZe hw9.o.2.2) ?_
 apply RG.xDu (v:=undef)
 ·rfl
 ·rfl
 ·intro α L w9 h0 hcl xQ hw9;have hst:=hw9.o.1 h0;have HPU:=ι (hst.slot hi t);have HBX:=ι (yH (b:=K.gl) (g:=bx) (by have:=HP1.o.2.2;have:=hst.o1;have:=hst.o2;have:=hst.o3;have:=hst.o4;have:=hst.o5;omega) (rW t) (i*5) w9 hw9.o.2.2)
  obtain⟨y,hy⟩:∃y,s.slots[i]?=some y:=⟨_,Af (by rw[hst.len];exact hi)⟩;have f0:=hst.sl.free (i*5);have f1:=hst.sl.free (i*5+1);have f2:=hst.sl.free (i*5+2);have f3:=hst.sl.free (i*5+3);have f4:=hst.sl.free (i*5+4);have o0:=hst.sl.cell zZ (i:=0) hy rfl
  have o1:=hst.sl.cell zZ (i:=1) hy rfl;have o2:=hst.sl.cell zZ (i:=2) hy rfl;have o3:=hst.sl.cell zZ (i:=3) hy rfl;have o4:=hst.sl.cell zZ (i:=4) hy rfl;rw[Db] at o0;simp only[yE] at HPU HBX;clear hst hy;repeat go_step
  refine RG.xE ?_;exact ι ⟨λe=>by simp at e,λ_=>HPU.o,HBX.o⟩
 ·intro α;rfl
 refine RG.xA6 (λα w2 hw2=>?_);have HP2:Hid (StM w K wv wv {s with slots:=s.slots.set i t} w2/\w2.heap[bx]?=some (kQ t)/\K.hi1<=bx):=ι ⟨hw2.o.2.1 rfl,hw2.o.2.2,HP1.o.2.2⟩;clear hw2 HP1;go_upto_region 2 with fail
 obtain⟨ev,hev⟩:=eX (tX t);rw[hev] at HEN HSW;clear hev;obtain⟨sl2,hsl2⟩:=eX (s.slots.set i t);rw[hsl2] at HP2 HPA;have hat:(61:Int)+(i:Int)=((61+i:Nat):Int):=ω;have HAT:=ι hat;clear hat hsl2
 refine RG.vE [14] [10,11] (λF α W=>Hid ((F 11=false->StM w K wv wv {s with slots:=sl2} W)/\(F 10=true->F 11=false->RdR 2 wrF W W.heap.size (α 10) [⟨61+(i:Int),ev⟩])/\
  (F 11=true->F 14=false->StM w K wv (α 11) {s with slots:=sl2,writes:=s.writes++[⟨61+(i:Int),ev⟩]} W)/\(F 11=true->F 14=true->StM w K (α 11) (α 11) {s with slots:=sl2,writes:=s.writes++[⟨61+(i:Int),ev⟩]} W)/\W.heap[bx]?=some (kQ t)))
  (λF F' α α' W hl ha h=>ι (by
   have l10:=hl 10 σ;have l11:=hl 11 σ;have l14:=hl 14 σ;refine⟨λe=>h.o.1 (l11.trans e),λe f=>?_,λe f=>?_,λe f=>?_,h.o.2.2.2.2⟩
   ·rw[<-ha 10 σ (l10.trans e)];exact h.o.2.1 (l10.trans e) (l11.trans f)
   ·rw[<-ha 11 σ (l11.trans e)];exact h.o.2.2.1 (l11.trans e) (l14.trans f)
   ·rw[<-ha 11 σ (l11.trans e)];exact h.o.2.2.2.1 (l11.trans e) (l14.trans f))) κ κ κ (ι ⟨λ_=>HP2.o.1.below (Aq _ _).drew,λe=>(by cases e),λe=>(by cases e),λe=>(by cases e),HP2.o.2.1⟩) ?_
 iterate 4 refine RG.vS ?_
 apply RG.zR
 ·rfl
 ·rfl
 ·intro α L w9 h0 hcl xQ hw9;have f14:L 14=false:=hcl.not 9 (i:=14) h0 κ
  have hb:w9.heap[K.gs]?=some (staO K wv):=by
   cases f11:L 11 with
   |false=>exact(hw9.o.1 f11).st
   |true=>exact(hw9.o.2.2.1 f11 f14).st
  have s3:=xA hb 3;simp only[gA,gB,gC] at s3;clear hb;repeat go_step
  exact RG.xE hw9
 ·intro α;rfl
 iterate 2 refine RG.vS ?_
 refine RG.vF (λα L w9 h0 hcl xQ hw9=>xZe hw9.o.2.2.2.2) ?_;apply RG.zR
 ·rfl
 ·rfl
 ·intro α L w9 h0 hcl xQ hw9;repeat go_step
  refine(HEN.o _).mono ?_;rintro e w10 ⟨rfl,zO⟩;simp only[];repeat go_step
  refine RG.xE ?_;exact ι ⟨λe=>(hw9.o.1 e).below zO,λe f=>((hw9.o.2.1 e f).below zO ν).more zO.size,λe f=>(hw9.o.2.2.1 e f).below zO,λe f=>(hw9.o.2.2.2.1 e f).below zO,xC hw9.o.2.2.2.2 zO (xH hw9.o.2.2.2.2)⟩
 ·intro α;rfl
 refine RG.vS ?_;apply RG.qP
 ·rfl
 ·intro α L w9 h0 hcl xQ hw9;have f11:L 11=false:=hcl.not 9 (i:=11) h0 κ;refine⟨.slice (some (θ w9.heap.size 0)) 1 1,λbv hbv=>?_⟩;repeat go_step
  rw[<-hbv];refine RG.xE ?_;have hal:=φ w9 (.cells #[.int .i64 (61+(i:Int)),xR ev] 94)
  exact ι ⟨λ_=>(hw9.o.1 f11).below hal,λ_ _=>by
   rw[show RG.xLu α (0+1+1+1+1+1+1+1+1+1+1) bv 10=bv from RG.zL _ _ _,hbv,wY];exact RdR.lit (m:=[(⟨61+(i:Int),ev⟩:Wr)]) xCs w9 _ rfl,λe=>absurd (show L 11=true by simpa using e) (by rw[f11];simp),λe=>absurd (show L 11=true by simpa using e) (by rw[f11];simp),xN hw9.o.2.2.2.2 _⟩
 ·intro b α;rfl
 apply RG.qP
 ·rfl
 ·intro α L w9 h0 hcl xQ hw9
  have f10:L 10=true:=by
   have:=xQ.yes 9 (i:=11) (j:=10) σ κ;simpa using this
  have f14:L 14=false:=hcl.not 9 (i:=14) h0 κ;have hst:=hw9.o.1 h0;obtain⟨v',w',hr,ha⟩:=xFn (P:=prog) yJr 27 hst.wr (hw9.o.2.1 f10 h0) (by have:=HW.o;simp;omega) hst.o6;refine⟨v',λbv hbv=>?_⟩;refine rU rfl _ _ rfl rfl rfl hr ?_;rw[<-hbv];repeat go_step
  refine RG.xE ?_
  exact ι ⟨λe=>by simp at e,λ_ e=>by simp at e,λ_ _=>by
   rw[show RG.xLu α (0+1+1+1+1+1+1+1+1+1+1+1) bv 11=bv from RG.zL _ _ _,hbv];exact hst.app ha,λ_ e=>absurd (show L 14=true by simpa using e) (by rw[f14];simp),ha.keep hw9.o.2.2.2.2 (xW.neT hst.wr hw9.o.2.2.2.2 δ)⟩
 ·intro b α;rfl
 iterate 2 refine RG.vS ?_
 apply RG.xDv (v:=λ_=>undef)
 ·rfl
 ·kernel_rfl
 ·rfl
 ·intro α L w9 h0 hcl xQ hw9
  have f11:L 11=true:=by
   have:=xQ.yes 9 (i:=14) (j:=11) σ κ;simpa using this
  have hst:=hw9.o.2.2.1 f11 h0;obtain⟨A,c,hg,_⟩:=hst.wr.form;rw[show(s.writes++[(⟨61+(i:Int),ev⟩:Wr)]).length=s.writes.length+1 by simp] at hg;have HC:=ι (hst.cell (α 11))
  have HBX:=ι (yA hw9.o.2.2.2.2 (p:=θ K.gs 3) (by have:=HP2.o.2.2;have:=hst.o2;have:=hst.o3;have:=hst.o4;have:=hst.o5;show bx≠K.gs;omega) (α 11));have hb:=hst.st;have s3:=xA hb 3;have y3:=xG hb 3;simp only[gA,gB,gC] at s3;have HG:=ι hg
  rw[show α (0+1+1+1+1+1+1+1+1+1+1+1)=_ from hg];clear hst hb hg;repeat go_step
  rw[<-show α (0+1+1+1+1+1+1+1+1+1+1+1)=_ from HG.o];refine RG.xE ?_;exact ι ⟨λe=>absurd (show L 11=false by simpa using e) (by rw[f11];simp),λ_ e=>absurd (show L 11=false by simpa using e) (by rw[f11];simp),λ_ e=>by simp at e,λ_ _=>HC.o,HBX.o⟩
 ·intro α;rfl
 refine RG.xA6 (λα w3 hw3=>?_);have HR:=ι (hw3.o.2.2.2.1 rfl rfl);clear hw3;go_wp2;refine bodyPost_end (results_none rfl _ _ _) rfl ?_;refine⟨rfl,α 11,?_⟩;rw[HPA.o,HSW.o,<-HAT.o];exact HR.o
end Go.Proofs.ST
namespace Mailsack
theorem yDh {c b:Nat} {data:Bs} {k:Nat} (h:k<countP c):(vI c b data)[k]?=some ⟨((vN c b+k:Nat):Int),((xNi data (rE c)).drop (k*64)).take 64⟩:=by
 unfold vI;rw[Cg,Fg h]
 rfl
theorem xDh (c b:Nat) (data:Bs):(vI c b data).length=countP c:=by simp[vI]
end Mailsack
namespace Go.Proofs.ST
open Go.RowKit Mailsack MM BB SH SV RK DS AL
def xU5 (K:StL) (W W':World):Prop:=∀(q:Nat) cs T fr,W.heap[q]?=some (.cells cs T fr)->T≠94->K.hi1<=q->W'.heap[q]?=some (.cells cs T fr)
theorem xU5.refl (K:StL) (W:World):xU5 K W W:=λ_ _ _ _ h _ _=>h
theorem xU5.below {K:StL} {W W1 W2:World} (h:xU5 K W W1) (hb:ψ W1 W2):xU5 K W W2:=λq cs T fr h1 h2 h3=>by
 have:=h q cs T fr h1 h2 h3;exact xC this hb (xH this)
theorem xU5.app {K:StL} {W W1 W2:World} {base:Nat} {v v':Value} {l l':List Wr} (h:xU5 K W W1) (ho:xW 94 2 wrF W1 base v l) (ha:xA5 94 2 wrF W1 W2 base v v' l'):xU5 K W W2:=λq cs T fr h1 h2 h3=>by
 have:=h q cs T fr h1 h2 h3;exact ha.keep this (xW.neT ho this h2)
theorem xU5.cell {K:StL} {W W1:World} (h:xU5 K W W1) (hg:K.gs<K.hi1) (v:Value):xU5 K W (W1.setCell (θ K.gs 3) v):=λq cs T fr h1 h2 h3=>yA (h q cs T fr h1 h2 h3) (p:=θ K.gs 3) (by show q≠K.gs;omega) _
theorem StM.gs_lt {w W:World} {K:StL} {cv wv:Value} {s:StS} (h:StM w K cv wv s W):K.gs<K.hi1:=by
 have:=h.o2;have:=h.o3;have:=h.o4;have:=h.o5;omega
theorem xB6 (w:World) (K:StL) (wv:Value) (s:StS) (c b:Nat) (data:Bs) (W:World) (h:StM w K wv wv s W) (hc:c<=1) (hb:b<=255) (hd:data.length<=rE c) (hw:s.writes.length<=10000):
  Calls prog 84 #[.pointer (some (θ K.gs 0)),.int .i64 c,.int .i64 b,xR data] W λe W'=>e=.returned (.tuple #[])/\(∃wv',StM w K wv' wv' {s with writes:=s.writes++vI c b data} W')/\xU5 K W W':=by
 have HCA:=ι (λW=>xB9 c W);have hcl:=xOq c;have HPD:=ι (λW=>xSs ⟨data.toArray⟩ (rE c) W ω (by show data.toArray.size<=_;simp;omega));rw[show(⟨data.toArray⟩:ByteArray).data.toList=data from rfl] at HPD;have HSE:=ι (λW=>xJ4 c b W ω);have HPL:=ι (xNh hd);have HCE:=ι (xOr hc)
 have HFG:=ι (λk h=>yDh (c:=c) (b:=b) (data:=data) (k:=k) h);have HFL:=ι (xDh c b data);have HCN:Hid (countP c<=16/\vN c b<=100000):=ι ⟨by unfold countP;split<;>omega,by unfold vN;split<;>omega⟩;have HW:=ι hw
 have H0:Hid (StM w K wv wv {s with writes:=s.writes++(vI c b data).take 0} W):=ι (by simpa using h);have HGS:=ι h.gs_lt;generalize vI c b data=fl at HFG HFL H0⊢;generalize xNi data (rE c)=al at HPD HPL HFG;generalize rE c=cp at HCA HPD HPL HCE hd hcl
 generalize vN c b=fi at HSE HFG HCN;generalize countP c=cn at HSE HFG HFL HCN HCE;obtain⟨ab,hab⟩:=eX (⟨al.toArray⟩:ByteArray);have HAB:=ι (Ai hab (show ab.size=al.length by rw[<-hab];simp[ByteArray.size]))
 rw[show xR al=.string ab from by rw[<-hab]] at HPD;clear h hc hb hd hcl hw hab;go_enter func84,ntmps84;go_wp2_with fail
 refine cM (HCA.o _) λw1 hw1=>?_;rw[hw1];clear hw1 w1;go_wp2_with fail
 refine cM (HPD.o _) λw2 hb2=>?_;have H2:=ι (Ai (H0.o.below hb2) ((xU5.refl K W).below hb2));clear hb2 H0;go_wp2_with fail
 refine(HSE.o _).mono ?_;rintro e w3 ⟨rfl,rfl⟩;go_wp2_with fail
 clear HCA HPD HSE
 go_loopw [24] (λiv wr=>∃(k:Nat) (uv:Value),k<=cn/\iv=.int .i64 k/\Hid (StM w K uv uv {s with writes:=s.writes++fl.take k} wr/\xU5 K W wr)) (λiv _=>cn- (intOf iv).toNat)
 case atStart=>exact⟨0,_,Bc _,rfl,H2⟩
 case round=>
  obtain⟨k,uv,hk,rfl,HI⟩:=hrel;clear H2
  by_cases hlt:k<cn
  ·have HT1:Hid (∀x,fl[k]?=some x->s.writes++fl.take (k+1)=s.writes++fl.take k++[x]):=ι (λx hx=>by rw[Cc,hx,Cy];rfl)
   have HTL:Hid ((s.writes++fl.take k).length<=10020):=ι (by have:=HW.o;have:=Ei k fl;have:=HFL.o;have:=HCN.o.1;rw[Aj];omega);generalize s.writes++fl.take k=ws at HI HT1 HTL;obtain⟨A,cc,hv,_⟩:=HI.o.1.wr.form;have hcnb:cn<=16:=HCN.o.1
   have hfib:fi<=100000:=HCN.o.2;have hz:(ab.size:Int)=64*(cn:Int):=by have:=HAB.o.2;have:=HPL.o;have:=HCE.o;omega
   have hHX:=HFG.o k hlt
   have HPB:Hid (xR ((al.drop (k*64)).take 64)=.string (ab.extract (k*64) ((k+1)*64))):=ι (by
    rw[<-HAB.o.1];show Value.string _=Value.string _
    congr 1
    apply Ee;rw[Dh];apply Array.ext';rw[He];simp[List.extract,show(k+1)*64-k*64=64 by omega])
   have HX:=ι hHX;have HTK:Hid (s.writes++fl.take (k+1)=ws++[⟨((fi+k:Nat):Int),(al.drop (k*64)).take 64⟩]):=ι (HT1.o _ HX.o);have g1:(0:Int)<=(k:Int)*64:=ω;have g2:(k:Int)*64<=((k:Int)+1)*64:=ω;have g3:((k:Int)+1)*64<=(ab.size:Int):=ω;have hb:=HI.o.1.st;have s3:=xA hb 3
   have y3:=xG hb 3;simp only[gA,gB,gC] at s3;clear hHX hb;go_upto_region 6 with fail
   rw[<-HPB.o];generalize (al.drop (k*64)).take 64=pl at HTK⊢;have hfk:(fi:Int)+(k:Int)=((fi+k:Nat):Int):=ω;have HFK:=ι hfk
   have HAD:Hid (∀v8 w8,xA5 94 2 wrF (wr.alloc (.cells #[.int .i64 ((fi:Int)+(k:Int)),xR pl] 94)) w8 K.hi1 uv v8 (ws++[(⟨(fi:Int)+(k:Int),pl⟩:Wr)])->Hid (StM w K v8 v8 {s with writes:=s.writes++fl.take (k+1)} (w8.setCell (θ K.gs 3) v8)/\w8.heap[K.gs]?=some (staO K uv)/\xU5 K W (w8.setCell (θ K.gs 3) v8))):=ι λv8 w8 h8=>ι (by
    have ha:=StM.app (HI.o.1.below (φ wr _)) h8;refine⟨?_,ha.st,((HI.o.2.below (φ wr _)).app (HI.o.1.wr.alloc _) h8).cell HGS.o v8⟩;have hc:=ha.cell v8;rw[HTK.o,<-HFK.o];exact hc)
   have HO:=ι (Ai HI.o.1.wr HI.o.1.o6);subst hv;clear hfk HI HTK HPB HX
   go_wp2_with (at_builtin;refine uG yJr rfl _ _ rfl rfl rfl (HO.o.1.alloc _) (RdR.lit (m:=[(⟨(fi:Int)+(k:Int),pl⟩:Wr)]) xCs _ _ rfl) (by have:=HTL.o;simp;omega) (by have:=HO.o.2;simp;omega) ?_;intro v8 w8 h8;obtain⟨A8,c8,hv8,_⟩:=h8.own.form;rw[show(ws++[(⟨(fi:Int)+(k:Int),pl⟩:Wr)]).length=ws.length+1 by simp] at hv8;subst hv8;have HA8:=HAD.o _ _ h8;have s8:=xA HA8.o.2.1 3;have y8:=xG HA8.o.2.1 3;simp only[gA,gB,gC] at s8;clear h8)
   exact⟨⟨k+1,_,ω,by go_num,ι ⟨HA8.o.1,HA8.o.2.2⟩⟩,by simp[intOf];omega⟩
  ·obtain rfl:k=cn:=ω;have HE:Hid (fl.take k=fl):=ι (Ce (by rw[HFL.o];omega));rw[HE.o] at HI;go_wp2;refine bodyPost_end (results_none rfl _ _ _) rfl ?_;exact⟨rfl,⟨_,HI.o.1⟩,HI.o.2⟩
theorem yD8 (t:Slot) (w:World):
  Calls prog 81 #[xKq t] w (pv (.bool (!t.used)) w):=by
 obtain⟨u,c,b,s,m⟩:=t;have HB:=ι (φ w (kQ ⟨u,c,b,s,m⟩));have hb:=xJ w (kQ ⟨u,c,b,s,m⟩);have c0:=xR9 hb;clear hb;cases u with
 |false=>
  go_enter func81,ntmps81;go_wp2;go_ret;exact⟨rfl,HB.o⟩
 |true=>
  go_enter func81,ntmps81;go_wp2;go_ret;exact⟨rfl,HB.o⟩
abbrev chV (c:Ch):Value:=.agg #[xR c.name,xR c.data,.bool c.gone]
abbrev chO (c:Ch):Obj:=.cells #[xR c.name,xR c.data,.bool c.gone] 63
structure ChM (w:World) (K:StL) (wv:Value) (s:StS) (c:Ch) (bx:Nat) (W:World):Prop where
 m:StM w K wv wv s W
 c:W.heap[bx]?=some (chO c)
 lo:K.hi1<=bx
section
variable {w W W':World} {K:StL} {wv:Value} {s:StS} {c:Ch} {bx:Nat}
theorem ChM.below (h:ChM w K wv s c bx W) (hb:ψ W W'):ChM w K wv s c bx W':=⟨h.m.below hb,xC h.c hb (xH h.c),h.lo⟩
theorem ChM.drew (h:ChM w K wv s c bx W):ChM w K wv s c bx W.drew:=h.below (Aq _ _).drew
theorem ChM.slots (h:ChM w K wv s c bx W):RdR 5 rW W W.heap.size (.slice (some (θ K.gl 0)) 32 32) s.slots:=by
 have:=h.m.sl.rd zZ (B:=W.heap.size) (xH h.m.sl.blk) (c:=32) (by rw[h.m.len];omega);rw[h.m.len] at this;exact this
theorem ChM.pop0 (h:ChM w K wv s c bx W) {l:List Nat} (hp:xBm W' K.lo0 K.hi0 K.gp0 24 l) (ht:Tn (λk=>K.lo0<=k/\k<K.hi0) W W'):ChM w K wv {s with jG:=l} c bx W':=by
 have m:=h.m;have a0:=m.o0;have a1:=m.o1;have a2:=m.o2;have a3:=m.o3;have a4:=m.o4;have a5:=m.o5;have a6:=m.o6;have a7:=h.lo
 refine⟨⟨ht.blk m.st ω,ht.blk m.sl.blk ω,hp,m.p1.tn ht (λk h1 h2=>by omega),m.wr.tn ht (λg hg=>by have:=(Di m.wr.row g hg).1;omega),m.len,m.bel.trans (ht.below (λk hk=>by omega) m.bel.size),a0,a1,a2,a3,a4,a5,Bg a6 ht.size⟩,ht.blk h.c ω,h.lo⟩
theorem ChM.pop1 (h:ChM w K wv s c bx W) {l:List Nat} (hp:xBm W' K.lo1 K.hi1 K.gp1 12 l) (ht:Tn (λk=>K.lo1<=k/\k<K.hi1) W W'):ChM w K wv {s with xCf:=l} c bx W':=by
 have m:=h.m;have a0:=m.o0;have a1:=m.o1;have a2:=m.o2;have a3:=m.o3;have a4:=m.o4;have a5:=m.o5;have a6:=m.o6;have a7:=h.lo
 refine⟨⟨ht.blk m.st ω,ht.blk m.sl.blk ω,m.p0.tn ht (λk h1 h2=>by omega),hp,m.wr.tn ht (λg hg=>by have:=(Di m.wr.row g hg).1;omega),m.len,m.bel.trans (ht.below (λk hk=>by omega) m.bel.size),a0,a1,a2,a3,a4,a5,Bg a6 ht.size⟩,ht.blk h.c ω,h.lo⟩
end
end Go.Proofs.ST
namespace Go.Proofs.ST
open Go.RowKit Mailsack MM BB SH SV RK DS AL
def yJa (w:World) (K:StL) (s:StS) (c:Ch) (W:World):Prop:=∃wv',StM w K wv' wv' (if kE s c=0 then jC s c else s) W
theorem xYr (w:World) (K:StL) (wv:Value) (s:StS) (c:Ch) (W:World) (h:StM w K wv wv s W) (hw:s.writes.length<=9000):
  Calls prog 34 #[.pointer (some (θ K.gs 0)),chV c] W λe W'=>e=.returned (.int .i64 (kE s c))/\yJa w K s c W':=by
 have H0:Hid (ChM w K wv s c W.heap.size (W.alloc (chO c))):=ι ⟨h.below ((Aq _ _).alloc ν _),xJ _ _,h.o6⟩;have HW:=ι hw
 have HCE:Hid (kE s c=if c.name.length<1∨24<c.name.length then 1 else if c.gone=true then(if wU s.slots c.name<0 then 6 else 0) else if 1024<c.data.length then 4 else if qY s.slots c.name<0 then 5 else if (s.free (yJ c.data)).length=0 then 5 else 0):=ι rfl
 have HPO:Hid (∀W',(∃wv',StM w K wv' wv' (if kE s c=0 then jC s c else s) W')->yJa w K s c W'):=ι λ_ h=>h;obtain⟨ce,hce⟩:=eX (kE s c);rw[hce] at HCE HPO⊢;obtain⟨bx,hbx⟩:=eX W.heap.size;rw[hbx] at H0;have HBX:=ι hbx;clear h hw hce hbx
 by_cases hn:c.name.length<1∨24<c.name.length
 ·have HC:Hid (ce=1):=ι (by rw[HCE.o,Ah hn]);have c0:=xR9 H0.o.c;rw[HC.o,Ag ω] at HPO;clear HCE
  by_cases h1:c.name.length<1
  ·have i1:(c.name.length:Int)<1:=ω;clear hn h1;go_enter func34,ntmps34;go_upto_region 1 with fail
   rw[HBX.o];go_wp2;go_ret;exact⟨by rw[HC.o];rfl,HPO.o _ ⟨_,H0.o.m⟩⟩
  ·have i1:¬((c.name.length:Int)<1):=ω;have i2:24<(c.name.length:Int):=ω;clear hn h1;go_enter func34,ntmps34;go_upto_region 1 with fail
   rw[HBX.o];go_wp2;go_ret;exact⟨by rw[HC.o];rfl,HPO.o _ ⟨_,H0.o.m⟩⟩
 ·have i1:¬((c.name.length:Int)<1):=ω;have i2:¬(24<(c.name.length:Int)):=ω;have HNL:Hid (c.name.length<=24):=ι ω;rw[Ag hn] at HCE;clear hn;have c0:=xR9 H0.o.c
  have HFI:=ι (λW (h:ChM w K wv s c bx W)=>xIg (.slice (some (θ K.gl 0)) 32 32) s.slots c.name W h.slots (by rw[h.m.len];omega));go_enter func34,ntmps34;go_upto_region 1 with fail
  rw[HBX.o];go_upto_region 3 with fail
  clear c0 i1 i2;generalize W.alloc (.cells #[xR c.name,xR c.data,.bool c.gone] 63)=w1 at H0⊢;refine RG.xU (λW=>Hid (ChM w K wv s c bx W)) κ κ (ι H0.o.drew) ?_
  iterate 6
   apply RG.xL
   ·intro w9 hw9;have hb:=hw9.o.m.st;have s0:=xA hb 0;have hc:=hw9.o.c;have c0:=xA hc 0;simp only[gA,gC] at s0 c0;repeat go_step
    exact RG.xE hw9
   ·rfl
  apply RG.xL
  ·intro w9 hw9;repeat go_step
   refine(HFI.o _ hw9.o).mono ?_;rintro e w10 ⟨rfl,zO⟩;simp only[];repeat go_step
   refine RG.xE ?_;exact ι (hw9.o.below zO)
  ·rfl
  refine RG.dS ?_;refine RG.xX (λw3 hw3=>?_);clear H0 HFI HBX;have c2:=xA hw3.o.c 2;simp only[gA,gB,gC] at c2;cases hg:c.gone with
  |true=>
   rw[hg] at c2;rw[hg,Ah rfl] at HCE;have HGO:Hid (jC s c=putAt s (wU s.slots c.name).toNat noSlot):=ι (by unfold jC;rw[hg,Ah rfl]);rcases qI s.slots c.name with ⟨f1,_⟩|⟨i,t,f1,f2,_,_,f5⟩
   ·rw[f1];rw[f1,Ah ω] at HCE;have HC:=HCE;rw[HC.o,Ag ω] at HPO;clear f1 hg HGO HCE;go_wp2;go_ret;exact⟨by rw[HC.o];rfl,HPO.o _ ⟨_,hw3.o.m⟩⟩
   ·rw[f1];rw[f1,Ag ω] at HCE;rw[f1,Cn] at HGO;have HC:=HCE;rw[HC.o,Ah rfl,HGO.o] at HPO;have HST:=ι (xJ0 w K wv s i noSlot w3 hw3.o.m (by rw[hw3.o.m.len] at f5;exact f5) δ δ δ δ (by have:=HW.o;omega))
    rw[show xKq noSlot=.agg #[.bool false,.int .i64 0,.int .i64 0,.int .i64 0,.string ⟨#[]⟩] from rfl] at HST;clear f1 f2 f5 hg HGO HCE;go_wp2_with fail
    refine HST.o.mono ?_;rintro e w4 ⟨rfl,hp⟩;have HP:=ι hp;clear hp c2 HST;go_wp2;go_ret;exact⟨by rw[HC.o];rfl,HPO.o _ HP.o⟩
  |false=>
   rw[hg] at c2;rw[hg,Ag σ] at HCE;have c1:=xA hw3.o.c 1;simp only[gA,gB,gC] at c1
   have HGO:Hid (jC s c=putAt {wH s (yJ c.data) with writes:=(wH s (yJ c.data)).writes++vI (yJ c.data) ((s.free (yJ c.data)).getD 0 0) c.data} (qY s.slots c.name).toNat (zH c ((s.free (yJ c.data)).getD 0 0))):=ι (by unfold jC;rw[hg,Ag σ]);clear hg
   by_cases hd:1024<c.data.length
   ·have hdi:1024<(c.data.length:Int):=ω;rw[Ah hd] at HCE;have HC:=HCE;rw[HC.o,Ag ω] at HPO;clear hd HGO HCE;go_wp2;go_ret;exact⟨by rw[HC.o];rfl,HPO.o _ ⟨_,hw3.o.m⟩⟩
   ·have hdi:¬(1024<(c.data.length:Int)):=ω;rw[Ag hd] at HCE;have HDL:Hid (c.data.length<=1024):=ι ω;clear hd;have HPL:Hid (qY s.slots c.name=if wU s.slots c.name<0 then qH (λt=>!t.used) s.slots else wU s.slots c.name):=ι rfl
    have HPC:Hid ((qY s.slots c.name=-1)∨∃i:Nat,qY s.slots c.name=i/\i<32):=ι (by
     have hl:=hw3.o.m.len;unfold qY;split
     ·rcases pF (λt:Slot=>!t.used) s.slots with ⟨g,_⟩|⟨k,t,g1,g2,_⟩
      ·exact .inl g
      ·exact .inr ⟨k,g1,by have:=(Ar.1 g2).1;omega⟩
     ·rcases qI s.slots c.name with ⟨g,_⟩|⟨k,t,g1,_,_,_,g5⟩
      ·omega
      ·exact .inr ⟨k,g1,ω⟩)
    by_cases hf:wU s.slots c.name<0
    ·rw[Ah hf] at HPL;have HIF:=ι (xQi 81 #[] (λt=>!t.used) (.slice (some (θ K.gl 0)) 32 32) s.slots w3 hw3.o.slots (by rw[hw3.o.m.len];omega) (λargs W=>enters_of func81 κ rfl args W) (λt W _=>yD8 t W));rw[<-HPL.o] at HIF;have hs0:=xR9 hw3.o.m.st;go_wp2_with fail
     refine HIF.o.mono ?_;rintro e w5 ⟨rfl,hb5⟩;have H5:=ι (hw3.o.below hb5);clear hb5 HIF hs0 c1 c2 hdi hf hw3 HPL;rcases HPC.o with hpl|⟨i,hpl,hi⟩
     ·rw[hpl];rw[hpl,Ah ω] at HCE;have HC:=HCE;rw[HC.o,Ag ω] at HPO;clear hpl HGO HCE;go_wp2;go_ret;exact⟨by rw[HC.o];rfl,HPO.o _ ⟨_,H5.o.m⟩⟩
     ·rw[hpl];rw[hpl,Ag ω] at HCE;rw[hpl,Cn] at HGO;clear hpl HPC;have HI:=ι hi;clear hi;go_upto_region 16 with fail
      have HCA:=ι (λW=>xB9 0 W);rw[show(rE 0:Int)=256 from rfl] at HCA;refine RG.xU (λW=>Hid (ChM w K wv s c bx W)) κ κ (ι H5.o.drew) ?_
      iterate 3
       apply RG.xL
       ·intro w9 hw9;have hc:=hw9.o.c;have c1:=xA hc 1;simp only[gA,gB,gC] at c1;repeat go_step
        exact RG.xE hw9
       ·rfl
      apply RG.xL
      ·intro w9 hw9;repeat go_step
       refine(HCA.o _).mono ?_;rintro e w10 ⟨rfl,rfl⟩;simp only[];repeat go_step
       exact RG.xE hw9
      ·rfl
      refine RG.dS ?_;refine RG.xX (λw6 hw6=>?_);clear H5 HCA;have c1:=xA hw6.o.c 1;simp only[gA,gB,gC] at c1
      by_cases hcl:256<c.data.length
      ·have HCL:Hid (yJ c.data=1):=ι (by unfold yJ;rw[Ah hcl]);rw[HCL.o] at HCE HGO;have yLj:256<(c.data.length:Int):=ω;have s2:=xA hw6.o.m.st 2;simp only[gA,gB,gC] at s2;clear hcl;rw[show s.free 1=s.xCf from rfl] at HCE HGO
       rw[show wH s 1={s with xCf:=xAb s.xCf} from rfl] at HGO;cases hfr:s.xCf with
       |nil=>
        rw[hfr,Ah (show([]:List Nat).length=0 from rfl)] at HCE;have HC:=HCE;rw[HC.o,Ag ω] at HPO;have hpm:=hw6.o.m.p1;rw[hfr] at hpm;have HTK:=ι (xFi K.lo1 K.hi1 K.gp1 12 w6 hpm);clear hfr hpm HGO HCE;go_wp2_with fail
        refine HTK.o.mono ?_;rintro e w7 ⟨rfl,hw7⟩;rw[hw7];clear hw7 w7;go_wp2;go_ret;exact⟨by rw[HC.o];rfl,HPO.o _ ⟨_,hw6.o.m⟩⟩
       |cons x fl=>
        rw[hfr,Ag σ] at HCE;rw[hfr] at HGO;have HC:=HCE;rw[HC.o,Ah rfl,HGO.o] at HPO;have hpm:=hw6.o.m.p1;rw[hfr] at hpm
        have HXB:Hid (x<12):=ι (by
         obtain⟨_,_,_,_,_,_,_,_,_,_,_,_,h8,_⟩:=hpm;exact h8 x (Cx ..))
        have HTK:=ι (xI1 K.lo1 K.hi1 K.gp1 12 x fl w6 hpm);clear hfr hpm HGO HCE;go_wp2_with fail
        refine HTK.o.mono ?_;rintro e w7 ⟨rfl,hp7,ht7⟩;have H7:=ι (hw6.o.pop1 hp7 ht7);clear hp7 ht7 HTK c1 s2 hw6 yLj;have c1:=xA H7.o.c 1;simp only[gA,gB,gC] at c1
        have HFL:=ι (xB6 w K wv {s with xCf:=xAb (x::fl)} 1 x c.data w7 H7.o.m ω (by have:=HXB.o;omega) (by show c.data.length<=1024;have:=HDL.o;omega) (by show s.writes.length<=_;have:=HW.o;omega));rw[show(((1:Nat)):Int)=1 from rfl] at HFL;go_upto_region 21 with fail
        go_wp2_with fail
        refine HFL.o.mono ?_;rintro e w8 ⟨rfl,⟨uv,hm8⟩,hk8⟩;have HB8:=ι (hk8 _ _ _ _ H7.o.c δ H7.o.lo)
        have HST:=ι (xJ0 w K uv {s with xCf:=xAb (x::fl),writes:=s.writes++vI 1 x c.data} i (zH c x) w8 hm8 HI.o (by show yJ c.data<=255;rw[HCL.o];omega) (by show x<=255;have:=HXB.o;omega) (by show c.data.length<=65535;have:=HDL.o;omega) (by show c.name.length<=255;have:=HNL.o;omega) (by show(s.writes++vI 1 x c.data).length<=_;rw[Aj,xDh];have:=HW.o;have h16:countP 1<=16:=δ;omega))
        rw[show xKq (zH c x)=.agg #[.bool true,.int .i64 (yJ c.data:Nat),.int .i64 x,.int .i64 (c.data.length:Nat),xR c.name] from rfl,HCL.o] at HST;rw[show(((1:Nat)):Int)=1 from rfl] at HST;clear hm8 hk8 HFL H7 c1;have c1:=xA HB8.o 1;have c0:=xA HB8.o 0
        simp only[gA,gB,gC] at c0 c1;go_upto_region 22 with fail
        go_wp2_with fail
        refine HST.o.mono ?_;rintro e w9 ⟨rfl,hp⟩;have HP:=ι hp;clear hp c0 c1 HST;go_wp2;go_ret;exact⟨by rw[HC.o];rfl,HPO.o _ HP.o⟩
      ·have HCL:Hid (yJ c.data=0):=ι (by unfold yJ;rw[Ag hcl]);rw[HCL.o] at HCE HGO;have HCLB:Hid (c.data.length<=256):=ι ω;have yLj:¬(256<(c.data.length:Int)):=ω;have s2:=xA hw6.o.m.st 1;simp only[gA,gB,gC] at s2;clear hcl;rw[show s.free 0=s.jG from rfl] at HCE HGO
       rw[show wH s 0={s with jG:=xAb s.jG} from rfl] at HGO;cases hfr:s.jG with
       |nil=>
        rw[hfr,Ah (show([]:List Nat).length=0 from rfl)] at HCE;have HC:=HCE;rw[HC.o,Ag ω] at HPO;have hpm:=hw6.o.m.p0;rw[hfr] at hpm;have HTK:=ι (xFi K.lo0 K.hi0 K.gp0 24 w6 hpm);clear hfr hpm HGO HCE;go_wp2_with fail
        refine HTK.o.mono ?_;rintro e w7 ⟨rfl,hw7⟩;rw[hw7];clear hw7 w7;go_wp2;go_ret;exact⟨by rw[HC.o];rfl,HPO.o _ ⟨_,hw6.o.m⟩⟩
       |cons x fl=>
        rw[hfr,Ag σ] at HCE;rw[hfr] at HGO;have HC:=HCE;rw[HC.o,Ah rfl,HGO.o] at HPO;have hpm:=hw6.o.m.p0;rw[hfr] at hpm
        have HXB:Hid (x<24):=ι (by
         obtain⟨_,_,_,_,_,_,_,_,_,_,_,_,h8,_⟩:=hpm;exact h8 x (Cx ..))
        have HTK:=ι (xI1 K.lo0 K.hi0 K.gp0 24 x fl w6 hpm);clear hfr hpm HGO HCE;go_wp2_with fail
        refine HTK.o.mono ?_;rintro e w7 ⟨rfl,hp7,ht7⟩;have H7:=ι (hw6.o.pop0 hp7 ht7);clear hp7 ht7 HTK c1 s2 hw6 yLj;have c1:=xA H7.o.c 1;simp only[gA,gB,gC] at c1
        have HFL:=ι (xB6 w K wv {s with jG:=xAb (x::fl)} 0 x c.data w7 H7.o.m ω (by have:=HXB.o;omega) (by show c.data.length<=256;have:=HCLB.o;omega) (by show s.writes.length<=_;have:=HW.o;omega));rw[show(((0:Nat)):Int)=0 from rfl] at HFL;go_upto_region 21 with fail
        go_wp2_with fail
        refine HFL.o.mono ?_;rintro e w8 ⟨rfl,⟨uv,hm8⟩,hk8⟩;have HB8:=ι (hk8 _ _ _ _ H7.o.c δ H7.o.lo)
        have HST:=ι (xJ0 w K uv {s with jG:=xAb (x::fl),writes:=s.writes++vI 0 x c.data} i (zH c x) w8 hm8 HI.o (by show yJ c.data<=255;rw[HCL.o];omega) (by show x<=255;have:=HXB.o;omega) (by show c.data.length<=65535;have:=HDL.o;omega) (by show c.name.length<=255;have:=HNL.o;omega) (by show(s.writes++vI 0 x c.data).length<=_;rw[Aj,xDh];have:=HW.o;have h16:countP 0<=16:=δ;omega))
        rw[show xKq (zH c x)=.agg #[.bool true,.int .i64 (yJ c.data:Nat),.int .i64 x,.int .i64 (c.data.length:Nat),xR c.name] from rfl,HCL.o] at HST;rw[show(((0:Nat)):Int)=0 from rfl] at HST;clear hm8 hk8 HFL H7 c1;have c1:=xA HB8.o 1;have c0:=xA HB8.o 0
        simp only[gA,gB,gC] at c0 c1;go_upto_region 22 with fail
        go_wp2_with fail
        refine HST.o.mono ?_;rintro e w9 ⟨rfl,hp⟩;have HP:=ι hp;clear hp c0 c1 HST;go_wp2;go_ret;exact⟨by rw[HC.o];rfl,HPO.o _ HP.o⟩
    ·rw[Ag hf] at HPL;have H5:=hw3;rw[<-HPL.o] at hf⊢;clear hw3 HPL;go_upto_region 13 with fail
     clear c1 c2 hdi hf;obtain⟨w5,hw5⟩:∃w5,w5=w3:=⟨_,rfl⟩;rw[<-hw5] at H5⊢;clear hw5;rcases HPC.o with hpl|⟨i,hpl,hi⟩
     ·rw[hpl];rw[hpl,Ah ω] at HCE;have HC:=HCE;rw[HC.o,Ag ω] at HPO;clear hpl HGO HCE;go_wp2;go_ret;exact⟨by rw[HC.o];rfl,HPO.o _ ⟨_,H5.o.m⟩⟩
     ·rw[hpl];rw[hpl,Ag ω] at HCE;rw[hpl,Cn] at HGO;clear hpl HPC;have HI:=ι hi;clear hi;go_upto_region 16 with fail
      have HCA:=ι (λW=>xB9 0 W);rw[show(rE 0:Int)=256 from rfl] at HCA;refine RG.xU (λW=>Hid (ChM w K wv s c bx W)) κ κ (ι H5.o.drew) ?_
      iterate 3
       apply RG.xL
       ·intro w9 hw9;have hc:=hw9.o.c;have c1:=xA hc 1;simp only[gA,gB,gC] at c1;repeat go_step
        exact RG.xE hw9
       ·rfl
      apply RG.xL
      ·intro w9 hw9;repeat go_step
       refine(HCA.o _).mono ?_;rintro e w10 ⟨rfl,rfl⟩;simp only[];repeat go_step
       exact RG.xE hw9
      ·rfl
      refine RG.dS ?_;refine RG.xX (λw6 hw6=>?_);clear H5 HCA;have c1:=xA hw6.o.c 1;simp only[gA,gB,gC] at c1
      by_cases hcl:256<c.data.length
      ·have HCL:Hid (yJ c.data=1):=ι (by unfold yJ;rw[Ah hcl]);rw[HCL.o] at HCE HGO;have yLj:256<(c.data.length:Int):=ω;have s2:=xA hw6.o.m.st 2;simp only[gA,gB,gC] at s2;clear hcl;rw[show s.free 1=s.xCf from rfl] at HCE HGO
       rw[show wH s 1={s with xCf:=xAb s.xCf} from rfl] at HGO;cases hfr:s.xCf with
       |nil=>
        rw[hfr,Ah (show([]:List Nat).length=0 from rfl)] at HCE;have HC:=HCE;rw[HC.o,Ag ω] at HPO;have hpm:=hw6.o.m.p1;rw[hfr] at hpm;have HTK:=ι (xFi K.lo1 K.hi1 K.gp1 12 w6 hpm);clear hfr hpm HGO HCE;go_wp2_with fail
        refine HTK.o.mono ?_;rintro e w7 ⟨rfl,hw7⟩;rw[hw7];clear hw7 w7;go_wp2;go_ret;exact⟨by rw[HC.o];rfl,HPO.o _ ⟨_,hw6.o.m⟩⟩
       |cons x fl=>
        rw[hfr,Ag σ] at HCE;rw[hfr] at HGO;have HC:=HCE;rw[HC.o,Ah rfl,HGO.o] at HPO;have hpm:=hw6.o.m.p1;rw[hfr] at hpm
        have HXB:Hid (x<12):=ι (by
         obtain⟨_,_,_,_,_,_,_,_,_,_,_,_,h8,_⟩:=hpm;exact h8 x (Cx ..))
        have HTK:=ι (xI1 K.lo1 K.hi1 K.gp1 12 x fl w6 hpm);clear hfr hpm HGO HCE;go_wp2_with fail
        refine HTK.o.mono ?_;rintro e w7 ⟨rfl,hp7,ht7⟩;have H7:=ι (hw6.o.pop1 hp7 ht7);clear hp7 ht7 HTK c1 s2 hw6 yLj;have c1:=xA H7.o.c 1;simp only[gA,gB,gC] at c1
        have HFL:=ι (xB6 w K wv {s with xCf:=xAb (x::fl)} 1 x c.data w7 H7.o.m ω (by have:=HXB.o;omega) (by show c.data.length<=1024;have:=HDL.o;omega) (by show s.writes.length<=_;have:=HW.o;omega));rw[show(((1:Nat)):Int)=1 from rfl] at HFL;go_upto_region 21 with fail
        go_wp2_with fail
        refine HFL.o.mono ?_;rintro e w8 ⟨rfl,⟨uv,hm8⟩,hk8⟩;have HB8:=ι (hk8 _ _ _ _ H7.o.c δ H7.o.lo)
        have HST:=ι (xJ0 w K uv {s with xCf:=xAb (x::fl),writes:=s.writes++vI 1 x c.data} i (zH c x) w8 hm8 HI.o (by show yJ c.data<=255;rw[HCL.o];omega) (by show x<=255;have:=HXB.o;omega) (by show c.data.length<=65535;have:=HDL.o;omega) (by show c.name.length<=255;have:=HNL.o;omega) (by show(s.writes++vI 1 x c.data).length<=_;rw[Aj,xDh];have:=HW.o;have h16:countP 1<=16:=δ;omega))
        rw[show xKq (zH c x)=.agg #[.bool true,.int .i64 (yJ c.data:Nat),.int .i64 x,.int .i64 (c.data.length:Nat),xR c.name] from rfl,HCL.o] at HST;rw[show(((1:Nat)):Int)=1 from rfl] at HST;clear hm8 hk8 HFL H7 c1;have c1:=xA HB8.o 1;have c0:=xA HB8.o 0
        simp only[gA,gB,gC] at c0 c1;go_upto_region 22 with fail
        go_wp2_with fail
        refine HST.o.mono ?_;rintro e w9 ⟨rfl,hp⟩;have HP:=ι hp;clear hp c0 c1 HST;go_wp2;go_ret;exact⟨by rw[HC.o];rfl,HPO.o _ HP.o⟩
      ·have HCL:Hid (yJ c.data=0):=ι (by unfold yJ;rw[Ag hcl]);rw[HCL.o] at HCE HGO;have HCLB:Hid (c.data.length<=256):=ι ω;have yLj:¬(256<(c.data.length:Int)):=ω;have s2:=xA hw6.o.m.st 1;simp only[gA,gB,gC] at s2;clear hcl;rw[show s.free 0=s.jG from rfl] at HCE HGO
       rw[show wH s 0={s with jG:=xAb s.jG} from rfl] at HGO;cases hfr:s.jG with
       |nil=>
        rw[hfr,Ah (show([]:List Nat).length=0 from rfl)] at HCE;have HC:=HCE;rw[HC.o,Ag ω] at HPO;have hpm:=hw6.o.m.p0;rw[hfr] at hpm;have HTK:=ι (xFi K.lo0 K.hi0 K.gp0 24 w6 hpm);clear hfr hpm HGO HCE;go_wp2_with fail
        refine HTK.o.mono ?_;rintro e w7 ⟨rfl,hw7⟩;rw[hw7];clear hw7 w7;go_wp2;go_ret;exact⟨by rw[HC.o];rfl,HPO.o _ ⟨_,hw6.o.m⟩⟩
       |cons x fl=>
        rw[hfr,Ag σ] at HCE;rw[hfr] at HGO;have HC:=HCE;rw[HC.o,Ah rfl,HGO.o] at HPO;have hpm:=hw6.o.m.p0;rw[hfr] at hpm
        have HXB:Hid (x<24):=ι (by
         obtain⟨_,_,_,_,_,_,_,_,_,_,_,_,h8,_⟩:=hpm;exact h8 x (Cx ..))
        have HTK:=ι (xI1 K.lo0 K.hi0 K.gp0 24 x fl w6 hpm);clear hfr hpm HGO HCE;go_wp2_with fail
        refine HTK.o.mono ?_;rintro e w7 ⟨rfl,hp7,ht7⟩;have H7:=ι (hw6.o.pop0 hp7 ht7);clear hp7 ht7 HTK c1 s2 hw6 yLj;have c1:=xA H7.o.c 1;simp only[gA,gB,gC] at c1
        have HFL:=ι (xB6 w K wv {s with jG:=xAb (x::fl)} 0 x c.data w7 H7.o.m ω (by have:=HXB.o;omega) (by show c.data.length<=256;have:=HCLB.o;omega) (by show s.writes.length<=_;have:=HW.o;omega));rw[show(((0:Nat)):Int)=0 from rfl] at HFL;go_upto_region 21 with fail
        go_wp2_with fail
        refine HFL.o.mono ?_;rintro e w8 ⟨rfl,⟨uv,hm8⟩,hk8⟩;have HB8:=ι (hk8 _ _ _ _ H7.o.c δ H7.o.lo)
        have HST:=ι (xJ0 w K uv {s with jG:=xAb (x::fl),writes:=s.writes++vI 0 x c.data} i (zH c x) w8 hm8 HI.o (by show yJ c.data<=255;rw[HCL.o];omega) (by show x<=255;have:=HXB.o;omega) (by show c.data.length<=65535;have:=HDL.o;omega) (by show c.name.length<=255;have:=HNL.o;omega) (by show(s.writes++vI 0 x c.data).length<=_;rw[Aj,xDh];have:=HW.o;have h16:countP 0<=16:=δ;omega))
        rw[show xKq (zH c x)=.agg #[.bool true,.int .i64 (yJ c.data:Nat),.int .i64 x,.int .i64 (c.data.length:Nat),xR c.name] from rfl,HCL.o] at HST;rw[show(((0:Nat)):Int)=0 from rfl] at HST;clear hm8 hk8 HFL H7 c1;have c1:=xA HB8.o 1;have c0:=xA HB8.o 0
        simp only[gA,gB,gC] at c0 c1;go_upto_region 22 with fail
        go_wp2_with fail
        refine HST.o.mono ?_;rintro e w9 ⟨rfl,hp⟩;have HP:=ι hp;clear hp c0 c1 HST;go_wp2;go_ret;exact⟨by rw[HC.o];rfl,HPO.o _ HP.o⟩
end Go.Proofs.ST
namespace Mailsack
theorem xR6:∀(l:List Ch) (s:StS) (c:Ch),(zF s l).2=0->zF s (l++[c])=if kE (zF s l).1 c=0 then(jC (zF s l).1 c,0) else((zF s l).1,kE (zF s l).1 c)
 |[],s,c,_=>by
  show(if kE s c=0 then zF (jC s c) [] else(s,kE s c))=if kE s c=0 then(jC s c,0) else(s,kE s c)
  rfl
 |x::l,s,c,h=>by
  unfold zF at h
  by_cases hx:kE s x=0
  ·rw[Ah hx] at h;have ih:=xR6 l (jC s x) c h;show(if kE s x=0 then zF (jC s x) (l++[c]) else(s,kE s x))=_
   have e:zF s (x::l)=zF (jC s x) l:=by
    show(if kE s x=0 then zF (jC s x) l else(s,kE s x))=_;rw[Ah hx]
   rw[Ah hx,ih,e]
  ·rw[Ag hx] at h;exact absurd h hx
theorem xW6:∀(l:List Ch) (s:StS) (k:Nat),(zF s (l.take k)).2≠0->(zF s l).2=(zF s (l.take k)).2
 |l,s,0,h=>absurd rfl h
 |[],s,k+1,h=>absurd rfl h
 |x::l,s,k+1,h=>by
  rw[Hy] at h⊢;unfold zF at h⊢
  by_cases hx:kE s x=0
  ·rw[Ah hx] at h;rw[Ah hx,Ah hx];exact xW6 l (jC s x) k h
  ·rw[Ag hx,Ag hx]
theorem yGq (s:StS) (c:Ch):(jC s c).writes.length<=s.writes.length+17:=by
 have h16:∀k,countP k<=16:=λk=>by unfold countP;split<;>omega
 unfold jC;split
 ·simp[putAt]
 ·have:=h16 (yJ c.data);simp[putAt,xHg,vI];omega
theorem yFk {S:List Bs} {c x:Nat} (h:x∈uJ (yG S) c):x<vQ c:=by
 unfold uJ at h;obtain⟨t,ht,rfl⟩:=Ew.1 h;obtain⟨h1,h2⟩:=Gv.1 ht;simp only[Au,Gz] at h2;obtain⟨i,hi⟩:=List.mem_iff_getElem?.1 h1;rw[jM] at hi;split at hi
 ·obtain⟨s,_,rfl⟩:=Df.1 hi;rcases xKd s with e|⟨_,h3⟩
  ·rw[e] at h2;cases h2.1
  ·have:=h3.blk;rw[h2.2] at this;exact this
 ·cases hi
end Mailsack
namespace Go.Proofs.ST
open Go.RowKit Mailsack MM BB SH SV RK DS AL
abbrev chF (c:Ch):List Value:=[xR c.name,xR c.data,.bool c.gone]
structure Ps0 (w:World) (gl gs:Nat) (ts:List Slot) (W:World):Prop where
 st:W.heap[gs]?=some (.cells #[.slice (some (θ gl 0)) 32 32,.pointer none,.pointer none,.slice none 0 0] 87 (0,0))
 sl:rG 137 rW W gl ts
 bel:ψ w W
 o0:w.heap.size<=gl
 o1:gl<gs
structure Ps1 (w:World) (gl gs gp0 lo0 hi0:Nat) (ts:List Slot) (W:World):Prop where
 st:W.heap[gs]?=some (.cells #[.slice (some (θ gl 0)) 32 32,.pointer (some (θ gp0 0)),.pointer none,.slice none 0 0] 87 (0,0))
 sl:rG 137 rW W gl ts
 p0:xBm W lo0 hi0 gp0 24 (xBh 24 (uJ ts 0))
 bel:ψ w W
 o0:w.heap.size<=gl
 o1:gl<gs
 o2:gs<lo0
 o3:lo0<=hi0
 o4:hi0<=W.heap.size
def PsM (w:World) (gl gs:Nat) (sl:List Slot) (k:Nat) (W:World):Prop:=
 (k=0/\Ps0 w gl gs sl W)∨(k=1/\∃gp0 lo0 hi0,Ps1 w gl gs gp0 lo0 hi0 sl W)∨
 (k=2/\∃K:StL,K.gl=gl/\K.gs=gs/\StM w K (.slice none 0 0) (.slice none 0 0) ⟨sl,xBh 24 (uJ sl 0),xBh 12 (uJ sl 1),[]⟩ W)
theorem Ps0.below {w W W':World} {gl gs:Nat} {sl:List Slot} (h:Ps0 w gl gs sl W) (hb:ψ W W'):Ps0 w gl gs sl W':=
 ⟨xC h.st hb (xH h.st),h.sl.below hb,bT h.bel hb,h.o0,h.o1⟩
theorem Ps1.below {w W W':World} {gl gs gp0 lo0 hi0:Nat} {sl:List Slot} (h:Ps1 w gl gs gp0 lo0 hi0 sl W) (hb:ψ W W'):Ps1 w gl gs gp0 lo0 hi0 sl W':=
 ⟨xC h.st hb (xH h.st),h.sl.below hb,h.p0.below hb,bT h.bel hb,h.o0,h.o1,h.o2,h.o3,Bg h.o4 hb.size⟩
theorem Ps0.pool {w W W':World} {gl gs gp:Nat} {sl:List Slot} (h:Ps0 w gl gs sl W) (hb:ψ W W') (hp:xBm W' W.heap.size W'.heap.size gp 24 (xBh 24 (uJ sl 0))):
  Ps1 w gl gs gp W.heap.size W'.heap.size sl (W'.setCell (θ gs 1) (.pointer (some (θ gp 0)))):=by
 have h':=h.below hb;have hlt:=xH h.st;have:=h.o0;have:=h.o1;have e1:=yD h'.st 1 (.pointer (some (θ gp 0)));simp only[Ba,Bh,Cm] at e1
 exact⟨e1,yA h'.sl.blk (p:=θ gs 1) (by show gl≠gs;omega) _,hp.kept λq o hq h1 h2=>yA hq (p:=θ gs 1) (by show q≠gs;omega) _,h'.bel.setCell (p:=θ gs 1) (by show w.heap.size<=gs;omega) _,h.o0,h.o1,hlt,hb.size,by rw[size_set];exact Bd _⟩
theorem Ps1.pool {w W W':World} {gl gs gp0 lo0 hi0 gp:Nat} {sl:List Slot} (h:Ps1 w gl gs gp0 lo0 hi0 sl W) (hl:sl.length=32) (hb:ψ W W') (hp:xBm W' W.heap.size W'.heap.size gp 12 (xBh 12 (uJ sl 1))):
  StM w ⟨gl,gs,gp0,lo0,hi0,gp,W.heap.size,W'.heap.size⟩ (.slice none 0 0) (.slice none 0 0) ⟨sl,xBh 24 (uJ sl 0),xBh 12 (uJ sl 1),[]⟩ (W'.setCell (θ gs 2) (.pointer (some (θ gp 0)))):=by
 have h':=h.below hb;have hlt:=xH h.st;have:=h.o0;have:=h.o1;have:=h.o2;have e1:=yD h'.st 2 (.pointer (some (θ gp 0)));simp only[Ba,Bh,Cm] at e1
 exact⟨e1,yA h'.sl.blk (p:=θ gs 2) (by show gl≠gs;omega) _,h'.p0.kept λq o hq h1 h2=>yA hq (p:=θ gs 2) (by show q≠gs;omega) _,hp.kept λq o hq h1 h2=>yA hq (p:=θ gs 2) (by show q≠gs;omega) _,xW.nil _ _,hl,h'.bel.setCell (p:=θ gs 2) (by show w.heap.size<=gs;omega) _,h.o0,h.o1,h.o2,h.o3,h.o4,hb.size,by rw[size_set];exact Bd _⟩
theorem xLe (va vb lv:Value) (d:Dk) (l:List Ch) (w:World) (h:RdD w w.heap.size va vb d) (hl:RdR 3 chF w w.heap.size lv l) (hll:l.length<=500):
  Calls prog 8 #[.agg #[va,vb],lv] w λe w'=>∃v,e=.returned (.tuple #[v,.int .i64 (uY d l)])/\RdW w' w'.heap.size v (yX d l)/\ψ w w':=by
 obtain⟨A1,c1,A2,c2,rfl,rfl⟩:=yC h;obtain⟨A3,c3,rfl,hc3,hl3⟩:=hl;have HL:=ι hl3;have HA:=ι (φ w (yI (.slice A1 d.secs.length c1) (.slice A2 d.cache.length c2)));have hD0:=xJ w (yI (.slice A1 d.secs.length c1) (.slice A2 d.cache.length c2));obtain⟨d0,d1⟩:=uQ hD0;clear hD0 hl3 hc3
 have HCT:=ι (xDp _ _ d _ ((h.below HA.o ν).more HA.o.size));have HE:Hid (uY d l=if wX d=true then(if (zF (stS d) l).2=0 then(if 30<(zF (stS d) l).1.writes.length then 4 else 0) else(zF (stS d) l).2) else 1):=ι rfl
 have HG:Hid (yX d l=if uY d l=0 then(zF (stS d) l).1.writes else[]):=ι rfl;have HFL:Hid (wX d=true->(xY d).secs.length=381/\∀s∈(xY d).secs,s.length=64):=ι xOb;have HCP:Hid (∀v W,xWn d v W->wX d=true->RdS W W.heap.size v (xY d).secs):=ι (λv W h=>h)
 have HSD:Hid (stS d=⟨yG (xY d).secs,xBh 24 (uJ (yG (xY d).secs) 0),xBh 12 (uJ (yG (xY d).secs) 1),[]⟩):=ι rfl;have HLL:=ι hll;obtain⟨we,hwe⟩:=eX (uY d l);obtain⟨wp,hwp⟩:=eX (yX d l);rw[hwe] at HE HG;rw[hwp] at HG;rw[hwe,hwp];clear hwe hwp h;cases hc:wX d with
 |false=>
  rw[hc] at HCT HE;rw[Ag σ] at HE;rw[HE.o,Ag ω] at HG;clear hc HFL HCP;go_enter func8,ntmps8;go_wp2_with fail
  refine HCT.o.mono ?_;rintro e w1 ⟨v,rfl,_,hb⟩;have HB:=ι (bT HA.o hb);clear hb HA HCT d0 d1;go_wp2;go_ret2;exact⟨_,by rw[HE.o];rfl,by rw[HG.o];exact RdW.xJj _ _,HB.o⟩
 |true=>
  have xA4:=ι (HFL.o hc);have xZ6:=ι (λv W h=>HCP.o v W h hc);rw[hc] at HCT HE;rw[Ah rfl] at HE;clear hc HFL HCP;generalize stS d=s0 at HE HG HSD;generalize (xY d).secs=S at xA4 xZ6 HSD;go_enter func8,ntmps8;go_wp2_with fail
  refine HCT.o.mono ?_;rintro e w1 ⟨v,rfl,hct,hb⟩;have HB1:=ι (bT HA.o hb);have HSO:=ι (xIy v S w1 (xZ6.o v w1 hct) xA4.o.1 xA4.o.2);obtain⟨A5,c5,rfl,_⟩:=xZ6.o v w1 hct;clear hct hb HCT xZ6 d0 d1 HA;go_wp2_with fail
  refine HSO.o.mono ?_;rintro e w2 ⟨gl,rfl,hgl,hsl,hb2⟩;have HS2:=ι (show rG 137 rW w2 gl (yG S)/\ψ w w2/\w.heap.size<=gl from⟨hsl,bT HB1.o hb2,Bg HB1.o.size hgl⟩);have HTL:=ι (λc x (h:x∈uJ (yG S) c)=>yFk h);have HSL:=ι (qD xA4.o.1)
  have HTN:=ι (λc=>xPe (yG S) c 32);clear hsl hb2 hgl HSO HB1 xA4;generalize yG S=sl at HS2 HSD HTL HSL HTN
  have HP0:Hid (PsM w gl w2.heap.size sl 0 (w2.alloc (.cells #[.slice (some (θ gl 0)) 32 32,.pointer none,.pointer none,.slice none 0 0] 87))):=ι (.inl ⟨rfl,xJ _ _,xN HS2.o.1.blk _,HS2.o.2.1.alloc HS2.o.2.1.size _,HS2.o.2.2,xH HS2.o.1.blk⟩);go_upto_region 5 with fail
  generalize w2.alloc (.cells #[.slice (some (θ gl 0)) 32 32,.pointer none,.pointer none,.slice none 0 0] 87)=w3 at HP0⊢;obtain⟨gs,hgs⟩:=eX w2.heap.size;rw[hgs] at HP0⊢;clear hgs HS2;have HBK:=ι (λ(c:Nat) W=>xEb c W);go_wp2_with fail
  go_loopw [23] (λiv wr=>∃k:Nat,k<=2/\iv=.int .i64 k/\Hid (PsM w gl gs sl k wr)) (λiv _=>2- (intOf iv).toNat)
  case atStart=>exact⟨0,ω,rfl,HP0⟩
  case round=>
   obtain⟨k,hk,rfl,HI⟩:=hrel;clear HP0
   by_cases hlt:k<2
   ·rcases(show k=0∨k=1 by omega) with rfl|rfl
    ·have HI0:Hid (Ps0 w gl gs sl wr):=ι (by
      rcases HI.o with ⟨_,h⟩|⟨h,_⟩|⟨h,_⟩
      ·exact h
      ·omega
      ·omega)
     have HTK:=ι (xPf gs gl 0 sl wr (by have:=xA HI0.o.st 0;simpa using this) HI0.o.sl HSL.o (xH HI0.o.st));have HB0:=ι (λW=>xEb 0 W);rw[show((vQ 0:Nat):Int)=24 from rfl] at HB0;clear HI hk hlt;go_wp2_with fail
     refine cM (HB0.o _) λw4 hw4=>?_;rw[hw4];clear hw4 w4;go_wp2_with fail
     refine HTK.o.mono ?_;rintro e w5 ⟨tv,rfl,hrt,hb5⟩;have HI5:=ι (HI0.o.below hb5);have HNW:=ι (xWi 24 (uJ sl 0) tv w5 ω hrt (λx hx=>HTL.o 0 x hx) (by have:=HTN.o 0;rw[Ce (by rw[HSL.o];omega)] at this;omega));rw[show(((24:Nat)):Int)=24 from rfl] at HNW
     obtain⟨A6,c6,rfl,_⟩:=hrt;clear hb5 HTK HB0 HI0;go_wp2_with fail
     refine HNW.o.mono ?_;rintro e w6 ⟨gp,rfl,hp6,hb6⟩;have HI6:=ι (Ai (HI5.o.pool hb6 hp6) (HI5.o.below hb6).st);clear hp6 hb6 HNW HI5;have s1:=xA HI6.o.2 1;have y1:=xG HI6.o.2 1;simp only[gA,gB,gC] at s1;go_wp2
     exact⟨⟨1,ω,by go_num,ι (.inr (.inl ⟨rfl,_,_,_,HI6.o.1⟩))⟩,by simp[intOf]⟩
    ·obtain⟨gp0,lo0,hi0,HI0⟩:∃gp0 lo0 hi0,Hid (Ps1 w gl gs gp0 lo0 hi0 sl wr):=by
      rcases HI.o with ⟨h,_⟩|⟨_,gp0,lo0,hi0,h⟩|⟨h,_⟩
      ·omega
      ·exact⟨gp0,lo0,hi0,ι h⟩
      ·omega
     have HTK:=ι (xPf gs gl 1 sl wr (by have:=xA HI0.o.st 0;simpa using this) HI0.o.sl HSL.o (xH HI0.o.st));rw[show(((1:Nat)):Int)=1 from rfl] at HTK;have HB0:=ι (λW=>xEb 1 W);rw[show((vQ 1:Nat):Int)=12 from rfl,show(((1:Nat)):Int)=1 from rfl] at HB0;clear HI hk hlt
     go_wp2_with fail
     refine cM (HB0.o _) λw4 hw4=>?_;rw[hw4];clear hw4 w4;go_wp2_with fail
     refine HTK.o.mono ?_;rintro e w5 ⟨tv,rfl,hrt,hb5⟩;have HI5:=ι (HI0.o.below hb5);have HNW:=ι (xWi 12 (uJ sl 1) tv w5 ω hrt (λx hx=>HTL.o 1 x hx) (by have:=HTN.o 1;rw[Ce (by rw[HSL.o];omega)] at this;omega));rw[show(((12:Nat)):Int)=12 from rfl] at HNW
     obtain⟨A6,c6,rfl,_⟩:=hrt;clear hb5 HTK HB0 HI0;go_wp2_with fail
     refine HNW.o.mono ?_;rintro e w6 ⟨gp,rfl,hp6,hb6⟩;have HI6:=ι (Ai (HI5.o.pool HSL.o hb6 hp6) (HI5.o.below hb6).st);clear hp6 hb6 HNW HI5;have s1:=xA HI6.o.2 2;have y1:=xG HI6.o.2 2;simp only[gA,gB,gC] at s1;go_wp2
     exact⟨⟨2,ω,by go_num,ι (.inr (.inr ⟨rfl,_,rfl,rfl,HI6.o.1⟩))⟩,by simp[intOf]⟩
   ·obtain rfl:k=2:=ω;rw[show(((2:Nat)):Int)=2 from rfl]
    obtain⟨K,hK,HK⟩:∃K:StL,K.gs=gs/\Hid (StM w K (.slice none 0 0) (.slice none 0 0) s0 wr):=by
     rcases HI.o with ⟨h,_⟩|⟨h,_⟩|⟨_,K,_,h2,h3⟩
     ·omega
     ·omega
     ·exact⟨K,h2,ι (by rw[HSD.o];exact h3)⟩
    subst hK;clear HI hlt hk HBK HTL HTN HSL;go_wp2_with fail
    go_loopw [37] (λiv wr=>∃(k:Nat) (uv:Value),k<=l.length/\iv=.int .i64 k/\Hid ((zF s0 (l.take k)).2=0/\(zF s0 (l.take k)).1.writes.length<=17*k/\StM w K uv uv (zF s0 (l.take k)).1 wr)) (λiv _=>l.length- (intOf iv).toNat)
    case atStart=>exact⟨0,_,Bc _,rfl,ι ⟨rfl,by show s0.writes.length<=_;rw[HSD.o];exact Bd _,HK.o⟩⟩
    case round=>
     obtain⟨k,uv,hk,rfl,HI⟩:=hrel;clear HK
     by_cases hlt:k<l.length
     ·obtain⟨x,hx⟩:∃x,l[k]?=some x:=⟨_,Af hlt⟩;obtain⟨b,off,rfl,hb,hcell⟩:=HL.o ω;have q:=λi u hu=>(HI.o.2.2.bel.cell (p:=(θ b (off+k*3+i))) hb).trans (hcell k x hx i u hu);have q0:wr.cell? (θ b (off+k*3))=some (xR x.name):=q 0 _ rfl
      have q1:wr.cell? (θ b (off+k*3+1))=some (xR x.data):=q 1 _ rfl;have q2:wr.cell? (θ b (off+k*3+2))=some (.bool x.gone):=q 2 _ rfl
      have HSN:Hid (zF s0 (l.take (k+1))=if kE (zF s0 (l.take k)).1 x=0 then(jC (zF s0 (l.take k)).1 x,0) else((zF s0 (l.take k)).1,kE (zF s0 (l.take k)).1 x)):=ι (by
       rw[Cc,hx];exact xR6 _ _ _ HI.o.1)
      have HBD:=ι (xW6 l s0 (k+1));have HI2:=ι (Ai HI.o.2.1 (HI.o.2.2.below (φ wr (chO x))));have hbx:=xJ wr (chO x);obtain⟨x0,x1,x2⟩:=xAs hbx;generalize (zF s0 (l.take k)).1=sk at HSN HI2;clear q hcell hbx hx HI
      have HCH:=ι (xYr w K uv sk x _ HI2.o.2 (by have:=HI2.o.1;have:=HLL.o;omega));go_wp2_with fail
      refine HCH.o.mono ?_;rintro e w7 ⟨rfl,hp7⟩;have HP7:=ι hp7;clear hp7 HCH q0 q1 q2 x0 x1 x2
      by_cases hce:kE sk x=0
      ·obtain⟨uv',hm⟩:=HP7.o;rw[Ah hce] at hm HSN;rw[hce];have HM:=ι (Ai hm (Bg (yGq sk x) (by have:=HI2.o.1;exact Nat.add_le_add_right this 17)));clear hm hce HP7 HBD;go_wp2
       exact⟨⟨k+1,uv',ω,by go_num,ι ⟨by rw[HSN.o],by rw[HSN.o];have:=HM.o.2;show(jC sk x).writes.length<=_;omega,by rw[HSN.o];exact HM.o.1⟩⟩,by simp[intOf];omega⟩
      ·obtain⟨uv',hm⟩:=HP7.o;rw[Ag hce] at hm HSN;obtain⟨ee,hee⟩:=eX (kE sk x);rw[hee] at hce HSN;rw[hee]
       have HEE:Hid (we=ee):=ι (by
        have:=HBD.o (by rw[HSN.o];exact hce);rw[HSN.o] at this;rw[HE.o,this,Ag hce])
       have HGG:Hid (wp=[]):=ι (by rw[HG.o,HEE.o,Ag hce]);have HM:=ι hm.bel;have hc1:(ee==0)=false:=by simpa using hce
       have hc2:(ee !=0)=true:=by simpa using hce
       clear hm hee HP7 HBD HSN HE HG;go_wp2;go_ret2;exact⟨_,by rw[HEE.o];rfl,by rw[HGG.o];exact RdW.xJj _ _,HM.o⟩
     ·obtain rfl:k=l.length:=ω;rw[Cf] at HI;rw[Ah HI.o.1] at HE;obtain⟨A8,c8,huv,hle8⟩:=HI.o.2.2.wr.form;have hb:=HI.o.2.2.st;have s3:=xA hb 3;simp only[gA,gB,gC] at s3;have HM:=ι HI.o.2.2;generalize (zF s0 l).1=sk at HE HG HM huv hle8
      obtain⟨n,hn⟩:=eX sk.writes.length;rw[hn] at HE huv;subst huv;clear hb HI hlt hle8 hn HL
      by_cases h30:30<n
      ·have yLk:30<(n:Int):=ω;have HEE:Hid (we=4):=ι (by rw[HE.o,Ah h30]);have HGG:Hid (wp=[]):=ι (by rw[HG.o,HEE.o,Ag ω]);clear HE HG;go_wp2;go_ret2;exact⟨_,by rw[HEE.o];rfl,by rw[HGG.o];exact RdW.xJj _ _,HM.o.bel⟩
      ·have yLk:¬(30<(n:Int)):=ω;have HEE:Hid (we=0):=ι (by rw[HE.o,Ag h30]);have HGG:Hid (wp=sk.writes):=ι (by rw[HG.o,HEE.o,Ah rfl]);clear HE HG;go_wp2;go_ret2;exact⟨_,by rw[HEE.o];rfl,by rw[HGG.o];exact yIh (HM.o.wr.rd xCs),HM.o.bel⟩
end Go.Proofs.ST
namespace Mailsack
theorem xS0 {d:Dk} {l:List Ch}:(yX d l).length<=30:=by
 unfold yX;split
 ·rename_i h
  unfold uY at h;split at h
  ·split at h
   ·split at h
    ·omega
    ·omega
   ·rename_i h2;exact absurd h h2
  ·omega
 ·simp
end Mailsack
namespace Go.Proofs.ST
open Go.RowKit Mailsack MM BB SH SV RK DS AL
theorem xGf (va vb lv:Value) (d:Dk) (l:List Ch) (w:World) (h:RdD w w.heap.size va vb d) (hl:RdR 3 chF w w.heap.size lv l) (hll:l.length<=500) (hc:d.cache.length<=10000) (hT:jE w):
  Calls prog 13 #[.agg #[va,vb],lv] w λe w'=>∃va' vb',e=.returned (.tuple #[.agg #[va',vb'],.int .i64 (xAj d l)])/\RdD w' w'.heap.size va' vb' (vO d l)/\ψ w w':=by
 obtain⟨A1,c1,A2,c2,rfl,rfl⟩:=yC h
 have H0:Hid (CmM w (.slice A1 d.secs.length c1) (.slice A2 d.cache.length c2) d ((w.alloc (yI (.slice A1 d.secs.length c1) (.slice A2 d.cache.length c2))).alloc (yI (.slice none 0 0) (.slice none 0 0)))):=ι (by
  have hb:=(φ w (yI (.slice A1 d.secs.length c1) (.slice A2 d.cache.length c2))).alloc σ (yI (.slice none 0 0) (.slice none 0 0));exact⟨zM _ _ _,zI _ _ _,(h.below hb ν).more hb.size,hb⟩)
 have HW:=ι (xLe _ _ lv d l _ H0.o.rd ((hl.below H0.o.bel ν).more H0.o.bel.size) hll);have HT:=ι (λW (hb:ψ w W)=>hT.below hb ν);have HC:=ι hc;have HAE:Hid (xAj d l=if uY d l=0 then(if (yX d l).length=0 then 0 else vZ d (yX d l)) else uY d l):=ι rfl
 have HAP:Hid (vO d l=if uY d l=0 then(if (yX d l).length=0 then xY d else xCi d (yX d l)) else⟨[],[]⟩):=ι rfl;have HWL:=ι (xS0 (d:=d) (l:=l));obtain⟨ae,hae⟩:=eX (xAj d l);obtain⟨ap,hap⟩:=eX (vO d l);rw[hae] at HAE;rw[hap] at HAP;rw[hae,hap]
 generalize yX d l=wp at HW HAE HAP HWL;generalize uY d l=we at HW HAE HAP;obtain⟨A3,c3,rfl,_⟩:=hl;clear h hae hap hT hc hll;go_enter func13,ntmps13;go_upto_region 1 with fail
 generalize (w.alloc (yI (.slice A1 d.secs.length c1) (.slice A2 d.cache.length c2))).alloc (yI (.slice none 0 0) (.slice none 0 0))=w1 at H0 HW⊢;obtain⟨d0,d1⟩:=uQ H0.o.d;go_wp2_with fail
 refine HW.o.mono ?_;rintro e w2 ⟨ov,rfl,hro,hb⟩;obtain⟨A4,c4,rfl,_⟩:=id hro;have H2:=ι (H0.o.below hb);have HRO:=ι hro;clear hb H0 HW d0 d1 hro;obtain⟨d0,d1⟩:=uQ H2.o.d
 by_cases h0:we=0
 ·subst h0;rw[Ah rfl] at HAE HAP;obtain⟨n,hn⟩:=eX wp.length;have HN:=ι hn;rw[hn] at HAE HAP⊢
  by_cases hz:n=0
  ·subst hz;rw[Ah rfl] at HAE HAP;have HEE:Hid (ae=0):=HAE;have HCC:Hid (ap=xY d):=HAP;have HF:=ι (xG3 _ _ d w2 H2.o.rd);clear hn;go_wp2_with fail
   refine HF.o.mono ?_;rintro e w3 ⟨ua,ub,rfl,hr,_,hb⟩;have H3:=ι (H2.o.below hb);have HRR:=ι hr;generalize xY d=cm at HRR HCC;obtain⟨ee,hee⟩:∃ee:Int,ee=0:=⟨_,rfl⟩;clear hr hb H2 HF HRO d0 d1 hee ee;obtain⟨A5,c5,A6,c6,rfl,rfl⟩:=yC HRR.o
   have hRD:RdD ((w3.setCell (θ (w.heap.size+1) 0) (.slice A5 cm.secs.length c5)).setCell (θ (w.heap.size+1) 1) (.slice A6 cm.cache.length c6)) w3.heap.size (.slice A5 cm.secs.length c5) (.slice A6 cm.cache.length c6) cm:=by
    have e0:=yD H3.o.o 0 (.slice A5 cm.secs.length c5);simp only[Ba,Bh] at e0;exact RdD.far (RdD.far HRR.o (p:=(θ (w.heap.size+1) 0)) (wQ H3.o.o) _) (p:=(θ (w.heap.size+1) 1)) (wQ e0) _
   have HRD:=ι hRD;clear hRD;obtain⟨o0,y0,f0,o1,y1,f1,HB⟩:=xMk H3.o.o H3.o.bel ω (.slice A5 cm.secs.length c5) (.slice A6 cm.cache.length c6) _ rfl;clear H3 HRR;go_wp2
   refine Ak (v:=.tuple #[.agg #[.slice A5 cm.secs.length c5,.slice A6 cm.cache.length c6],.int .i64 0]) (by simp[results,results13,go_sem,f0,f1]) rfl ?_;exact⟨_,_,by rw[HEE.o],by rw[HCC.o];simpa[size_set] using HRD.o,HB.o⟩
  ·rw[Ag hz] at HAE HAP;have hzi:¬((n:Int)=0):=ω;have hzb:((n:Int)==0)=false:=by simpa using hzi
   have HCM:=ι (xYm _ _ (.slice A4 wp.length c4) d wp w2 H2.o.rd HRO.o (by have:=HWL.o;omega) HC.o (HT.o _ H2.o.bel));rw[hn] at HCM;have HEE:=HAE;have HCC:=HAP;generalize vZ d wp=ee at HCM HEE;generalize xCi d wp=cm at HCM HCC;clear hz hn;go_wp2_with fail
   refine HCM.o.mono ?_;rintro e w3 ⟨ua,ub,rfl,hr,hb⟩;have H3:=ι (H2.o.below hb);have HRR:=ι hr;clear hr hb H2 HCM HRO d0 d1 HAE HAP;obtain⟨A5,c5,A6,c6,rfl,rfl⟩:=yC HRR.o
   have hRD:RdD ((w3.setCell (θ (w.heap.size+1) 0) (.slice A5 cm.secs.length c5)).setCell (θ (w.heap.size+1) 1) (.slice A6 cm.cache.length c6)) w3.heap.size (.slice A5 cm.secs.length c5) (.slice A6 cm.cache.length c6) cm:=by
    have e0:=yD H3.o.o 0 (.slice A5 cm.secs.length c5);simp only[Ba,Bh] at e0;exact RdD.far (RdD.far HRR.o (p:=(θ (w.heap.size+1) 0)) (wQ H3.o.o) _) (p:=(θ (w.heap.size+1) 1)) (wQ e0) _
   have HRD:=ι hRD;clear hRD;obtain⟨o0,y0,f0,o1,y1,f1,HB⟩:=xMk H3.o.o H3.o.bel ω (.slice A5 cm.secs.length c5) (.slice A6 cm.cache.length c6) _ rfl;clear H3 HRR;go_wp2
   refine Ak (v:=.tuple #[.agg #[.slice A5 cm.secs.length c5,.slice A6 cm.cache.length c6],.int .i64 ee]) (by simp[results,results13,go_sem,f0,f1]) rfl ?_;exact⟨_,_,by rw[HEE.o],by rw[HCC.o];simpa[size_set] using HRD.o,HB.o⟩
 ·rw[Ag h0] at HAE HAP;have h0b:(we==0)=false:=by simpa using h0
  have h0c:(we !=0)=true:=by simpa using h0
  obtain⟨o0,y0,f0,o1,y1,f1,HB⟩:=xMk H2.o.o H2.o.bel ω (.slice none 0 0) (.slice none 0 0) _ rfl;clear H2 HRO d0 d1;go_wp2;refine Ak (v:=.tuple #[.agg #[.slice none 0 0,.slice none 0 0],.int .i64 we]) (by simp[results,results13,go_sem,f0,f1]) rfl ?_
  refine⟨_,_,by rw[HAE.o],?_,HB.o⟩;rw[HAP.o];exact⟨⟨_,_,rfl,Bd _,λh=>by simp at h⟩,RdW.xJj _ _,σ,σ⟩
end Go.Proofs.ST
namespace Mailsack
def xB0 (d:Dk) (u:ByteArray):ByteArray:=bsA (xOa d (vD [117] u.data.toList))
def xDt (d:Dk) (u:ByteArray):Bool:=xCn (xB0 d u)&&decide ((xC5 (xB0 d u)).user=u)
def xC3 (d:Dk) (u:ByteArray):Int:=if xAe d (vD [117] u.data.toList)=0 then(if xDt d u=true then 0 else 3) else 6
def wK (d:Dk) (u:ByteArray):vY:=if xC3 d u=0 then xC5 (xB0 d u) else uB
theorem xO9 (d:Dk) (n:Bs):(xOa d n).length<=1024:=by
 unfold xOa;split
 ·unfold xEf;rw[Ck];generalize hs:xCx (yG (xY d).secs) (wU (yG (xY d).secs) n)=t
  have:t.size<=1024:=by
   have hok:t=noSlot∨xHq t:=by
    rw[<-hs];unfold xCx;rw[Aa];cases hg:(yG (xY d).secs)[(wU (yG (xY d).secs) n).toNat]? with
    |none=>exact .inl rfl
    |some t=>
     rw[jM] at hg;split at hg
     ·obtain⟨s,_,rfl⟩:=Df.1 hg;rcases xKd s with e|⟨_,h⟩
      ·exact .inl e
      ·exact .inr h
     ·cases hg
   rcases hok with e|h
   ·rw[e];exact Bc _
   ·exact Bg h.size (xOq _)
  omega
 ·simp
end Mailsack
namespace Go.Proofs.VA
open Go.RowKit Mailsack MM BB SH SV RK DS Go.Proofs.ST
structure AcN (w:World) (va vb:Value) (D:Dk) (W:World):Prop where
 d:W.heap[w.heap.size]?=some (yI va vb)
 o:W.heap[w.heap.size+1]?=some (yV uB)
 rd:RdD W W.heap.size va vb D
 bel:ψ w W
theorem AcN.below {w W W':World} {va vb:Value} {D:Dk} (h:AcN w va vb D W) (hb:ψ W W'):AcN w va vb D W':=
 ⟨xC h.d hb (xH h.d),xC h.o hb (xH h.o),(h.rd.below hb ν).more hb.size,bT h.bel hb⟩
theorem AcN.drew {w W:World} {va vb:Value} {D:Dk} (h:AcN w va vb D W):AcN w va vb D W.drew:=h.below (Aq _ W).drew
theorem xF9 (va vb:Value) (d:Dk) (u:ByteArray) (w:World) (h:RdD w w.heap.size va vb d) (hu:u.size<=1000000):
  Calls prog 17 #[.agg #[va,vb],.string u] w (pv (.tuple #[xB1 (wK d u),.int .i64 (xC3 d u)]) w):=by
 obtain⟨A1,c1,A2,c2,rfl,rfl⟩:=yC h
 have H0:Hid (AcN w (.slice A1 d.secs.length c1) (.slice A2 d.cache.length c2) d ((w.alloc (yI (.slice A1 d.secs.length c1) (.slice A2 d.cache.length c2))).alloc (yV uB))):=ι (by
  have hb:=(φ w (yI (.slice A1 d.secs.length c1) (.slice A2 d.cache.length c2))).alloc σ (yV uB);exact⟨zM _ _ _,zI _ _ _,(h.below hb ν).more hb.size,hb⟩)
 have HUO:=ι (λW=>qW ⟨#[117]⟩ u W δ hu);rw[show(⟨#[117]⟩:ByteArray).data.toList=[117] from rfl] at HUO;have HGE:=ι (λW (h:AcN w (.slice A1 d.secs.length c1) (.slice A2 d.cache.length c2) d W)=>xO8 _ _ d (vD [117] u.data.toList) W h.rd)
 have HAE:Hid (xC3 d u=if xAe d (vD [117] u.data.toList)=0 then(if xDt d u=true then 0 else 3) else 6):=ι rfl;have HAR:Hid (wK d u=if xC3 d u=0 then xC5 (xB0 d u) else uB):=ι rfl;have HAF:Hid (xDt d u=(xCn (xB0 d u)&&decide ((xC5 (xB0 d u)).user=u))):=ι rfl
 have HTK:=ι (λW=>yB1 (xB0 d u) W (by unfold xB0;rw[yS];have:=xO9 d (vD [117] u.data.toList);omega));rw[show xR (xOa d (vD [117] u.data.toList))=.string (xB0 d u) from rfl] at HGE;generalize xB0 d u=ag at HGE HAR HAF HTK;generalize vD [117] u.data.toList=nm at HUO HGE HAE
 generalize xDt d u=fit at HAE HAF;generalize xAe d nm=ge at HGE HAE;obtain⟨ae,hae⟩:=eX (xC3 d u);obtain⟨ar,har⟩:=eX (wK d u);rw[hae] at HAE HAR;rw[har] at HAR;rw[hae,har];clear hae har h hu;go_enter func17,ntmps17;go_upto_region 1 with fail
 obtain⟨w1,hw1⟩:=eX ((w.alloc (yI (.slice A1 d.secs.length c1) (.slice A2 d.cache.length c2))).alloc (yV uB));rw[hw1] at H0;simp only[yV,uB] at hw1;rw[hw1];clear hw1
 refine RG.xU (λW=>Hid (AcN w (.slice A1 d.secs.length c1) (.slice A2 d.cache.length c2) d W)) κ κ (ι H0.o.drew) ?_;iterate 2 refine RG.dF (λw9 hw9=>uQ hw9.o.d) ?_
 apply RG.xL
 ·intro w9 hw9;repeat go_step
  refine(HUO.o _).mono ?_;rintro e w10 ⟨rfl,rfl⟩;simp only[];repeat go_step
  exact RG.xE hw9
 ·rfl
 apply RG.xL
 ·intro w9 hw9;repeat go_step
  refine(HGE.o _ hw9.o).mono ?_;rintro e w10 ⟨rfl,zO⟩;simp only[];repeat go_step
  refine RG.xE ?_;exact ι (hw9.o.below zO)
 ·rfl
 iterate 5 refine RG.dS ?_
 refine RG.xX (λw2 hw2=>?_);clear H0 HUO HGE
 by_cases hg:ge=0
 ·subst hg;rw[Ah rfl] at HAE;go_wp2_with fail
  refine cM (HTK.o _) λw3 hb3=>?_;have H3:=ι (hw2.o.below hb3);clear hb3 hw2 HTK;cases htk:xCn ag with
  |false=>
   have HZ:Hid (AcN w (.slice A1 d.secs.length c1) (.slice A2 d.cache.length c2) d (w3.alloc (yV uB))):=ι (H3.o.below ((Aq _ _).alloc ν _));rw[Ag σ,Ag σ];rw[htk,Dy] at HAF;rw[HAF.o,Ag σ] at HAE;rw[HAE.o,Ag ω] at HAR;simp only[xB1,uB]
   have hbz:=xJ w3 (yV uB);have z0:=xA hbz 0;simp only[yV,uB,gA,gC] at z0;clear hbz htk H3;go_upto_region 6 with fail
   clear z0;obtain⟨w4,hw4⟩:=eX (w3.alloc (yV uB));rw[hw4] at HZ;simp only[yV,uB] at hw4;rw[hw4];clear hw4
   obtain⟨o0,y0,f0,o1,y1,f1,o2,y2,f2,o3,y3,f3,o4,y4,f4,o5,y5,f5,o6,y6,f6,o7,y7,f7,HB⟩:=xZd HZ.o.o HZ.o.bel ω (.string ⟨#[]⟩) (.string ⟨#[]⟩) (.int .i64 0) (.int .i64 0) (.string ⟨#[]⟩) (.string ⟨#[]⟩) (.string ⟨#[]⟩) (.string ⟨#[]⟩) _ rfl;clear HZ;go_wp2
   refine Ak (v:=.tuple #[.agg #[.string ⟨#[]⟩,.string ⟨#[]⟩,.int .i64 0,.int .i64 0,.string ⟨#[]⟩,.string ⟨#[]⟩,.string ⟨#[]⟩,.string ⟨#[]⟩],.int .i64 3]) (by simp[results,results17,go_sem,f0,f1,f2,f3,f4,f5,f6,f7]) rfl ?_;exact⟨by rw[HAE.o,HAR.o];rfl,HB.o⟩
  |true=>
   rw[Ah rfl,Ah rfl];rw[htk,Ed] at HAF
   have HZ:Hid (AcN w (.slice A1 d.secs.length c1) (.slice A2 d.cache.length c2) d (w3.alloc (yV (xC5 ag)))/\(w3.alloc (yV (xC5 ag))).heap[w3.heap.size]?=some (yV (xC5 ag))):=ι ⟨H3.o.below ((Aq _ _).alloc ν _),xJ _ _⟩;have hbz:=xJ w3 (yV (xC5 ag));have z0:=xA hbz 0
   simp only[yV,gA,gC] at z0;clear hbz htk H3;generalize xC5 ag=ta at HZ HAF HAR z0⊢;obtain⟨tu,ts,tr,te,tp,tn,tw,to_⟩:=ta;simp only[xB1,yV] at z0 HZ⊢;have HAF2:Hid (fit=decide (tu=u)):=HAF;clear HAF;have HAF:=HAF2;clear HAF2
   by_cases hue:tu=u
   ·have HFT:Hid (fit=true):=ι (by rw[HAF.o,hue];simp);rw[HFT.o,Ah rfl] at HAE;rw[HAE.o,Ah rfl] at HAR;have e1:(tu.toList==u.toList)=true:=by rw[hue];simp
    have e2:(!tu.toList==u.toList)=false:=by rw[hue];simp
    clear hue HAF HFT;go_upto_region 7 with fail
    clear z0;generalize hg4:w3.heap.size=g4 at HZ⊢;generalize w3.alloc (.cells #[.string tu,.string ts,.int .i64 tr,.int .i64 te,.string tp,.string tn,.string tw,.string to_] 65)=w4 at HZ⊢;have hz4:=HZ.o.2;obtain⟨z0,z1,z2,z3,z4,z5,z6,z7⟩:=xYs hz4
    obtain⟨o0,y0,f0,o1,y1,f1,o2,y2,f2,o3,y3,f3,o4,y4,f4,o5,y5,f5,o6,y6,f6,o7,y7,f7,HB⟩:=xZd HZ.o.1.o HZ.o.1.bel ω (.string tu) (.string ts) (.int .i64 tr) (.int .i64 te) (.string tp) (.string tn) (.string tw) (.string to_) _ rfl;clear HZ hz4 hg4;go_wp2
    refine Ak (v:=.tuple #[.agg #[.string tu,.string ts,.int .i64 tr,.int .i64 te,.string tp,.string tn,.string tw,.string to_],.int .i64 0]) (by simp[results,results17,go_sem,f0,f1,f2,f3,f4,f5,f6,f7]) rfl ?_;exact⟨by rw[HAE.o,HAR.o],HB.o⟩
   ·have HFT:Hid (fit=false):=ι (by rw[HAF.o];simpa using hue);rw[HFT.o,Ag σ] at HAE;rw[HAE.o,Ag ω] at HAR
    have hne:¬(tu.toList=u.toList):=by
     rw[Br,Br];intro e;exact hue (Ee (Array.toList_inj.1 e))
    have e1:(tu.toList==u.toList)=false:=by simpa using hne
    have e2:(!tu.toList==u.toList)=true:=by rw[e1];rfl
    have HZ2:=ι HZ.o.1;clear hue HAF HFT hne HZ;have HZ:=HZ2;clear HZ2;go_upto_region 6 with fail
    clear z0;generalize w3.alloc (.cells #[.string tu,.string ts,.int .i64 tr,.int .i64 te,.string tp,.string tn,.string tw,.string to_] 65)=w4 at HZ⊢
    obtain⟨o0,y0,f0,o1,y1,f1,o2,y2,f2,o3,y3,f3,o4,y4,f4,o5,y5,f5,o6,y6,f6,o7,y7,f7,HB⟩:=xZd HZ.o.o HZ.o.bel ω (.string ⟨#[]⟩) (.string ⟨#[]⟩) (.int .i64 0) (.int .i64 0) (.string ⟨#[]⟩) (.string ⟨#[]⟩) (.string ⟨#[]⟩) (.string ⟨#[]⟩) _ rfl;clear HZ;go_wp2
    refine Ak (v:=.tuple #[.agg #[.string ⟨#[]⟩,.string ⟨#[]⟩,.int .i64 0,.int .i64 0,.string ⟨#[]⟩,.string ⟨#[]⟩,.string ⟨#[]⟩,.string ⟨#[]⟩],.int .i64 3]) (by simp[results,results17,go_sem,f0,f1,f2,f3,f4,f5,f6,f7]) rfl ?_;exact⟨by rw[HAE.o,HAR.o];rfl,HB.o⟩
 ·have hg1:(ge==0)=false:=by simpa using hg
  have hg2:(ge !=0)=true:=by simpa using hg
  rw[Ag hg] at HAE;rw[HAE.o,Ag ω] at HAR;have HZ:=hw2;clear hw2 HTK
  obtain⟨o0,y0,f0,o1,y1,f1,o2,y2,f2,o3,y3,f3,o4,y4,f4,o5,y5,f5,o6,y6,f6,o7,y7,f7,HB⟩:=xZd HZ.o.o HZ.o.bel ω (.string ⟨#[]⟩) (.string ⟨#[]⟩) (.int .i64 0) (.int .i64 0) (.string ⟨#[]⟩) (.string ⟨#[]⟩) (.string ⟨#[]⟩) (.string ⟨#[]⟩) _ rfl;clear HZ;go_wp2
  refine Ak (v:=.tuple #[.agg #[.string ⟨#[]⟩,.string ⟨#[]⟩,.int .i64 0,.int .i64 0,.string ⟨#[]⟩,.string ⟨#[]⟩,.string ⟨#[]⟩,.string ⟨#[]⟩],.int .i64 6]) (by simp[results,results17,go_sem,f0,f1,f2,f3,f4,f5,f6,f7]) rfl ?_;exact⟨by rw[HAE.o,HAR.o];rfl,HB.o⟩
end Go.Proofs.VA
namespace Mailsack
def xRj (a:vY):Ch:=⟨vD [117] a.user.data.toList,(xAa a).data.toList,false⟩
def xJ5 (user xD xB enc:ByteArray):Ch:=⟨vD [120] user.data.toList,(xB++wP (zC xD) xB user enc).data.toList,false⟩
end Mailsack
namespace Go.Proofs.VA
open Go.RowKit Mailsack MM BB SH SV RK DS Go.Proofs.ST
theorem xSc (s:ByteArray):xR s.data.toList=.string s:=rfl
theorem xPb (a:vY) (w:World) (hr:uL a=true):
  Calls prog 21 #[xB1 a] w (pv (.tuple #[chV (xRj a),.int .i64 0]) w):=by
 have hu:=(tZ hr).2.1;have HPU:=ι (λW=>yK2 a W hr);have HUO:=ι (λW=>qW ⟨#[117]⟩ a.user W δ ω);rw[show(⟨#[117]⟩:ByteArray).data.toList=[117] from rfl] at HUO
 have H0:Hid (((w.alloc (yV a)).alloc (chO ⟨[],[],false⟩)).heap[w.heap.size]?=some (yV a)/\((w.alloc (yV a)).alloc (chO ⟨[],[],false⟩)).heap[w.heap.size+1]?=some (chO ⟨[],[],false⟩)/\ψ w ((w.alloc (yV a)).alloc (chO ⟨[],[],false⟩))):=ι ⟨zM _ _ _,zI _ _ _,(φ w _).alloc σ _⟩
 have HC:Hid (chV (xRj a)=.agg #[xR (vD [117] a.user.data.toList),.string (xAa a),.bool false]):=ι rfl;generalize xAa a=pa at HPU HC;generalize vD [117] a.user.data.toList=nm at HUO HC;generalize xRj a=ac at HC⊢;obtain⟨u,s,r,ep,pb,n,wr,o⟩:=a;simp only[yV,xB1] at H0 HPU HUO⊢
 clear hr hu;go_enter func21,ntmps21;go_upto_region 1 with fail
 obtain⟨w1,hw1⟩:=eX ((w.alloc (.cells #[.string u,.string s,.int .i64 r,.int .i64 ep,.string pb,.string n,.string wr,.string o] 65)).alloc (chO ⟨[],[],false⟩));rw[hw1] at H0;simp only[chO,xR] at hw1;rw[hw1];clear hw1;have ha:=H0.o.1
 obtain⟨a0,a1,a2,a3,a4,a5,a6,a7⟩:=xYs ha;clear ha;go_wp2_with fail
 refine cM (HPU.o _) λw2 hb2=>?_;have H2:Hid (w2.heap[w.heap.size+1]?=some (chO ⟨[],[],false⟩)/\ψ w w2):=ι ⟨xC H0.o.2.1 hb2 (xH H0.o.2.1),bT H0.o.2.2 hb2⟩;have ha:=xC H0.o.1 hb2 (xH H0.o.1);clear H0 HPU hb2 a0 a1 a2 a3 a4 a5 a6 a7
 have a0:=xR9 ha;clear ha;go_wp2_with fail
 refine cM (HUO.o _) λw3 hw3=>?_;rw[hw3];clear hw3 w3 a0 HUO;obtain⟨o0,y0,f0,o1,y1,f1,o2,y2,f2,HB⟩:=xP2 H2.o.1 H2.o.2 ω (xR nm) (.string pa) (.bool false) _ rfl;clear H2;go_wp2
 refine Ak (v:=.tuple #[.agg #[xR nm,.string pa,.bool false],.int .i64 0]) (by simp[results,results21,go_sem,f0,f1,f2]) rfl ?_;exact⟨by rw[HC.o],HB.o⟩
end Go.Proofs.VA
/- Contracts of functions. Conditions: as stated. -/
import Derived.Test.YtacahegificeoaaGreatDoorImapLoginsProofB31
set_option maxHeartbeats 8000000
set_option maxRecDepth 100000
namespace Mailsack
theorem xRe {l:List Slot} {k c:Nat} {t:Slot} (h:l[k]?=some t):uE (l.take (k+1)) c=uE (l.take k) c++(if (t.used&&t.cls==c)=true then[t.blk] else[]):=by
 unfold uE;rw[List.take_add_one,h,List.filter_append,List.map_append];cases hq:(t.used&&t.cls==c) with
 |true=>simp[hq]
 |false=>simp[hq]
theorem xKs (l:List Slot) (c k:Nat):(uE (l.take k) c).length<=k:=by
 unfold uE;rw[List.length_map];have h1:=List.length_filter_le (λt:Slot=>t.used&&t.cls==c) (l.take k);have h2:=List.length_take_le k l;omega
end Mailsack
namespace Go.Proofs.ST
open Go.RowKit Mailsack MM BB SH SV RK DS AL
abbrev natF (n:Nat):List Value:=[.int .i64 (n:Int)]
theorem xJa (n:Nat):(natF n).length=1:=rfl
theorem yAg (x:Nat):∀u∈natF x,u.oneCell'=true:=by
 intro u hu;rw[List.mem_singleton.1 hu];rfl
theorem xQ8:(Tryz.prog.info? 3).map (λi=>(i.zero,i.size,i.bytes))=some (some (.int .i64 0),1,8):=by kernel_rfl
theorem tyNat:xYp Tryz.prog 106 3 1 8 natF:=by
 obtain⟨i,hi,hz,hs,hb⟩:=vM xQ8;exact⟨Tryz.underlying106,⟨i,_,hi,hz,hs,hb,rfl⟩,ω,ω,xJa,yAg⟩
theorem rdN_of {w:World} {B:Nat} {v:Value} {l:List Nat} (h:RdR 1 natF w B v l):RdN w B v l:=by
 obtain⟨A,c,h1,h2,h3⟩:=h;refine⟨A,c,h1,h2,λhn=>?_⟩;obtain⟨b,off,h4,h5,h6⟩:=h3 hn;refine⟨b,off,h4,h5,λj x hx=>?_⟩;have:=h6 j x hx 0 _ rfl;rw[Nat.mul_one,Nat.add_zero] at this;exact this
structure TkS (w:World) (gs gl:Nat) (l:List Slot) (v:Value) (T:List Nat) (W:World):Prop where
 st:W.cell? ⟨gs,0,none⟩=some (.slice (some ⟨gl,0,none⟩) 32 32)
 sl:kN 137 qC W gl l
 own:xV 3 1 natF W w.heap.size v T
 bel:Below w.heap.size w W
theorem xRf {w W W':World} {gs gl:Nat} {l:List Slot} {v:Value} {T:List Nat} (h:TkS w gs gl l v T W) (hgs:gs<w.heap.size) (hb:Below W.heap.size W W'):TkS w gs gl l v T W':=
 ⟨(hb.cell (p:=⟨gs,0,none⟩) (Nat.lt_of_lt_of_le hgs h.bel.size)).trans h.st,h.sl.below hb,h.own.below hb,h.bel.trans (hb.mono h.bel.size)⟩
theorem xKt (gs gl c:Nat) (l:List Slot) (w:World) (h1:w.cell? ⟨gs,0,none⟩=some (.slice (some ⟨gl,0,none⟩) 32 32)) (h2:kN 137 qC w gl l) (hl:l.length=32) (hgs:gs<w.heap.size):
  Calls Tryz.prog 271 #[.pointer (some ⟨gs,0,none⟩),.int .i64 c] w λe w'=>∃v,e=.returned v/\RdN w' w'.heap.size v (uE l c)/\Below w.heap.size w w':=by
 have H0:Hid (TkS w gs gl l (.slice none 0 0) (uE (l.take 0) c) w):=ι ⟨h1,h2,xV.nil _ _,Below.refl _ _⟩;have HL:=ι (And.intro hl hgs);clear h2 hl hgs;go_enter Tryz.func271,Tryz.ntmps271;go_wp2_with fail
 clear h1
 go_loopw [5,13] (λtv iv wr=>∃k:Nat,k<=32/\iv=.int .i64 k/\Hid (TkS w gs gl l tv (uE (l.take k) c) wr)) (λ_ iv _=>32- (intOf iv).toNat)
 case atStart=>exact⟨0,Nat.zero_le _,rfl,H0⟩
 case round=>
  obtain⟨k,hk,rfl,HI⟩:=hrel;clear H0
  by_cases hlt:k<32
  ·obtain⟨x,hx⟩:∃x,l[k]?=some x:=⟨_,List.getElem?_eq_getElem (by have:=HL.o.1;omega)⟩;have q0:=HI.o.sl.cell zL (i:=0) hx rfl;have q1:=HI.o.sl.cell zL (i:=1) hx rfl;have q2:=HI.o.sl.cell zL (i:=2) hx rfl;have q3:=HI.o.sl.cell zL (i:=3) hx rfl
   have q4:=HI.o.sl.cell zL (i:=4) hx rfl;rw[Nat.add_zero] at q0;have HS:=ι (xRe (c:=c) hx);have HTL:=ι (xKs l c k);have HA:=ι (xRf HI.o HL.o.2 ((Below.refl _ _).alloc ν (wO x)));have hbx:=xL wr (wO x);obtain⟨x0,x1,x2,x3,x4⟩:=xU2 hbx;have hbx2:=ι hbx
   generalize uE (l.take k) c=T at HI HS HTL HA;clear hx hbx HI;go_upto_region 5 with fail
   clear q0 q1 q2 q3 q4;obtain⟨xu,xc,xb,xs,xn⟩:=x;simp only at HS HA x0 x1 x2 x3 x4 hbx2;generalize wr.alloc (.cells #[.bool xu,.int .i64 xc,.int .i64 xb,.int .i64 xs,xO xn] 137)=w2 at HA x0 x1 x2 x3 x4 hbx2⊢
   by_cases hu:xu=true/\xc=c
   ·obtain⟨rfl,rfl⟩:=hu;rw[if_pos σ] at HS;go_upto_region 6 with fail
    have hsz:=HA.o.bel.size
    have HAD:Hid (∀v8 w8,qP 3 1 natF (w2.alloc (.cells #[.int .i64 (xb:Int)] 3)) w8 w.heap.size u5 v8 (T++[xb])->Hid (TkS w gs gl l v8 (uE (l.take (k+1)) xc) w8)):=ι λv8 w8 h8=>ι (by
     have hlo:=HL.o.2;have h9:=xK HA.o.sl.blk (.cells #[.int .i64 (xb:Int)] 3);refine⟨?_,h8.keep h9 (xV.neT (HA.o.own.alloc _) h9 δ),by rw[HS.o];exact h8.own,h8.bel (HA.o.own.alloc _) ν (HA.o.bel.alloc HA.o.bel.size _) (by simp;omega)⟩
     rw[(h8.bel (HA.o.own.alloc _) ν ((Below.refl w.heap.size w2).alloc hsz _) (by simp;omega)).cell (p:=⟨gs,0,none⟩) hlo];exact HA.o.st)
    go_wp2_with (at_builtin;refine zY tyNat rfl _ _ rfl rfl rfl (HA.o.own.alloc _) (RdR.lit (m:=[xb]) xJa _ _ rfl) (by have:=HTL.o;simp;omega) (by simp;omega) ?_;intro v8 w8 h8;have HA8:=HAD.o _ _ h8;clear h8)
    exact⟨⟨k+1,ω,by go_num,HA8⟩,by simp[intOf];omega⟩
   ·have hf:(xu&&xc==c)=false:=by
     cases hq:(xu&&xc==c) with
     |false=>rfl
     |true=>simp at hq;exact absurd hq hu
    rw[hf,if_neg σ,List.append_nil] at HS;have HA9:Hid (TkS w gs gl l u5 (uE (l.take (k+1)) c) w2):=ι (by rw[HS.o];exact HA.o);cases xu with
    |false=>
     clear hu hf;go_wp2;exact⟨⟨k+1,ω,by go_num,HA9⟩,by simp[intOf];omega⟩
    |true=>
     have hc:¬((xc:Int)=(c:Int)):=by
      intro e;exact hu ⟨rfl,ω⟩
     have hc2:((xc:Int)==(c:Int))=false:=by simpa using hc
     clear hu hf;go_wp2;exact⟨⟨k+1,ω,by go_num,HA9⟩,by simp[intOf];omega⟩
  ·obtain rfl:k=32:=by omega
   have HE:Hid (uE (l.take 32) c=uE l c):=ι (by rw[List.take_of_length_le (by rw[HL.o.1];omega)]);rw[HE.o] at HI;go_wp2;go_ret;exact⟨_,rfl,rdN_of (HI.o.own.rd xJa),HI.o.bel⟩
structure StL where
 gl:Nat
 gs:Nat
 gp0:Nat
 lo0:Nat
 hi0:Nat
 gp1:Nat
 lo1:Nat
 hi1:Nat
abbrev uM (L:StL) (cv:Value):Obj:=.cells #[.slice (some ⟨L.gl,0,none⟩) 32 32,.pointer (some ⟨L.gp0,0,none⟩),.pointer (some ⟨L.gp1,0,none⟩),cv] 342
structure StM (w:World) (L:StL) (cv wv:Value) (s:StS) (W:World):Prop where
 st:W.heap[L.gs]?=some (uM L cv)
 sl:kN 137 qC W L.gl s.slots
 p0:pU W L.lo0 L.hi0 L.gp0 24 s.xAv
 p1:pU W L.lo1 L.hi1 L.gp1 12 s.xAu
 wr:xV 118 2 wrF W L.hi1 wv s.writes
 len:s.slots.length=32
 bel:Below w.heap.size w W
 o0:w.heap.size<=L.gl
 o1:L.gl<L.gs
 o2:L.gs<L.lo0
 o3:L.lo0<=L.hi0
 o4:L.hi0<=L.lo1
 o5:L.lo1<=L.hi1
 o6:L.hi1<=W.heap.size
section
variable {w W W':World} {L:StL} {cv wv:Value} {s:StS}
theorem StM.below (h:StM w L cv wv s W) (hb:Below W.heap.size W W'):StM w L cv wv s W':=
 ⟨xB h.st hb (xG h.st),h.sl.below hb,h.p0.below hb,h.p1.below hb,h.wr.below hb,h.len,h.bel.trans (hb.mono h.bel.size),h.o0,h.o1,h.o2,h.o3,h.o4,h.o5,Nat.le_trans h.o6 hb.size⟩
theorem xFw (b:Nat):∀(l:List Value) (i:Nat) (W:World),(xU b i l W).heap.size=W.heap.size
 |[],_,_=>rfl
 |_::l,i,W=>by unfold xU;rw[xFw b l,size_set]
theorem xV.xU {α:Type} {e:TypeId} {k:Nat} {f:α->List Value} {w:World} {base:Nat} {v:Value} {l:List α} (h:xV e k f w base v l) {g:Nat} (xs:List Value) (i:Nat) (hg:g<base):xV e k f (SV.xU g i xs w) base v l:=by
 refine⟨h.1,?_⟩;rcases h.2 with hn|⟨g',cap,cur,h1,h2,h3,h4⟩
 ·exact .inl hn
 ·exact .inr ⟨g',cap,cur,h1,h2,xM ω xs i _ h3,h4⟩
theorem StM.slot (h:StM w L cv wv s W) {k:Nat} (hk:k<32) (t:Slot):StM w L cv wv {s with slots:=s.slots.set k t} (xU L.gl (k*5) (qC t) W):=by
 have a1:=h.o1;have a2:=h.o2;have a3:=h.o3;have a4:=h.o4;have a5:=h.o5
 refine⟨xM ω _ _ _ h.st,h.sl.put zL (by rw[h.len];exact hk) t,h.p0.kept λq o hq h1 h2=>xM ω _ _ _ hq,h.p1.kept λq o hq h1 h2=>xM ω _ _ _ hq,xV.xU h.wr _ _ ω,by simpa using h.len,xZ h.o0 _ _ _ h.bel,h.o0,h.o1,h.o2,h.o3,h.o4,h.o5,by rw[xFw];exact h.o6⟩
theorem StM.app {l':List Wr} {wv':Value} (h:StM w L cv wv s W) (ha:qP 118 2 wrF W W' L.hi1 wv wv' l'):StM w L cv wv' {s with writes:=l'} W':=by
 have a0:=h.o0;have a1:=h.o1;have a2:=h.o2;have a3:=h.o3;have a4:=h.o4;have a5:=h.o5;have a6:=h.o6;have hf:∀p,p<L.hi1->wv.ownBlock≠some p:=λp hp=>h.wr.far hp
 refine⟨ha.keep h.st (hf _ ω),ha.keep h.sl.blk (hf _ ω),h.p0.kept λq o hq h1 h2=>ha.keep hq (hf _ ω),h.p1.kept λq o hq h1 h2=>ha.keep hq (hf _ h2),ha.own,h.len,ha.bel h.wr ω h.bel ω,h.o0,h.o1,h.o2,h.o3,h.o4,h.o5,Nat.le_trans h.o6 ha.grown.size⟩
theorem StM.cell (h:StM w L cv wv s W) (cv':Value):StM w L cv' wv s (W.setCell ⟨L.gs,3,none⟩ cv'):=by
 have a0:=h.o0;have a1:=h.o1;have a2:=h.o2;have a3:=h.o3;have a4:=h.o4;have a5:=h.o5;have a6:=h.o6;have hs:=xY h.st 3 cv';simp only[List.setIfInBounds_toArray,List.set_cons_zero,List.set_cons_succ] at hs
 refine⟨hs,yA h.sl.blk (p:=⟨L.gs,3,none⟩) (by show L.gl≠L.gs;omega) _,h.p0.kept λq o hq h1 h2=>yA hq (p:=⟨L.gs,3,none⟩) (by show q≠L.gs;omega) _,h.p1.kept λq o hq h1 h2=>yA hq (p:=⟨L.gs,3,none⟩) (by show q≠L.gs;omega) _,h.wr.xAm (p:=⟨L.gs,3,none⟩) _ (h.wr.far (by show L.gs<L.hi1;omega)),h.len,h.bel.setCell (p:=⟨L.gs,3,none⟩) (by show w.heap.size<=L.gs;omega) _,h.o0,h.o1,h.o2,h.o3,h.o4,h.o5,by rw[size_set];exact h.o6⟩
end
theorem xFu (w:World) (K:StL) (wv:Value) (s:StS) (i:Nat) (t:Slot) (W:World) (h:StM w K wv wv s W) (hi:i<32) (hc:t.cls<=255) (hb:t.blk<=255) (hs:t.size<=65535) (hn:t.name.length<=255) (hw:s.writes.length<=10000):
  Calls Tryz.prog 346 #[.pointer (some ⟨K.gs,0,none⟩),.int .i64 i,xGz t] W λe W'=>e=.returned (.tuple #[])/\∃wv',StM w K wv' wv' (putAt s i t) W':=by
 have HEN:=ι (λW=>xIa t W hc hb hs hn);have HP0:Hid (StM w K wv wv s (W.alloc (wO t))/\(W.alloc (wO t)).heap[W.heap.size]?=some (wO t)/\K.hi1<=W.heap.size):=ι ⟨h.below ((Below.refl _ _).alloc ν _),xL _ _,h.o6⟩
 have HPA:Hid (putAt s i t={s with slots:=s.slots.set i t,writes:=s.writes++[setW i t]}):=ι rfl;have HSW:Hid (setW i t=⟨((61+i:Nat):Int),xQh t⟩):=ι rfl;have hi32:(i:Int)<32:=by omega
 obtain⟨bx,hbx⟩:∃bx,W.heap.size=bx:=⟨_,rfl⟩;rw[hbx] at HP0;have HBX:=ι hbx;have HW:=ι hw;clear h hc hb hs hn hbx hw;go_enter Tryz.func346,Tryz.ntmps346;go_upto_region 1 with fail
 rw[HBX.o];generalize hw1:W.alloc (.cells #[.bool t.used,.int .i64 t.cls,.int .i64 t.blk,.int .i64 t.size,xO t.name] 137)=w1;have HP1:Hid (StM w K wv wv s w1/\w1.heap[bx]?=some (wO t)/\K.hi1<=bx):=ι (by rw[<-hw1];exact HP0.o);clear hw1 HP0 HBX
 refine RG.uB [7] [] (λF α W=>Hid ((F 7=false->StM w K wv wv s W)/\(F 7=true->StM w K wv wv {s with slots:=s.slots.set i t} W)/\W.heap[bx]?=some (wO t)))
  (λF F' α α' W hl _ h=>ι (by rw[<-hl 7 σ];exact h.o)) κ κ κ (ι ⟨λ_=>HP1.o.1.below (Below.refl _ _).drew,λe=>(by cases e),HP1.o.2.1⟩) ?_
 iterate 3 refine RG.vS ?_
 apply RG.uA
 ·rfl
 ·rfl
 ·intro α L w9 h0 hcl xN hw9;have f7:L 7=false:=hcl.not 8 (i:=7) h0 κ;have hb:=(hw9.o.1 f7).st;have s0:=xQn hb;repeat go_step
  with_reducible exact RG.xD hw9
 ·intro α;rfl
 refine RG.vS ?_;iterate 2 refine RG.vF (λα L w9 h0 hcl xN hw9=>xU2 hw9.o.2.2) ?_
 apply RG.rU (v:=undef)
 ·rfl
 ·rfl
 ·intro α L w9 h0 hcl xN hw9;have hst:=hw9.o.1 h0;have HPU:=ι (hst.slot hi t);have HBX:=ι (xM (b:=K.gl) (g:=bx) (by have:=HP1.o.2.2;have:=hst.o1;have:=hst.o2;have:=hst.o3;have:=hst.o4;have:=hst.o5;omega) (qC t) (i*5) w9 hw9.o.2.2)
  obtain⟨y,hy⟩:∃y,s.slots[i]?=some y:=⟨_,List.getElem?_eq_getElem (by rw[hst.len];exact hi)⟩;have f0:=hst.sl.free (i*5);have f1:=hst.sl.free (i*5+1);have f2:=hst.sl.free (i*5+2);have f3:=hst.sl.free (i*5+3);have f4:=hst.sl.free (i*5+4);have o0:=hst.sl.cell zL (i:=0) hy rfl
  have o1:=hst.sl.cell zL (i:=1) hy rfl;have o2:=hst.sl.cell zL (i:=2) hy rfl;have o3:=hst.sl.cell zL (i:=3) hy rfl;have o4:=hst.sl.cell zL (i:=4) hy rfl;rw[Nat.add_zero] at o0;simp only[xU] at HPU HBX;clear hst hy;repeat go_step
  with_reducible refine RG.xD ?_
  exact ι ⟨λe=>by simp at e,λ_=>HPU.o,HBX.o⟩
 ·intro α;rfl
 refine RG.pE (λα w2 hw2=>?_);have HP2:Hid (StM w K wv wv {s with slots:=s.slots.set i t} w2/\w2.heap[bx]?=some (wO t)/\K.hi1<=bx):=ι ⟨hw2.o.2.1 rfl,hw2.o.2.2,HP1.o.2.2⟩;clear hw2 HP1;go_upto_region 2 with fail
 obtain⟨ev,hev⟩:∃ev,xQh t=ev:=⟨_,rfl⟩;rw[hev] at HEN HSW;clear hev;obtain⟨sl2,hsl2⟩:∃l,s.slots.set i t=l:=⟨_,rfl⟩;rw[hsl2] at HP2 HPA;have hat:(61:Int)+(i:Int)=((61+i:Nat):Int):=by omega
 have HAT:=ι hat;clear hat hsl2
 refine RG.uB [14] [10,11] (λF α W=>Hid ((F 11=false->StM w K wv wv {s with slots:=sl2} W)/\(F 10=true->F 11=false->RdR 2 wrF W W.heap.size (α 10) [⟨61+(i:Int),ev⟩])/\
  (F 11=true->F 14=false->StM w K wv (α 11) {s with slots:=sl2,writes:=s.writes++[⟨61+(i:Int),ev⟩]} W)/\(F 11=true->F 14=true->StM w K (α 11) (α 11) {s with slots:=sl2,writes:=s.writes++[⟨61+(i:Int),ev⟩]} W)/\W.heap[bx]?=some (wO t)))
  (λF F' α α' W hl ha h=>ι (by
   have l10:=hl 10 σ;have l11:=hl 11 σ;have l14:=hl 14 σ;refine⟨λe=>h.o.1 (l11.trans e),λe f=>?_,λe f=>?_,λe f=>?_,h.o.2.2.2.2⟩
   ·rw[<-ha 10 σ (l10.trans e)];exact h.o.2.1 (l10.trans e) (l11.trans f)
   ·rw[<-ha 11 σ (l11.trans e)];exact h.o.2.2.1 (l11.trans e) (l14.trans f)
   ·rw[<-ha 11 σ (l11.trans e)];exact h.o.2.2.2.1 (l11.trans e) (l14.trans f))) κ κ κ (ι ⟨λ_=>HP2.o.1.below (Below.refl _ _).drew,λe=>(by cases e),λe=>(by cases e),λe=>(by cases e),HP2.o.2.1⟩) ?_
 iterate 4 refine RG.vS ?_
 apply RG.uA
 ·rfl
 ·rfl
 ·intro α L w9 h0 hcl xN hw9;have f14:L 14=false:=hcl.not 9 (i:=14) h0 κ
  have hb:w9.heap[K.gs]?=some (uM K wv):=by
   cases f11:L 11 with
   |false=>exact(hw9.o.1 f11).st
   |true=>exact(hw9.o.2.2.1 f11 f14).st
  have s3:=xA hb 3;simp only[gA,gB,gC] at s3;clear hb;repeat go_step
  with_reducible exact RG.xD hw9
 ·intro α;rfl
 iterate 2 refine RG.vS ?_
 refine RG.vF (λα L w9 h0 hcl xN hw9=>xU2 hw9.o.2.2.2.2) ?_;apply RG.uA
 ·rfl
 ·rfl
 ·intro α L w9 h0 hcl xN hw9;repeat go_step
  refine(HEN.o _).mono ?_;rintro e w10 ⟨rfl,zM⟩;simp only[];repeat go_step
  with_reducible refine RG.xD ?_
  exact ι ⟨λe=>(hw9.o.1 e).below zM,λe f=>((hw9.o.2.1 e f).below zM ν).more zM.size,λe f=>(hw9.o.2.2.1 e f).below zM,λe f=>(hw9.o.2.2.2.1 e f).below zM,xB hw9.o.2.2.2.2 zM (xG hw9.o.2.2.2.2)⟩
 ·intro α;rfl
 refine RG.vS ?_;apply RG.jC
 ·rfl
 ·intro α L w9 h0 hcl xN hw9;have f11:L 11=false:=hcl.not 9 (i:=11) h0 κ;refine⟨.slice (some ⟨w9.heap.size,0,none⟩) 1 1,λbv hbv=>?_⟩;repeat go_step
  rw[<-hbv];with_reducible refine RG.xD ?_
  have hal:=(Below.refl w9.heap.size w9).alloc ν (.cells #[.int .i64 (61+(i:Int)),xO ev] 118)
  exact ι ⟨λ_=>(hw9.o.1 f11).below hal,λ_ _=>by
   rw[show RG.wF α (0+1+1+1+1+1+1+1+1+1+1) bv 10=bv from RG.zF _ _ _,hbv,uX];exact RdR.lit (m:=[(⟨61+(i:Int),ev⟩:Wr)]) xDg w9 _ rfl,λe=>absurd (show L 11=true by simpa using e) (by rw[f11];simp),λe=>absurd (show L 11=true by simpa using e) (by rw[f11];simp),xK hw9.o.2.2.2.2 _⟩
 ·intro b α;rfl
 apply RG.jC
 ·rfl
 ·intro α L w9 h0 hcl xN hw9
  have f10:L 10=true:=by
   have:=xN.yes 9 (i:=11) (j:=10) σ κ;simpa using this
  have f14:L 14=false:=hcl.not 9 (i:=14) h0 κ;have hst:=hw9.o.1 h0;obtain⟨v',w',hr,ha⟩:=xCq (P:=Tryz.prog) tyWr 23 hst.wr (hw9.o.2.1 f10 h0) (by have:=HW.o;simp;omega) hst.o6;refine⟨v',λbv hbv=>?_⟩;refine kX rfl _ _ rfl rfl rfl hr ?_;rw[<-hbv];repeat go_step
  with_reducible refine RG.xD ?_
  exact ι ⟨λe=>by simp at e,λ_ e=>by simp at e,λ_ _=>by
   rw[show RG.wF α (0+1+1+1+1+1+1+1+1+1+1+1) bv 11=bv from RG.zF _ _ _,hbv];exact hst.app ha,λ_ e=>absurd (show L 14=true by simpa using e) (by rw[f14];simp),ha.keep hw9.o.2.2.2.2 (xV.neT hst.wr hw9.o.2.2.2.2 δ)⟩
 ·intro b α;rfl
 iterate 2 refine RG.vS ?_
 apply RG.xF2 (v:=λ_=>undef)
 ·rfl
 ·kernel_rfl
 ·rfl
 ·intro α L w9 h0 hcl xN hw9
  have f11:L 11=true:=by
   have:=xN.yes 9 (i:=14) (j:=11) σ κ;simpa using this
  have hst:=hw9.o.2.2.1 f11 h0;obtain⟨A,c,hg,_⟩:=hst.wr.form;rw[show(s.writes++[(⟨61+(i:Int),ev⟩:Wr)]).length=s.writes.length+1 by simp] at hg;have HC:=ι (hst.cell (α 11))
  have HBX:=ι (yA hw9.o.2.2.2.2 (p:=⟨K.gs,3,none⟩) (by have:=HP2.o.2.2;have:=hst.o2;have:=hst.o3;have:=hst.o4;have:=hst.o5;show bx≠K.gs;omega) (α 11));have hb:=hst.st;have s3:=xA hb 3;have y3:=xC hb 3;simp only[gA,gB,gC] at s3;have HG:=ι hg
  rw[show α (0+1+1+1+1+1+1+1+1+1+1+1)=_ from hg];clear hst hb hg;repeat go_step
  rw[<-show α (0+1+1+1+1+1+1+1+1+1+1+1)=_ from HG.o];with_reducible refine RG.xD ?_
  exact ι ⟨λe=>absurd (show L 11=false by simpa using e) (by rw[f11];simp),λ_ e=>absurd (show L 11=false by simpa using e) (by rw[f11];simp),λ_ e=>by simp at e,λ_ _=>HC.o,HBX.o⟩
 ·intro α;rfl
 refine RG.pE (λα w3 hw3=>?_);have HR:=ι (hw3.o.2.2.2.1 rfl rfl);clear hw3;go_wp2;refine bodyPost_end (results_none rfl _ _ _) rfl ?_;refine⟨rfl,α 11,?_⟩;rw[HPA.o,HSW.o,<-HAT.o];exact HR.o
end Go.Proofs.ST
namespace Mailsack
theorem xXk {c b:Nat} {data:Bs} {k:Nat} (h:k<countP c):(xAi c b data)[k]?=some ⟨((kP c b+k:Nat):Int),((xS5 data (xId c)).drop (k*64)).take 64⟩:=by
 unfold xAi;rw[List.getElem?_map,List.getElem?_range h]
 rfl
theorem xAx (c b:Nat) (data:Bs):(xAi c b data).length=countP c:=by simp[xAi]
end Mailsack
namespace Go.Proofs.ST
open Go.RowKit Mailsack MM BB SH SV RK DS AL
def xOz (K:StL) (W W':World):Prop:=∀(q:Nat) cs T fr,W.heap[q]?=some (.cells cs T fr)->T≠118->K.hi1<=q->W'.heap[q]?=some (.cells cs T fr)
theorem xOz.refl (K:StL) (W:World):xOz K W W:=λ_ _ _ _ h _ _=>h
theorem xOz.below {K:StL} {W W1 W2:World} (h:xOz K W W1) (hb:Below W1.heap.size W1 W2):xOz K W W2:=λq cs T fr h1 h2 h3=>by
 have:=h q cs T fr h1 h2 h3;exact xB this hb (xG this)
theorem xOz.app {K:StL} {W W1 W2:World} {base:Nat} {v v':Value} {l l':List Wr} (h:xOz K W W1) (ho:xV 118 2 wrF W1 base v l) (ha:qP 118 2 wrF W1 W2 base v v' l'):xOz K W W2:=λq cs T fr h1 h2 h3=>by
 have:=h q cs T fr h1 h2 h3;exact ha.keep this (xV.neT ho this h2)
theorem xOz.cell {K:StL} {W W1:World} (h:xOz K W W1) (hg:K.gs<K.hi1) (v:Value):xOz K W (W1.setCell ⟨K.gs,3,none⟩ v):=λq cs T fr h1 h2 h3=>yA (h q cs T fr h1 h2 h3) (p:=⟨K.gs,3,none⟩) (by show q≠K.gs;omega) _
theorem StM.gs_lt {w W:World} {K:StL} {cv wv:Value} {s:StS} (h:StM w K cv wv s W):K.gs<K.hi1:=by
 have:=h.o2;have:=h.o3;have:=h.o4;have:=h.o5;omega
theorem tQ (w:World) (K:StL) (wv:Value) (s:StS) (c b:Nat) (data:Bs) (W:World) (h:StM w K wv wv s W) (hc:c<=1) (hb:b<=255) (hd:data.length<=xId c) (hw:s.writes.length<=10000):
  Calls Tryz.prog 349 #[.pointer (some ⟨K.gs,0,none⟩),.int .i64 c,.int .i64 b,xO data] W λe W'=>e=.returned (.tuple #[])/\(∃wv',StM w K wv' wv' {s with writes:=s.writes++xAi c b data} W')/\xOz K W W':=by
 have HCA:=ι (λW=>tX c W);have hcl:=xOt c;have HPD:=ι (λW=>xNt ⟨data.toArray⟩ (xId c) W ω (by show data.toArray.size<=_;simp;omega));rw[show(⟨data.toArray⟩:ByteArray).data.toList=data from rfl] at HPD;have HSE:=ι (λW=>xFx c b W ω);have HPL:=ι (yA6 hd);have HCE:=ι (xYa hc)
 have HFG:=ι (λk h=>xXk (c:=c) (b:=b) (data:=data) (k:=k) h);have HFL:=ι (xAx c b data);have HCN:Hid (countP c<=16/\kP c b<=100000):=ι ⟨by unfold countP;split<;>omega,by unfold kP;split<;>omega⟩;have HW:=ι hw
 have H0:Hid (StM w K wv wv {s with writes:=s.writes++(xAi c b data).take 0} W):=ι (by simpa using h);have HGS:=ι h.gs_lt;generalize xAi c b data=fl at HFG HFL H0⊢;generalize xS5 data (xId c)=al at HPD HPL HFG;generalize xId c=cp at HCA HPD HPL HCE hd hcl
 generalize kP c b=fi at HSE HFG HCN;generalize countP c=cn at HSE HFG HFL HCN HCE;obtain⟨ab,hab⟩:∃ab:ByteArray,(⟨al.toArray⟩:ByteArray)=ab:=⟨_,rfl⟩;have HAB:=ι (And.intro hab (show ab.size=al.length by rw[<-hab];simp[ByteArray.size]))
 rw[show xO al=.string ab from by rw[<-hab]] at HPD;clear h hc hb hd hcl hw hab;go_enter Tryz.func349,Tryz.ntmps349;go_wp2_with fail
 refine(HCA.o _).mono ?_;rintro e w1 ⟨rfl,hw1⟩;rw[hw1];clear hw1 w1;go_wp2_with fail
 refine(HPD.o _).mono ?_;rintro e w2 ⟨rfl,hb2⟩;have H2:=ι (And.intro (H0.o.below hb2) ((xOz.refl K W).below hb2));clear hb2 H0;go_wp2_with fail
 refine(HSE.o _).mono ?_;rintro e w3 ⟨rfl,rfl⟩;go_wp2_with fail
 clear HCA HPD HSE
 go_loopw [24] (λiv wr=>∃(k:Nat) (uv:Value),k<=cn/\iv=.int .i64 k/\Hid (StM w K uv uv {s with writes:=s.writes++fl.take k} wr/\xOz K W wr)) (λiv _=>cn- (intOf iv).toNat)
 case atStart=>exact⟨0,_,Nat.zero_le _,rfl,H2⟩
 case round=>
  obtain⟨k,uv,hk,rfl,HI⟩:=hrel;clear H2
  by_cases hlt:k<cn
  ·have HT1:Hid (∀x,fl[k]?=some x->s.writes++fl.take (k+1)=s.writes++fl.take k++[x]):=ι (λx hx=>by rw[List.take_add_one,hx,List.append_assoc];rfl)
   have HTL:Hid ((s.writes++fl.take k).length<=10020):=ι (by have:=HW.o;have:=List.length_take_le k fl;have:=HFL.o;have:=HCN.o.1;rw[List.length_append];omega);generalize s.writes++fl.take k=ws at HI HT1 HTL;obtain⟨A,cc,hv,_⟩:=HI.o.1.wr.form;have hcnb:cn<=16:=HCN.o.1
   have hfib:fi<=100000:=HCN.o.2;have hz:(ab.size:Int)=64*(cn:Int):=by have:=HAB.o.2;have:=HPL.o;have:=HCE.o;omega
   have hHX:=HFG.o k hlt
   have HPB:Hid (xO ((al.drop (k*64)).take 64)=.string (ab.extract (k*64) ((k+1)*64))):=ι (by
    rw[<-HAB.o.1];show Value.string _=Value.string _
    congr 1
    apply ByteArray.ext;rw[ByteArray.data_extract];apply Array.ext';rw[Array.toList_extract];simp[List.extract,show(k+1)*64-k*64=64 by omega])
   have HX:=ι hHX;have HTK:Hid (s.writes++fl.take (k+1)=ws++[⟨((fi+k:Nat):Int),(al.drop (k*64)).take 64⟩]):=ι (HT1.o _ HX.o);have g1:(0:Int)<=(k:Int)*64:=by omega
   have g2:(k:Int)*64<=((k:Int)+1)*64:=by omega
   have g3:((k:Int)+1)*64<=(ab.size:Int):=by omega
   have hb:=HI.o.1.st;have s3:=xA hb 3;have y3:=xC hb 3;simp only[gA,gB,gC] at s3;clear hHX hb;go_upto_region 6 with fail
   rw[<-HPB.o];generalize (al.drop (k*64)).take 64=pl at HTK⊢;have hfk:(fi:Int)+(k:Int)=((fi+k:Nat):Int):=by omega
   have HFK:=ι hfk
   have HAD:Hid (∀v8 w8,qP 118 2 wrF (wr.alloc (.cells #[.int .i64 ((fi:Int)+(k:Int)),xO pl] 118)) w8 K.hi1 uv v8 (ws++[(⟨(fi:Int)+(k:Int),pl⟩:Wr)])->Hid (StM w K v8 v8 {s with writes:=s.writes++fl.take (k+1)} (w8.setCell ⟨K.gs,3,none⟩ v8)/\w8.heap[K.gs]?=some (uM K uv)/\xOz K W (w8.setCell ⟨K.gs,3,none⟩ v8))):=ι λv8 w8 h8=>ι (by
    have ha:=StM.app (HI.o.1.below ((Below.refl wr.heap.size wr).alloc ν _)) h8;refine⟨?_,ha.st,((HI.o.2.below ((Below.refl wr.heap.size wr).alloc ν _)).app (HI.o.1.wr.alloc _) h8).cell HGS.o v8⟩;have hc:=ha.cell v8;rw[HTK.o,<-HFK.o];exact hc)
   have HO:=ι (And.intro HI.o.1.wr HI.o.1.o6);subst hv;clear hfk HI HTK HPB HX
   go_wp2_with (at_builtin;refine zY tyWr rfl _ _ rfl rfl rfl (HO.o.1.alloc _) (RdR.lit (m:=[(⟨(fi:Int)+(k:Int),pl⟩:Wr)]) xDg _ _ rfl) (by have:=HTL.o;simp;omega) (by have:=HO.o.2;simp;omega) ?_;intro v8 w8 h8;obtain⟨A8,c8,hv8,_⟩:=h8.own.form;rw[show(ws++[(⟨(fi:Int)+(k:Int),pl⟩:Wr)]).length=ws.length+1 by simp] at hv8;subst hv8;have HA8:=HAD.o _ _ h8;have s8:=xA HA8.o.2.1 3;have y8:=xC HA8.o.2.1 3;simp only[gA,gB,gC] at s8;clear h8)
   exact⟨⟨k+1,_,ω,by go_num,ι ⟨HA8.o.1,HA8.o.2.2⟩⟩,by simp[intOf];omega⟩
  ·obtain rfl:k=cn:=by omega
   have HE:Hid (fl.take k=fl):=ι (List.take_of_length_le (by rw[HFL.o];omega));rw[HE.o] at HI;go_wp2;refine bodyPost_end (results_none rfl _ _ _) rfl ?_;exact⟨rfl,⟨_,HI.o.1⟩,HI.o.2⟩
theorem xXe (t:Slot) (w:World):
  Calls Tryz.prog 347 #[xGz t] w λe w'=>e=.returned (.bool (!t.used))/\Below w.heap.size w w':=by
 obtain⟨u,c,b,s,m⟩:=t;have HB:=ι ((Below.refl w.heap.size w).alloc ν (wO ⟨u,c,b,s,m⟩));have hb:=xL w (wO ⟨u,c,b,s,m⟩);have c0:=xQn hb;clear hb;cases u with
 |false=>
  go_enter Tryz.func347,Tryz.ntmps347;go_wp2;go_ret;exact⟨rfl,HB.o⟩
 |true=>
  go_enter Tryz.func347,Tryz.ntmps347;go_wp2;go_ret;exact⟨rfl,HB.o⟩
abbrev chV (c:Ch):Value:=.agg #[xO c.name,xO c.data,.bool c.gone]
abbrev chO (c:Ch):Obj:=.cells #[xO c.name,xO c.data,.bool c.gone] 113
structure ChM (w:World) (K:StL) (wv:Value) (s:StS) (c:Ch) (bx:Nat) (W:World):Prop where
 m:StM w K wv wv s W
 c:W.heap[bx]?=some (chO c)
 lo:K.hi1<=bx
section
variable {w W W':World} {K:StL} {wv:Value} {s:StS} {c:Ch} {bx:Nat}
theorem ChM.below (h:ChM w K wv s c bx W) (hb:Below W.heap.size W W'):ChM w K wv s c bx W':=⟨h.m.below hb,xB h.c hb (xG h.c),h.lo⟩
theorem ChM.drew (h:ChM w K wv s c bx W):ChM w K wv s c bx W.drew:=h.below (Below.refl _ _).drew
theorem ChM.slots (h:ChM w K wv s c bx W):RdR 5 qC W W.heap.size (.slice (some ⟨K.gl,0,none⟩) 32 32) s.slots:=by
 have:=h.m.sl.rd zL (B:=W.heap.size) (xG h.m.sl.blk) (c:=32) (by rw[h.m.len];omega);rw[h.m.len] at this;exact this
theorem ChM.pop0 (h:ChM w K wv s c bx W) {l:List Nat} (hp:pU W' K.lo0 K.hi0 K.gp0 24 l) (ht:Tn (λk=>K.lo0<=k/\k<K.hi0) W W'):ChM w K wv {s with xAv:=l} c bx W':=by
 have m:=h.m;have a0:=m.o0;have a1:=m.o1;have a2:=m.o2;have a3:=m.o3;have a4:=m.o4;have a5:=m.o5;have a6:=m.o6;have a7:=h.lo
 refine⟨⟨ht.blk m.st ω,ht.blk m.sl.blk ω,hp,m.p1.tn ht (λk h1 h2=>by omega),m.wr.tn ht (λg hg=>by have:=(World.ownsRow.lt m.wr.row g hg).1;omega),m.len,m.bel.trans (ht.below (λk hk=>by omega) m.bel.size),a0,a1,a2,a3,a4,a5,Nat.le_trans a6 ht.size⟩,ht.blk h.c ω,h.lo⟩
theorem ChM.pop1 (h:ChM w K wv s c bx W) {l:List Nat} (hp:pU W' K.lo1 K.hi1 K.gp1 12 l) (ht:Tn (λk=>K.lo1<=k/\k<K.hi1) W W'):ChM w K wv {s with xAu:=l} c bx W':=by
 have m:=h.m;have a0:=m.o0;have a1:=m.o1;have a2:=m.o2;have a3:=m.o3;have a4:=m.o4;have a5:=m.o5;have a6:=m.o6;have a7:=h.lo
 refine⟨⟨ht.blk m.st ω,ht.blk m.sl.blk ω,m.p0.tn ht (λk h1 h2=>by omega),hp,m.wr.tn ht (λg hg=>by have:=(World.ownsRow.lt m.wr.row g hg).1;omega),m.len,m.bel.trans (ht.below (λk hk=>by omega) m.bel.size),a0,a1,a2,a3,a4,a5,Nat.le_trans a6 ht.size⟩,ht.blk h.c ω,h.lo⟩
end
end Go.Proofs.ST
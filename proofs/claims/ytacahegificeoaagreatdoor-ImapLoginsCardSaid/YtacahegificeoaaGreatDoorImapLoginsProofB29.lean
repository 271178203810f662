/- Contracts of functions. Conditions: as stated. -/
import Derived.Test.YtacahegificeoaaGreatDoorImapLoginsProofB28
set_option maxHeartbeats 8000000
set_option maxRecDepth 100000
namespace Mailsack
def xHm {α:Type} (v:RdP->α) (t:RdP->RdP) (r0:RdP) (k:Nat) (L:List α) (r:RdP):Prop:=∀m,xAq v t (k+m) r0=L++xAq v t m r/\xAr t (k+m) r0=xAr t m r
section
variable {α:Type} {v:RdP->α} {t:RdP->RdP} {r0 r:RdP} {k n:Nat} {L:List α}
theorem xG5 (v:RdP->α) (t:RdP->RdP) (r0:RdP):xHm v t r0 0 [] r0:=λm=>by rw[Nat.zero_add];exact⟨rfl,rfl⟩
theorem xG6 (h:xHm v t r0 k L r) (hb:r.bad=false):xHm v t r0 (k+1) (L++[v r]) (t r):=λm=>by
 have:=h (m+1);rw[show k+1+m=k+(m+1) by omega,this.1,this.2];have e1:xAq v t (m+1) r=v r::xAq v t m (t r):=by rw[xAq,hb,if_neg σ]
 have e2:xAr t (m+1) r=xAr t m (t r):=by rw[xAr,hb,if_neg σ]
 rw[e1,e2,List.append_assoc];exact⟨rfl,rfl⟩
theorem xG7 (h:xHm v t r0 n L r):xAq v t n r0=L/\xAr t n r0=r:=by
 have:=h 0;rw[Nat.add_zero] at this;rw[this.1,this.2];exact⟨by simp[xAq],rfl⟩
theorem xJf (h:xHm v t r0 k L r) (hk:k<=n) (hb:r.bad=true):xAq v t n r0=L/\xAr t n r0=r:=by
 obtain⟨m,rfl⟩:∃m,n=k+m:=⟨n-k,ω⟩;rw[(h m).1,(h m).2];cases m with
 |zero=>exact⟨by simp[xAq],rfl⟩
 |succ m=>
  unfold xAq xAr;rw[if_pos hb,if_pos hb];exact⟨σ,rfl⟩
end
theorem xNx (r:RdP):zR r 1<256:=by
 have h:=xQ1 (rdB r 1) (by have:=xNj r 1;omega);have h2:=xNj r 1;have:256^(rdB r 1).length<=256^1:=Nat.pow_le_pow_right ω h2;unfold zR;omega
theorem xLn (r:RdP):(xJg r).rest.length<=r.rest.length:=by
 unfold xJg;have h1:=vK r 4;have h2:=vK (rdR r 4) 1;have h3:=vK (rdR (rdR r 4) 1) 4;have h4:=vK (rdR (rdR (rdR r 4) 1) 4) 2;omega
end Mailsack
namespace Go.Proofs.IX
open Go.RowKit Mailsack MM BB SH SV RK DS
abbrev maF (m:uH):List Value:=[.int .i64 m.uid,.int .i64 m.flags,.int .i64 m.object,.int .i64 m.size]
theorem xC7 (m:uH):(maF m).length=4:=rfl
theorem yE2 (x:uH):∀u∈maF x,u.oneCell'=true:=by
 intro u hu;simp only[maF,List.mem_cons,List.not_mem_nil,or_false] at hu;rcases hu with rfl|rfl|rfl|rfl<;>rfl
theorem infoMa:(Tryz.prog.info? 122).map (λi=>(i.zero,i.size,i.bytes))=some (some (.agg #[.int .i64 0,.int .i64 0,.int .i64 0,.int .i64 0]),4,32):=by kernel_rfl
theorem tyMa:xYp Tryz.prog 66 122 4 32 maF:=by
 obtain⟨i,hi,hz,hs,hb⟩:=vM infoMa;exact⟨Tryz.underlying66,⟨i,_,hi,hz,hs,hb,rfl⟩,ω,ω,xC7,yE2⟩
theorem xFa {w:World} {B:Nat} {v:Value} {l:List uH} (h:RdR 4 maF w B v l):vG w B v l:=by
 obtain⟨A,c,h1,h2,h3⟩:=h;refine⟨A,c,h1,h2,λhn=>?_⟩;obtain⟨b,off,h4,h5,h6⟩:=h3 hn;exact⟨b,off,h4,h5,λj x hx=>⟨h6 j x hx 0 _ rfl,h6 j x hx 1 _ rfl,h6 j x hx 2 _ rfl,h6 j x hx 3 _ rfl⟩⟩
abbrev yCm (n:Bs) (v x:Int) (mv:Value):Obj:=.cells #[xO n,.int .i64 v,.int .i64 x,mv] 68
abbrev maO (m:uH):Obj:=.cells #[.int .i64 m.uid,.int .i64 m.flags,.int .i64 m.object,.int .i64 m.size] 122
structure BxM (w:World) (g bb:Nat) (n:Bs) (v x:Int) (mv:Value) (cv:Value) (L:List uH) (r:RdP) (W:World):Prop where
 o:W.heap[w.heap.size]?=some (yCm [] 0 0 (.slice none 0 0))
 b:W.heap[bb]?=some (yCm n v x cv)
 rd:W.heap[g]?=some (rdO r)
 own:xV 122 4 maF W w.heap.size mv L
 tn:Tn (λk=>k=g) w W
 hg:g<w.heap.size
 hb:w.heap.size<bb
section
variable {w W W':World} {g bb:Nat} {n:Bs} {v x:Int} {mv cv:Value} {L:List uH} {r r':RdP}
theorem BxM.turn (h:BxM w g bb n v x mv cv L r W) (ht:xQy g r' W W'):BxM w g bb n v x mv cv L r' W':=by
 have h1:=h.hg;have h2:=h.hb;exact⟨ht.tn.blk h.o ω,ht.tn.blk h.b ω,ht.b,h.own.tn ht.tn (λq hq e=>xV.neT h.own h.rd δ (by rw[hq,e])),h.tn.trans ht.tn,h.hg,h.hb⟩
theorem BxM.below (h:BxM w g bb n v x mv cv L r W) (hb:Below W.heap.size W W'):BxM w g bb n v x mv cv L r W':=
 ⟨xB h.o hb (xG h.o),xB h.b hb (xG h.b),xB h.rd hb (xG h.rd),h.own.below hb,h.tn.call hb,h.hg,h.hb⟩
theorem BxM.kE (h:BxM w g bb n v x mv cv L r W) (z:Int):BxM w g bb n z x mv cv L r (W.setCell ⟨bb,1,none⟩ (.int .i64 z)):=by
 have h1:=h.hg;have h2:=h.hb;have e:=xY h.b 1 (.int .i64 z);simp only[List.setIfInBounds_toArray,List.set_cons_zero,List.set_cons_succ] at e
 exact⟨yA h.o (p:=⟨bb,1,none⟩) (by show w.heap.size≠bb;omega) _,e,yA h.rd (p:=⟨bb,1,none⟩) (by show g≠bb;omega) _,h.own.xAm (p:=⟨bb,1,none⟩) _ (xV.neT h.own h.b δ),h.tn.set (p:=⟨bb,1,none⟩) (.inr (by show w.heap.size<=bb;omega)) _,h.hg,h.hb⟩
theorem BxM.xRy (h:BxM w g bb n v x mv cv L r W) (z:Int):BxM w g bb n v z mv cv L r (W.setCell ⟨bb,2,none⟩ (.int .i64 z)):=by
 have h1:=h.hg;have h2:=h.hb;have e:=xY h.b 2 (.int .i64 z);simp only[List.setIfInBounds_toArray,List.set_cons_zero,List.set_cons_succ] at e
 exact⟨yA h.o (p:=⟨bb,2,none⟩) (by show w.heap.size≠bb;omega) _,e,yA h.rd (p:=⟨bb,2,none⟩) (by show g≠bb;omega) _,h.own.xAm (p:=⟨bb,2,none⟩) _ (xV.neT h.own h.b δ),h.tn.set (p:=⟨bb,2,none⟩) (.inr (by show w.heap.size<=bb;omega)) _,h.hg,h.hb⟩
theorem BxM.put3 (h:BxM w g bb n v x mv cv L r W) (z:Value):BxM w g bb n v x mv z L r (W.setCell ⟨bb,3,none⟩ z):=by
 have h1:=h.hg;have h2:=h.hb;have e:=xY h.b 3 z;simp only[List.setIfInBounds_toArray,List.set_cons_zero,List.set_cons_succ] at e
 exact⟨yA h.o (p:=⟨bb,3,none⟩) (by show w.heap.size≠bb;omega) _,e,yA h.rd (p:=⟨bb,3,none⟩) (by show g≠bb;omega) _,h.own.xAm (p:=⟨bb,3,none⟩) _ (xV.neT h.own h.b δ),h.tn.set (p:=⟨bb,3,none⟩) (.inr (by show w.heap.size<=bb;omega)) _,h.hg,h.hb⟩
theorem xZh {P:Nat->Prop} {a b c:World} {row:Option Nat} (h:Tn P a b) (hg:b.grownBy c row) (hr:∀k,row=some k->a.heap.size<=k):Tn P a c:=
 ⟨hg.os.trans h.os,hg.tape.trans h.tape,hg.output.trans h.output,Nat.le_trans h.size hg.size,λi hi hp=>(hg.block i (Nat.lt_of_lt_of_le hi h.size) (λe=>by have:=hr i e.symm;omega)).trans (h.block i hi hp)⟩
theorem BxM.app {L':List uH} {mv':Value} (h:BxM w g bb n v x mv cv L r W) (ha:qP 122 4 maF W W' w.heap.size mv mv' L'):BxM w g bb n v x mv' cv L' r W':=
 ⟨ha.keep h.o (xV.neT h.own h.o δ),ha.keep h.b (xV.neT h.own h.b δ),ha.keep h.rd (xV.neT h.own h.rd δ),ha.own,xZh h.tn ha.grown (λk hk=>(World.ownsRow.lt h.own.row k hk).1),h.hg,h.hb⟩
end
structure MbM (w:World) (g bb:Nat) (n:Bs) (v x:Int) (mv cv:Value) (L:List uH) (mb:Nat) (m:uH) (r:RdP) (W:World):Prop where
 bx:BxM w g bb n v x mv cv L r W
 m:W.heap[mb]?=some (maO m)
 hm:bb<mb
 ne:mv.ownBlock≠some mb
section
variable {w W W':World} {g bb mb:Nat} {n:Bs} {v x:Int} {mv cv:Value} {L:List uH} {r r':RdP} {m:uH}
theorem MbM.turn (h:MbM w g bb n v x mv cv L mb m r W) (ht:xQy g r' W W'):MbM w g bb n v x mv cv L mb m r' W':=by
 have h1:=h.bx.hg;have h2:=h.bx.hb;have h3:=h.hm;exact⟨h.bx.turn ht,ht.tn.blk h.m ω,h.hm,h.ne⟩
theorem MbM.put (h:MbM w g bb n v x mv cv L mb m r W) (i:Nat) (z:Value) (m':uH) (e:(#[Value.int .i64 m.uid,.int .i64 m.flags,.int .i64 m.object,.int .i64 m.size]:Array Value).setIfInBounds i z=#[.int .i64 m'.uid,.int .i64 m'.flags,.int .i64 m'.object,.int .i64 m'.size]):
  MbM w g bb n v x mv cv L mb m' r (W.setCell ⟨mb,i,none⟩ z):=by
 have h1:=h.bx.hg;have h2:=h.bx.hb;have h3:=h.hm
 exact⟨⟨yA h.bx.o (p:=⟨mb,i,none⟩) (by show w.heap.size≠mb;omega) _,yA h.bx.b (p:=⟨mb,i,none⟩) (by show bb≠mb;omega) _,yA h.bx.rd (p:=⟨mb,i,none⟩) (by show g≠mb;omega) _,h.bx.own.xAm (p:=⟨mb,i,none⟩) _ h.ne,h.bx.tn.set (p:=⟨mb,i,none⟩) (.inr (by show w.heap.size<=mb;omega)) _,h.bx.hg,h.bx.hb⟩,
  by have:=xY h.m i z;rw[e] at this;exact this,h.hm,h.ne⟩
end
theorem xV.xEe {α:Type} {e:TypeId} {k:Nat} {f:α->List Value} {w:World} {base:Nat} {v:Value} {l:List α} (h:xV e k f w base v l) {g:Nat} (xs:List Value) (i:Nat) (hg:v.ownBlock≠some g):xV e k f (SV.xU g i xs w) base v l:=by
 refine⟨h.1,?_⟩;rcases h.2 with hn|⟨g',cap,cur,h1,h2,h3,h4⟩
 ·exact .inl hn
 ·exact .inr ⟨g',cap,cur,h1,h2,xM (λe=>hg (by rw[h1,e];rfl)) xs i _ h3,h4⟩
theorem xZz (g:Nat) (r:RdP) (w:World) (h:w.heap[g]?=some (rdO r)) (hl:r.rest.length<=1000000):
  Calls Tryz.prog 91 #[.pointer (some ⟨g,0,none⟩)] w λe w'=>∃A c,e=.returned (.agg #[xO (xMw r).name,.int .i64 (xMw r).validity,.int .i64 (xMw r).next,.slice A (xMw r).yB.length c])/\xV 122 4 maF w' w.heap.size (.slice A (xMw r).yB.length c) (xMw r).yB/\xQy g (xKf r) w w':=by
 have hg:=xG h
 have HO:Hid ((w.alloc (yCm [] 0 0 (.slice none 0 0))).heap[w.heap.size]?=some (yCm [] 0 0 (.slice none 0 0))/\(w.alloc (yCm [] 0 0 (.slice none 0 0))).heap[g]?=some (rdO r)/\Tn (λk=>k=g) w (w.alloc (yCm [] 0 0 (.slice none 0 0)))):=ι ⟨xL _ _,xK h _,(Tn.refl _ _).alloc _⟩
 have HTX:=ι (λW (h:W.heap[g]?=some (rdO r))=>xL4 g r W h hl);have HNU:=ι (λ(r':RdP) (c:Nat) W (h:W.heap[g]?=some (rdO r')) (hl':r'.rest.length<=r.rest.length) (hc:c<=4)=>xC4 g r' c W h (Nat.le_trans hl' hl) hc)
 have HV:Hid (xMw r=⟨xYw r,zR (xKc r) 4,zR (rdR (xKc r) 4) 4,xAq xSj xJg (zR (xZ3 r) 1) (rdR (xZ3 r) 1)⟩/\xKf r=xAr xJg (zR (xZ3 r) 1) (rdR (xZ3 r) 1)/\xZ3 r=rdR (rdR (xKc r) 4) 4):=ι ⟨rfl,rfl,rfl⟩
 have HL1:Hid ((xKc r).rest.length<=r.rest.length):=ι (Nat.le_trans (vK _ _) (vK _ _));have HGG:=ι hg;obtain⟨bv,hbv⟩:∃bv,xMw r=bv:=⟨_,rfl⟩;obtain⟨br,hbr⟩:∃br,xKf r=br:=⟨_,rfl⟩;rw[hbv,hbr];rw[hbv,hbr] at HV;generalize xKc r=r1 at HTX HV HL1;generalize xYw r=nm at HTX HV
 clear h hl hg hbv hbr;go_enter Tryz.func91,Tryz.ntmps91;go_upto_region 1 with fail
 go_wp2_with fail
 refine(HTX.o _ HO.o.2.1).mono ?_;rintro e w1 ⟨rfl,ht⟩
 have hB1:BxM w g w1.heap.size nm 0 0 (.slice none 0 0) (.slice none 0 0) [] r1 (w1.alloc (yCm nm 0 0 (.slice none 0 0))):=by
  have hgg:=HGG.o;have hsz:=ht.tn.size;simp at hsz;exact⟨xK (ht.tn.blk HO.o.1 ω) _,xL _ _,xK ht.b _,xV.nil _ _,(HO.o.2.2.trans ht.tn).alloc _,hgg,ω⟩
 have HB1:=ι hB1;clear hB1 ht HO HTX HGG;go_upto_region 2 with fail
 obtain⟨bb,hbb⟩:∃bb,w1.heap.size=bb:=⟨_,rfl⟩;rw[hbb] at HB1⊢;generalize w1.alloc (.cells #[xO nm,.int .i64 0,.int .i64 0,.slice none 0 0] 68)=w2 at HB1⊢;clear hbb;have HN:=ι (HNU.o r1 4 w2 HB1.o.rd HL1.o ω);rw[show(((4:Nat)):Int)=4 from rfl] at HN;go_wp2_with fail
 refine HN.o.mono ?_;rintro e wa ⟨rfl,ht⟩;have HA:=ι (HB1.o.turn ht);clear ht HN HB1;have c0:=xA HA.o.b 1;have y0:=xC HA.o.b 1;simp only[gA,gB,gC] at c0;go_upto_region 3 with fail
 have HB3:=ι (HA.o.kE ((zR r1 4:Nat):Int));clear c0 y0 HA;generalize wa.setCell ⟨bb,1,none⟩ (.int .i64 ((zR r1 4:Nat):Int))=w3 at HB3⊢;have HL2:Hid ((rdR r1 4).rest.length<=r.rest.length):=ι (Nat.le_trans (vK _ _) HL1.o);have HN:=ι (HNU.o (rdR r1 4) 4 w3 HB3.o.rd HL2.o ω)
 rw[show(((4:Nat)):Int)=4 from rfl] at HN;go_wp2_with fail
 refine HN.o.mono ?_;rintro e wa ⟨rfl,ht⟩;have HA:=ι (HB3.o.turn ht);clear ht HN HB3;have c0:=xA HA.o.b 2;have y0:=xC HA.o.b 2;simp only[gA,gB,gC] at c0;go_upto_region 4 with fail
 have HB4:=ι (HA.o.xRy ((zR (rdR r1 4) 4:Nat):Int));clear c0 y0 HA;generalize wa.setCell ⟨bb,2,none⟩ (.int .i64 ((zR (rdR r1 4) 4:Nat):Int))=w4 at HB4⊢;have HL3:Hid ((rdR (rdR r1 4) 4).rest.length<=r.rest.length):=ι (Nat.le_trans (vK _ _) HL2.o);rw[HV.o.2.2] at HV
 generalize zR r1 4=va at HB4 HV;generalize zR (rdR r1 4) 4=vx at HB4 HV;generalize rdR (rdR r1 4) 4=r3 at HB4 HV HL3;have HN:=ι (HNU.o r3 1 w4 HB4.o.rd HL3.o ω);rw[show(((1:Nat)):Int)=1 from rfl] at HN;go_wp2_with fail
 refine HN.o.mono ?_;rintro e w5 ⟨rfl,ht⟩;have HB5:=ι (HB4.o.turn ht);have HL5:Hid ((rdR r3 1).rest.length<=r.rest.length):=ι (Nat.le_trans (vK _ _) HL3.o);have hcn:=xNx r3;clear ht HN HB4 HL2 HL1;generalize zR r3 1=cn at HV hcn;generalize rdR r3 1=r5 at HB5 HL5 HV
 go_wp2_with fail
 go_loopw [16] (λiv wr=>∃(k:Nat) (u_:Value) (L:List uH) (rk:RdP),k<=cn/\iv=.int .i64 k/\Hid (BxM w g bb nm va vx u_ u_ L rk wr/\xHm xSj xJg r5 k L rk/\rk.rest.length<=r.rest.length/\L.length<=k)) (λiv _=>cn- (intOf iv).toNat)
 case atStart=>exact⟨0,_,[],r5,Nat.zero_le _,rfl,ι ⟨HB5.o,xG5 _ _ _,HL5.o,Nat.le_refl _⟩⟩
 case round=>
  obtain⟨k,u_,L,rk,hk,rfl,HI⟩:=hrel;clear HB5
  by_cases hlt:k<cn
  ·cases hbad:rk.bad with
   |true=>
    have hr:=xA HI.o.1.rd 1;simp only[gA,gB,gC] at hr;rw[hbad] at hr;have HE:=ι (And.intro HI.o.1 (xJf HI.o.2.1 hk hbad));clear hbad HI;go_upto_region 13 with fail
    clear hr;obtain⟨wz,hwz⟩:∃wz,wz=wr:=⟨_,rfl⟩;rw[<-hwz] at HE⊢;clear hwz;obtain⟨A7,c7,hmv,_⟩:=HE.o.1.own.form;subst hmv;have hbb:=HE.o.1.b;obtain⟨d0,d1,d2,d3⟩:=cbl4 hbb
    obtain⟨o0,y0,f0,o1,y1,f1,o2,y2,f2,o3,y3,f3,HB⟩:=cpl4 HE.o.1.o ((Below.refl w.heap.size wz)) ω (xO nm) (.int .i64 (va:Nat)) (.int .i64 (vx:Nat)) (.slice A7 L.length c7) _ rfl
    have HTN:=ι (xFv (P:=λk=>k=g) (a:=w) (b:=w.heap.size) (.inr ν) [xO nm,.int .i64 (va:Nat),.int .i64 (vx:Nat),.slice A7 L.length c7] 0 wz HE.o.1.tn)
    have HRB:=ι (xM (b:=w.heap.size) (g:=g) (by have:=HE.o.1.hg;omega) [xO nm,.int .i64 (va:Nat),.int .i64 (vx:Nat),.slice A7 L.length c7] 0 wz HE.o.1.rd)
    have HOW:=ι (xV.xEe HE.o.1.own (g:=w.heap.size) [xO nm,.int .i64 (va:Nat),.int .i64 (vx:Nat),.slice A7 L.length c7] 0 (xV.neT HE.o.1.own HE.o.1.o δ));simp only[xU,Nat.reduceAdd] at HTN HRB HOW;have HMV:=HE.o.2;rw[HMV.1] at HV;rw[HMV.2] at HV;clear HE hbb HMV;go_wp2
    refine bodyPost_ret (v:=.agg #[xO nm,.int .i64 (va:Nat),.int .i64 (vx:Nat),.slice A7 L.length c7]) (by simp[results,Tryz.results91,go_sem,f0,f1,f2,f3]) rfl ?_;rw[HV.o.1,HV.o.2.1];exact⟨_,_,rfl,HOW.o,HRB.o,HTN.o⟩
   |false=>
    have HN:=ι (HNU.o rk 4 wr HI.o.1.rd HI.o.2.2.1 ω);rw[show(((4:Nat)):Int)=4 from rfl] at HN;have hr:=xA HI.o.1.rd 1;simp only[gA,gB,gC] at hr;rw[hbad] at hr;have HBD:=ι hbad;clear hbad;go_wp2_with fail
    clear hr;refine HN.o.mono ?_;rintro e wa ⟨rfl,ht⟩;have hA:=HI.o.1.turn ht
    have HM0:=ι (show MbM w g bb nm va vx u_ u_ L wa.heap.size ⟨((zR rk 4:Nat):Int),0,0,0⟩ (rdR rk 4) (wa.alloc (maO ⟨((zR rk 4:Nat):Int),0,0,0⟩)) from⟨hA.below ((Below.refl _ _).alloc ν _),xL _ _,xG hA.b,λe=>by have:=(World.ownsRow.lt hA.own.row _ e).2;omega⟩)
    have HI2:=ι HI.o.2;clear ht HN HI hA;go_upto_region 8 with fail
    obtain⟨mb,hmb⟩:∃mb,wa.heap.size=mb:=⟨_,rfl⟩;rw[hmb] at HM0⊢;generalize wa.alloc (.cells #[.int .i64 ((zR rk 4:Nat):Int),.int .i64 0,.int .i64 0,.int .i64 0] 122)=wb at HM0⊢;clear hmb;have HR1:Hid ((rdR rk 4).rest.length<=r.rest.length):=ι (Nat.le_trans (vK _ _) HI2.o.2.1)
    have HR2:Hid ((rdR (rdR rk 4) 1).rest.length<=r.rest.length):=ι (Nat.le_trans (vK _ _) HR1.o);have HR3:Hid ((rdR (rdR (rdR rk 4) 1) 4).rest.length<=r.rest.length):=ι (Nat.le_trans (vK _ _) HR2.o);have HN:=ι (HNU.o (rdR rk 4) 1 wb HM0.o.bx.rd HR1.o ω)
    rw[show(((1:Nat)):Int)=1 from rfl] at HN;go_wp2_with fail
    refine HN.o.mono ?_;rintro e wa ⟨rfl,ht⟩;have HA:=ι (HM0.o.turn ht);clear ht HN HM0;have c0:=xA HA.o.m 1;have y0:=xC HA.o.m 1;simp only[gA,gB,gC] at c0;go_upto_region 9 with fail
    have HM1:=ι (HA.o.put 1 (.int .i64 ((zR (rdR rk 4) 1:Nat):Int)) ⟨((zR rk 4:Nat):Int),((zR (rdR rk 4) 1:Nat):Int),0,0⟩ rfl);clear c0 y0 HA;generalize wa.setCell ⟨mb,1,none⟩ (.int .i64 ((zR (rdR rk 4) 1:Nat):Int))=wc at HM1⊢
    have HN:=ι (HNU.o (rdR (rdR rk 4) 1) 4 wc HM1.o.bx.rd HR2.o ω);rw[show(((4:Nat)):Int)=4 from rfl] at HN;go_wp2_with fail
    refine HN.o.mono ?_;rintro e wa ⟨rfl,ht⟩;have HA:=ι (HM1.o.turn ht);clear ht HN HM1;have c0:=xA HA.o.m 2;have y0:=xC HA.o.m 2;simp only[gA,gB,gC] at c0;go_upto_region 10 with fail
    have HM2:=ι (HA.o.put 2 (.int .i64 ((zR (rdR (rdR rk 4) 1) 4:Nat):Int)) ⟨((zR rk 4:Nat):Int),((zR (rdR rk 4) 1:Nat):Int),((zR (rdR (rdR rk 4) 1) 4:Nat):Int),0⟩ rfl);clear c0 y0 HA;generalize wa.setCell ⟨mb,2,none⟩ (.int .i64 ((zR (rdR (rdR rk 4) 1) 4:Nat):Int))=wd at HM2⊢
    have HN:=ι (HNU.o (rdR (rdR (rdR rk 4) 1) 4) 2 wd HM2.o.bx.rd HR3.o ω);rw[show(((2:Nat)):Int)=2 from rfl] at HN;go_wp2_with fail
    refine HN.o.mono ?_;rintro e wa ⟨rfl,ht⟩;have HA:=ι (HM2.o.turn ht);clear ht HN HM2;have c0:=xA HA.o.m 3;have y0:=xC HA.o.m 3;simp only[gA,gB,gC] at c0;go_upto_region 11 with fail
    have HM3:=ι (HA.o.put 3 (.int .i64 ((zR (rdR (rdR (rdR rk 4) 1) 4) 2:Nat):Int)) ⟨((zR rk 4:Nat):Int),((zR (rdR rk 4) 1:Nat):Int),((zR (rdR (rdR rk 4) 1) 4:Nat):Int),((zR (rdR (rdR (rdR rk 4) 1) 4) 2:Nat):Int)⟩ rfl);clear c0 y0 HA
    generalize wa.setCell ⟨mb,3,none⟩ (.int .i64 ((zR (rdR (rdR (rdR rk 4) 1) 4) 2:Nat):Int))=we at HM3⊢;have HNX:=ι (xG6 HI2.o.1 HBD.o);have HLN:=ι (Nat.le_trans (xLn rk) HI2.o.2.1)
    have HVV:Hid (xSj rk=⟨((zR rk 4:Nat):Int),((zR (rdR rk 4) 1:Nat):Int),((zR (rdR (rdR rk 4) 1) 4:Nat):Int),((zR (rdR (rdR (rdR rk 4) 1) 4) 2:Nat):Int)⟩/\xJg rk=rdR (rdR (rdR (rdR rk 4) 1) 4) 2):=ι ⟨rfl,rfl⟩;rw[<-HVV.o.1,<-HVV.o.2] at HM3;have hme:=HM3.o.m;rw[HVV.o.1] at hme
    simp only[maO] at hme;obtain⟨e0,e1,e2,e3⟩:=cbl4 hme;have hbb:=HM3.o.bx.b;have b3:=xA hbb 3;simp only[gA,gB,gC] at b3
    have HMF:Hid (maF (xSj rk)=[.int .i64 ((zR rk 4:Nat):Int),.int .i64 ((zR (rdR rk 4) 1:Nat):Int),.int .i64 ((zR (rdR (rdR rk 4) 1) 4:Nat):Int),.int .i64 ((zR (rdR (rdR (rdR rk 4) 1) 4) 2:Nat):Int)]):=ι (by rw[HVV.o.1]);generalize xSj rk=mk at HNX HM3 HMF
    generalize xJg rk=rn at HNX HM3 HLN;generalize zR rk 4=n0 at e0 HMF;generalize zR (rdR rk 4) 1=n1 at e1 HMF;generalize zR (rdR (rdR rk 4) 1) 4=n2 at e2 HMF;generalize zR (rdR (rdR (rdR rk 4) 1) 4) 2=n3 at e3 HMF;have HB:=ι HM3.o.bx;have HLL:=ι HI2.o.2.2
    clear hme hbb HM3 HVV HR1 HR2 HR3 HI2 HBD;obtain⟨A6,c6,hu,_⟩:=HB.o.own.form
    have HAD:Hid (∀v8 w8,qP 122 4 maF (we.alloc (.cells #[.int .i64 (n0:Nat),.int .i64 (n1:Nat),.int .i64 (n2:Nat),.int .i64 (n3:Nat)] 122)) w8 w.heap.size u_ v8 (L++[mk])->Hid (BxM w g bb nm va vx v8 v8 (L++[mk]) rn (w8.setCell ⟨bb,3,none⟩ v8)/\w8.heap[bb]?=some (yCm nm va vx u_))):=ι λv8 w8 h8=>ι (by
     have ha:=BxM.app (HB.o.below ((Below.refl we.heap.size we).alloc ν _)) h8;exact⟨ha.put3 v8,ha.b⟩)
    have HO:=ι (And.intro HB.o.own HB.o.tn.size);subst hu;clear HB
    go_wp2_with (at_builtin;refine zY tyMa rfl _ _ rfl rfl rfl (HO.o.1.alloc _) (RdR.lit (m:=[mk]) xC7 _ _ (by rw[List.flatMap_cons,List.flatMap_nil,List.append_nil,HMF.o])) (by have:=HLL.o;simp;omega) (by have:=HO.o.2;simp;omega) ?_;intro v8 w8 h8;obtain⟨A8,c8,hv8,_⟩:=h8.own.form;rw[show(L++[mk]).length=L.length+1 by simp] at hv8;subst hv8;have HA8:=HAD.o _ _ h8;have s8:=xA HA8.o.2 3;have y8:=xC HA8.o.2 3;simp only[gA,gB,gC] at s8;clear h8)
    exact⟨⟨k+1,_,L++[mk],rn,ω,by go_num,ι ⟨HA8.o.1,HNX.o,HLN.o,by have:=HLL.o;simp;omega⟩⟩,by simp[intOf];omega⟩
  ·obtain rfl:k=cn:=by omega
   have HE:=ι (And.intro HI.o.1 (xG7 HI.o.2.1));clear HI;go_upto_region 13 with fail
   obtain⟨wz,hwz⟩:∃wz,wz=wr:=⟨_,rfl⟩;rw[<-hwz] at HE⊢;clear hwz;obtain⟨A7,c7,hmv,_⟩:=HE.o.1.own.form;subst hmv;have hbb:=HE.o.1.b;obtain⟨d0,d1,d2,d3⟩:=cbl4 hbb
   obtain⟨o0,y0,f0,o1,y1,f1,o2,y2,f2,o3,y3,f3,HB⟩:=cpl4 HE.o.1.o ((Below.refl w.heap.size wz)) ω (xO nm) (.int .i64 (va:Nat)) (.int .i64 (vx:Nat)) (.slice A7 L.length c7) _ rfl
   have HTN:=ι (xFv (P:=λk=>k=g) (a:=w) (b:=w.heap.size) (.inr ν) [xO nm,.int .i64 (va:Nat),.int .i64 (vx:Nat),.slice A7 L.length c7] 0 wz HE.o.1.tn)
   have HRB:=ι (xM (b:=w.heap.size) (g:=g) (by have:=HE.o.1.hg;omega) [xO nm,.int .i64 (va:Nat),.int .i64 (vx:Nat),.slice A7 L.length c7] 0 wz HE.o.1.rd)
   have HOW:=ι (xV.xEe HE.o.1.own (g:=w.heap.size) [xO nm,.int .i64 (va:Nat),.int .i64 (vx:Nat),.slice A7 L.length c7] 0 (xV.neT HE.o.1.own HE.o.1.o δ));simp only[xU,Nat.reduceAdd] at HTN HRB HOW;have HMV:=HE.o.2;rw[HMV.1] at HV;rw[HMV.2] at HV;clear HE hbb HMV;go_wp2
   refine bodyPost_ret (v:=.agg #[xO nm,.int .i64 (va:Nat),.int .i64 (vx:Nat),.slice A7 L.length c7]) (by simp[results,Tryz.results91,go_sem,f0,f1,f2,f3]) rfl ?_;rw[HV.o.1,HV.o.2.1];exact⟨_,_,rfl,HOW.o,HRB.o,HTN.o⟩
end Go.Proofs.IX
namespace Go.Proofs.IX
open Go.RowKit Mailsack MM BB SH SV RK DS
structure wW where
 b:jV
 A:Option Addr
 c:Nat
abbrev wW.mv (p:wW):Value:=.slice p.A p.b.yB.length p.c
abbrev bxF (p:wW):List Value:=[xO p.b.name,.int .i64 p.b.validity,.int .i64 p.b.next,p.mv]
abbrev bxV (p:wW):Value:=.agg #[xO p.b.name,.int .i64 p.b.validity,.int .i64 p.b.next,p.mv]
theorem pQ (p:wW):(bxF p).length=4:=rfl
theorem yFa (x:wW):∀u∈bxF x,u.oneCell'=true:=by
 intro u hu;simp only[bxF,List.mem_cons,List.not_mem_nil,or_false] at hu;rcases hu with rfl|rfl|rfl|rfl<;>rfl
theorem infoBx:(Tryz.prog.info? 68).map (λi=>(i.zero,i.size,i.bytes))=some (some (.agg #[.string ⟨#[]⟩,.int .i64 0,.int .i64 0,.slice none 0 0]),4,56):=by kernel_rfl
theorem tyBx:xYp Tryz.prog 26 68 4 56 bxF:=by
 obtain⟨i,hi,hz,hs,hb⟩:=vM infoBx;exact⟨Tryz.underlying26,⟨i,_,hi,hz,hs,hb,rfl⟩,ω,ω,pQ,yFa⟩
abbrev txF (s:Bs):List Value:=[xO s]
theorem xC3 (s:Bs):(txF s).length=1:=rfl
theorem yD4 (x:Bs):∀u∈txF x,u.oneCell'=true:=by
 intro u hu;rw[List.mem_singleton.1 hu];rfl
theorem infoTx:(Tryz.prog.info? 9).map (λi=>(i.zero,i.size,i.bytes))=some (some (.string ⟨#[]⟩),1,16):=by kernel_rfl
theorem tyTx:xYp Tryz.prog 22 9 1 16 txF:=by
 obtain⟨i,hi,hz,hs,hb⟩:=vM infoTx;exact⟨Tryz.underlying22,⟨i,_,hi,hz,hs,hb,rfl⟩,ω,ω,xC3,yD4⟩
theorem xP8 {w:World} {B:Nat} {v:Value} {l:List Bs} (h:RdR 1 txF w B v l):RdS w B v l:=by
 obtain⟨A,c,h1,h2,h3⟩:=h;refine⟨A,c,h1,h2,λhn=>?_⟩;obtain⟨b,off,h4,h5,h6⟩:=h3 hn;refine⟨b,off,h4,h5,λj x hx=>?_⟩;have:=h6 j x hx 0 _ rfl;rw[Nat.mul_one,Nat.add_zero] at this;exact this
theorem xK4 {w:World} {B:Nat} {v:Value} {l:List wW} (h:RdR 4 bxF w B v l) (hm:∀p∈l,vG w B p.mv p.b.yB):jU w B v (l.map (·.b)):=by
 obtain⟨A,c,h1,h2,h3⟩:=h;refine⟨A,c,by rw[List.length_map];exact h1,by rw[List.length_map];exact h2,λhn=>?_⟩;obtain⟨b,off,h4,h5,h6⟩:=h3 (by simpa using hn);refine⟨b,off,h4,h5,λj x hx=>?_⟩;rw[List.getElem?_map] at hx;obtain⟨p,hp,rfl⟩:=Option.map_eq_some_iff.1 hx
 exact⟨p.mv,h6 j p hp 0 _ rfl,h6 j p hp 1 _ rfl,h6 j p hp 2 _ rfl,h6 j p hp 3 _ rfl,hm p (List.mem_of_getElem? hp)⟩
theorem xV.rE {α:Type} {e:TypeId} {k:Nat} {f:α->List Value} {w w':World} {base:Nat} {v:Value} {l:List α} (h:xV e k f w base v l) (hk:∀(g:Nat) cs,w.heap[g]?=some (.cells cs e (0,0))->w'.heap[g]?=some (.cells cs e (0,0))):xV e k f w' base v l:=by
 refine⟨h.1,?_⟩;rcases h.2 with hn|⟨g,cap,cur,h1,h2,h3,h4⟩
 ·exact .inl hn
 ·exact .inr ⟨g,cap,cur,h1,h2,hk g _ h3,h4⟩
abbrev ixO (a b:Value) (n:Int):Obj:=.cells #[a,b,.int .i64 n] 28
structure TkI (w:World) (g xb:Nat) (cb cs ob os:Value) (bl:List wW) (sl:List Bs) (n:Int) (r:RdP) (W:World):Prop where
 o:W.heap[w.heap.size]?=some (ixO (.slice none 0 0) (.slice none 0 0) 0)
 x:W.heap[xb]?=some (ixO cb cs n)
 rd:W.heap[g]?=some (rdO r)
 bo:xV 68 4 bxF W w.heap.size ob bl
 ma:∀p∈bl,xV 122 4 maF W w.heap.size p.mv p.b.yB
 su:xV 9 1 txF W w.heap.size os sl
 bel:Below w.heap.size w W
 hg:w.heap.size<g
 hx:g<xb
section
variable {w W W':World} {g xb:Nat} {cb cs ob os:Value} {bl:List wW} {sl:List Bs} {n:Int} {r r':RdP}
theorem TkI.below (h:TkI w g xb cb cs ob os bl sl n r W) (hb:Below W.heap.size W W'):TkI w g xb cb cs ob os bl sl n r W':=
 ⟨xB h.o hb (xG h.o),xB h.x hb (xG h.x),xB h.rd hb (xG h.rd),h.bo.below hb,λp hp=>(h.ma p hp).below hb,h.su.below hb,h.bel.trans (hb.mono h.bel.size),h.hg,h.hx⟩
theorem TkI.turn (h:TkI w g xb cb cs ob os bl sl n r W) (ht:xQy g r' W W'):TkI w g xb cb cs ob os bl sl n r' W':=by
 have h1:=h.hg;have h2:=h.hx
 have hne:∀(e:TypeId) (q:Nat) cs',e≠148->W.heap[q]?=some (.cells cs' e (0,0))->q≠g:=λe q cs' he hq hqg=>by
  subst hqg;rw[h.rd] at hq;injection hq with hq;injection hq with _ hq;exact he hq.symm
 exact⟨ht.tn.blk h.o ω,ht.tn.blk h.x ω,ht.b,xV.rE h.bo λq cs' hq=>ht.tn.blk hq (hne _ q cs' δ hq),λp hp=>xV.rE (h.ma p hp) λq cs' hq=>ht.tn.blk hq (hne _ q cs' δ hq),xV.rE h.su λq cs' hq=>ht.tn.blk hq (hne _ q cs' δ hq),h.bel.trans (ht.tn.below (λk hk=>by omega) h.bel.size),h.hg,h.hx⟩
theorem TkI.cell (h:TkI w g xb cb cs ob os bl sl n r W) (i:Nat) (v cb' cs':Value) (e:(#[cb,cs,Value.int .i64 n]:Array Value).setIfInBounds i v=#[cb',cs',.int .i64 n]):TkI w g xb cb' cs' ob os bl sl n r (W.setCell ⟨xb,i,none⟩ v):=by
 have h1:=h.hg;have h2:=h.hx
 have hne:∀(e:TypeId) (q:Nat) cs',e≠28->W.heap[q]?=some (.cells cs' e (0,0))->q≠xb:=λe q cs' he hq hqg=>by
  subst hqg;rw[h.x] at hq;injection hq with hq;injection hq with _ hq;exact he hq.symm
 have hs:=xY h.x i v;rw[e] at hs
 exact⟨yA h.o (p:=⟨xb,i,none⟩) (by show w.heap.size≠xb;omega) _,hs,yA h.rd (p:=⟨xb,i,none⟩) (by show g≠xb;omega) _,xV.rE h.bo λq cs' hq=>yA hq (p:=⟨xb,i,none⟩) (hne _ q cs' δ hq) _,λp hp=>xV.rE (h.ma p hp) λq cs' hq=>yA hq (p:=⟨xb,i,none⟩) (hne _ q cs' δ hq) _,xV.rE h.su λq cs' hq=>yA hq (p:=⟨xb,i,none⟩) (hne _ q cs' δ hq) _,h.bel.setCell (p:=⟨xb,i,none⟩) (by show w.heap.size<=xb;omega) _,h.hg,h.hx⟩
theorem TkI.appB {p:wW} {ob':Value} (h:TkI w g xb cb cs ob os bl sl n r W) (ha:qP 68 4 bxF W W' w.heap.size ob ob' (bl++[p])) (hp:xV 122 4 maF W w.heap.size p.mv p.b.yB):TkI w g xb cb cs ob' os (bl++[p]) sl n r W':=
 ⟨ha.keep h.o (xV.neT h.bo h.o δ),ha.keep h.x (xV.neT h.bo h.x δ),ha.keep h.rd (xV.neT h.bo h.rd δ),ha.own,λq hq=>by
  rcases List.mem_append.1 hq with hq|hq
  ·exact xV.rE (h.ma q hq) λq cs' hq=>ha.keep hq (xV.neT h.bo hq δ)
  ·rw[List.mem_singleton.1 hq];exact xV.rE hp λq cs' hq=>ha.keep hq (xV.neT h.bo hq δ),xV.rE h.su λq cs' hq=>ha.keep hq (xV.neT h.bo hq δ),ha.bel h.bo ν h.bel h.bel.size,h.hg,h.hx⟩
theorem TkI.appS {s:Bs} {os':Value} (h:TkI w g xb cb cs ob os bl sl n r W) (ha:qP 9 1 txF W W' w.heap.size os os' (sl++[s])):TkI w g xb cb cs ob os' bl (sl++[s]) n r W':=
 ⟨ha.keep h.o (xV.neT h.su h.o δ),ha.keep h.x (xV.neT h.su h.x δ),ha.keep h.rd (xV.neT h.su h.rd δ),xV.rE h.bo λq cs' hq=>ha.keep hq (xV.neT h.su hq δ),λq hq=>xV.rE (h.ma q hq) λq cs' hq=>ha.keep hq (xV.neT h.su hq δ),ha.own,ha.bel h.su ν h.bel h.bel.size,h.hg,h.hx⟩
end
structure uT (base:Nat) (w:World) (bv sv:Value) (x:yD):Prop where
 bo:∃bl:List wW,x.boxes=bl.map (·.b)/\xV 68 4 bxF w base bv bl/\∀p∈bl,xV 122 4 maF w base p.mv p.b.yB
 su:xV 9 1 txF w base sv x.subs
section
variable {w w':World} {base:Nat} {bv sv:Value} {x:yD}
theorem uT.rd (h:uT base w bv sv x):xHk w w.heap.size bv sv x:=by
 obtain⟨bl,e,h1,h2⟩:=h.bo;refine⟨?_,xP8 (h.su.rd xC3)⟩;rw[e];exact xK4 (h1.rd pQ) (λp hp=>xFa ((h2 p hp).rd xC7))
theorem uT.below (h:uT base w bv sv x) (hb:Below w.heap.size w w'):uT base w' bv sv x:=by
 obtain⟨bl,e,h1,h2⟩:=h.bo;exact⟨⟨bl,e,h1.below hb,λp hp=>(h2 p hp).below hb⟩,h.su.below hb⟩
theorem uT.less {base':Nat} (h:uT base w bv sv x) (hb:base'<=base):uT base' w bv sv x:=by
 obtain⟨bl,e,h1,h2⟩:=h.bo;exact⟨⟨bl,e,h1.less hb,λp hp=>(h2 p hp).less hb⟩,h.su.less hb⟩
theorem uT.set (h:uT base w bv sv x) {g:Nat} {cs:Array Value} {T:TypeId} {fr:Nat×Nat} (hg:w.heap[g]?=some (.cells cs T fr)) (h1:T≠68) (h2:T≠122) (h3:T≠9) (xs:List Value) (i:Nat):uT base (SV.xU g i xs w) bv sv x:=by
 obtain⟨bl,e,k1,k2⟩:=h.bo;exact⟨⟨bl,e,xV.xEe k1 xs i (xV.neT k1 hg h1),λp hp=>xV.xEe (k2 p hp) xs i (xV.neT (k2 p hp) hg h2)⟩,xV.xEe h.su xs i (xV.neT h.su hg h3)⟩
theorem uT.form (h:uT base w bv sv x):∃A1 n1 c1 A2 n2 c2,bv=.slice A1 n1 c1/\sv=.slice A2 n2 c2:=by
 obtain⟨bl,e,h1,h2⟩:=h.bo;obtain⟨A1,c1,e1,_⟩:=h1.form;obtain⟨A2,c2,e2,_⟩:=h.su.form;exact⟨A1,_,c1,A2,_,c2,e1,e2⟩
theorem uT.zero (w:World) (base:Nat):uT base w (.slice none 0 0) (.slice none 0 0) ix0:=⟨⟨[],rfl,xV.nil w base,λ_ h=>nomatch h⟩,xV.nil w base⟩
end
end Go.Proofs.IX
namespace Mailsack
theorem xUm {l:List Slot} {k:Nat} {t:Slot} (h:l[k]?=some t):usedNames (l.take (k+1))=usedNames (l.take k)++(if t.used=true then[t.name] else[]):=by
 unfold usedNames;rw[List.take_add_one,h,List.filter_append,List.map_append];cases hq:t.used with
 |true=>simp[hq]
 |false=>simp[hq]
theorem xP5 (l:List Slot) (k:Nat):(usedNames (l.take k)).length<=k:=by
 unfold usedNames;rw[List.length_map];have h1:=List.length_filter_le (λt:Slot=>t.used) (l.take k);have h2:=List.length_take_le k l;omega
end Mailsack
namespace Go.Proofs.ST
open Go.RowKit Go.Lib Mailsack MM BB SH SV RK DS IX
theorem yEw (l:List Bs):l.flatMap txF=l.map xO:=by
 induction l with
 |nil=>rfl
 |cons x l ih=>
  rw[List.flatMap_cons,List.map_cons,ih]
  rfl
theorem yDs {w:World} {base:Nat} {v:Value} {l:List Bs} (h:xV 9 1 txF w base v l):xR0 w base v l:=by
 unfold xR0;rw[<-yEw];exact h
structure NmM (w:World) (gl:Nat) (sl:List Slot) (v:Value) (L:List Bs) (W:World):Prop where
 sl:kN 137 qC W gl sl
 own:xV 9 1 txF W w.heap.size v L
 bel:Below w.heap.size w W
theorem NmM.below {w W W':World} {gl:Nat} {ts:List Slot} {v:Value} {L:List Bs} (h:NmM w gl ts v L W) (hb:Below W.heap.size W W'):NmM w gl ts v L W':=⟨h.sl.below hb,h.own.below hb,h.bel.trans (hb.mono h.bel.size)⟩
theorem xW5 (va vb:Value) (d:Dk) (w:World) (h:RdD w w.heap.size va vb d):
  Calls Tryz.prog 93 #[.agg #[va,vb]] w λe w'=>∃v,e=.returned v/\RdS w' w'.heap.size v (xAe d)/\Below w.heap.size w w':=by
 obtain⟨A1,c1,A2,c2,rfl,rfl⟩:=yE h;have HA:=ι ((Below.refl w.heap.size w).alloc ν (xX (.slice A1 d.secs.length c1) (.slice A2 d.cache.length c2)));have hD0:=xL w (xX (.slice A1 d.secs.length c1) (.slice A2 d.cache.length c2));obtain⟨d0,d1⟩:=zQ hD0;clear hD0
 have HCT:=ι (xB1 _ _ d _ ((h.below HA.o ν).more HA.o.size));have HN:Hid (xAe d=if vY d=true then Go.Lib.compact (tC (usedNames (yR (yG d).secs))) else[]):=ι rfl;have HFL:Hid (vY d=true->(yG d).secs.length=381/\∀s∈(yG d).secs,s.length=64):=ι xJr
 have HCP:Hid (∀v W,xR1 d v W->vY d=true->RdS W W.heap.size v (yG d).secs):=ι (λv W h=>h);obtain⟨np,hnp⟩:∃np,xAe d=np:=⟨_,rfl⟩;rw[hnp] at HN⊢;clear hnp h;cases hc:vY d with
 |false=>
  rw[hc] at HCT HN;rw[if_neg σ] at HN;clear hc HFL HCP;go_enter Tryz.func93,Tryz.ntmps93;go_wp2_with fail
  refine HCT.o.mono ?_;rintro e w1 ⟨v,rfl,_,hb⟩;have HB:=ι (HA.o.trans (hb.mono HA.o.size));clear hb HA HCT d0 d1;go_wp2;go_ret;exact⟨_,rfl,by rw[HN.o];exact⟨none,0,rfl,Nat.le_refl _,λh=>by simp at h⟩,HB.o⟩
 |true=>
  have qG:=ι (HFL.o hc);have xTs:=ι (λv W h=>HCP.o v W h hc);rw[hc] at HCT HN;rw[if_pos rfl] at HN;clear hc HFL HCP;generalize (yG d).secs=S at HN qG xTs;go_enter Tryz.func93,Tryz.ntmps93;go_wp2_with fail
  refine HCT.o.mono ?_;rintro e w1 ⟨v,rfl,hct,hb⟩;have HB1:=ι (HA.o.trans (hb.mono HA.o.size));have HSO:=ι (xFs v S w1 (xTs.o v w1 hct) qG.o.1 qG.o.2);obtain⟨A5,c5,rfl,_⟩:=xTs.o v w1 hct;clear hct hb HCT xTs d0 d1 HA;go_wp2_with fail
  refine HSO.o.mono ?_;rintro e w2 ⟨gl,rfl,hgl,hsl,hb2⟩;have HSL:=ι (kQ qG.o.1);have H0:Hid (NmM w gl (yR S) (.slice none 0 0) (usedNames ((yR S).take 0)) w2):=ι ⟨hsl,xV.nil _ _,HB1.o.trans (hb2.mono HB1.o.size)⟩;clear hsl hb2 hgl HSO HB1 qG;generalize yR S=sl at HN HSL H0
  go_wp2_with fail
  go_loopw [5,18] (λtv iv wr=>∃k:Nat,k<=32/\iv=.int .i64 k/\Hid (NmM w gl sl tv (usedNames (sl.take k)) wr)) (λ_ iv _=>32- (intOf iv).toNat)
  case atStart=>exact⟨0,Nat.zero_le _,rfl,H0⟩
  case round=>
   obtain⟨k,hk,rfl,HI⟩:=hrel;clear H0
   by_cases hlt:k<32
   ·obtain⟨x,hx⟩:∃x,sl[k]?=some x:=⟨_,List.getElem?_eq_getElem (by have:=HSL.o;omega)⟩;have q0:=HI.o.sl.cell zL (i:=0) hx rfl;have q1:=HI.o.sl.cell zL (i:=1) hx rfl;have q2:=HI.o.sl.cell zL (i:=2) hx rfl;have q3:=HI.o.sl.cell zL (i:=3) hx rfl
    have q4:=HI.o.sl.cell zL (i:=4) hx rfl;rw[Nat.add_zero] at q0;have HS:=ι (xUm hx);have HTL:=ι (xP5 sl k);have HA:=ι (HI.o.below ((Below.refl _ _).alloc ν (wO x)));have hbx:=xL wr (wO x);obtain⟨x0,x1,x2,x3,x4⟩:=xU2 hbx;generalize usedNames (sl.take k)=T at HI HS HTL HA
    clear hx hbx HI;go_upto_region 8 with fail
    clear q0 q1 q2 q3 q4;obtain⟨xu,xc,xb,xs,xn⟩:=x;simp only at HS HA x0 x1 x2 x3 x4;generalize wr.alloc (.cells #[.bool xu,.int .i64 xc,.int .i64 xb,.int .i64 xs,xO xn] 137)=w3 at HA x0 x1 x2 x3 x4⊢;cases xu with
    |true=>
     rw[if_pos rfl] at HS;go_upto_region 9 with fail
     have HAD:Hid (∀v8 w8,qP 9 1 txF (w3.alloc (.cells #[xO xn] 9)) w8 w.heap.size u5 v8 (T++[xn])->Hid (NmM w gl sl v8 (usedNames (sl.take (k+1))) w8)):=ι λv8 w8 h8=>ι (by
      have h9:=xK HA.o.sl.blk (.cells #[xO xn] 9);exact⟨h8.keep h9 (xV.neT (HA.o.own.alloc _) h9 δ),by rw[HS.o];exact h8.own,h8.bel (HA.o.own.alloc _) ν (HA.o.bel.alloc HA.o.bel.size _) (by have:=HA.o.bel.size;simp;omega)⟩)
     have hsz:=HA.o.bel.size;go_wp2_with (at_builtin;refine zY tyTx rfl _ _ rfl rfl rfl (HA.o.own.alloc _) (RdR.lit (m:=[xn]) xC3 _ _ rfl) (by have:=HTL.o;simp;omega) (by simp;omega) ?_;intro v8 w8 h8;have HA8:=HAD.o _ _ h8;clear h8)
     exact⟨⟨k+1,ω,by go_num,HA8⟩,by simp[intOf];omega⟩
    |false=>
     rw[if_neg σ,List.append_nil] at HS;have HA9:Hid (NmM w gl sl u5 (usedNames (sl.take (k+1))) w3):=ι (by rw[HS.o];exact HA.o);go_wp2;exact⟨⟨k+1,ω,by go_num,HA9⟩,by simp[intOf];omega⟩
   ·obtain rfl:k=32:=by omega
    have HE:Hid (usedNames (sl.take 32)=usedNames sl):=ι (by rw[List.take_of_length_le (by rw[HSL.o];omega)]);rw[HE.o] at HI;have HUL:Hid ((usedNames sl).length<=32):=ι (by rw[<-HE.o];exact xP5 sl 32);clear hlt hk HE HSL;have HSS:=ι (xVa (yDs HI.o.own) (by have:=HUL.o;omega))
    have HBI:=ι HI.o.bel;have HSRT:Hid ((tC (usedNames sl)).length<=32):=ι (by unfold tC;rw[List.length_mergeSort];exact HUL.o);clear HI HUL;generalize usedNames sl=us at HN HSS HSRT;go_wp2_with fail
    refine HSS.o.mono ?_;rintro e w4 ⟨rfl,hb4,hor⟩;have HB4:=ι (HBI.o.trans hb4);clear hb4 HSS HBI;rcases hor with ⟨h1,h2⟩|⟨g,c,h1,h2,h3,h4,h5⟩
    ·subst h1;rw[h2];have HCO:=ι (Tryz.slices_Compact_string_empty none 0 w4);rw[show Go.Lib.compact (tC ([]:List Bs))=[] by simp[tC,Go.Lib.compact,Go.Lib.compactUpTo]] at HN;clear h2;go_wp2_with fail
     refine HCO.o.mono ?_;rintro e w5 ⟨rfl,hw5⟩;rw[hw5];clear hw5 w5;go_wp2;go_ret;exact⟨_,rfl,by rw[HN.o];exact⟨none,0,rfl,Nat.le_refl _,λh=>by simp at h⟩,HB4.o⟩
    ·rw[h1];have HCO:=ι (xMf h5 h3 h4 (by have:=HSRT.o;omega) h2);clear h1 h2 h3 h4 h5;go_wp2_with fail
     refine HCO.o.mono ?_;rintro e w5 ⟨rfl,hr5,hb5⟩;have HR5:=ι (And.intro hr5 (HB4.o.trans hb5));clear hr5 hb5 HCO HB4;go_wp2;go_ret;exact⟨_,rfl,by rw[HN.o];exact HR5.o.1,HR5.o.2⟩
end Go.Proofs.ST
namespace Go.Proofs.SH
open Go.RowKit Mailsack MM BB SV
section
variable {w W W':World} {u pb yN xE xI:ByteArray} {a1 a2 a5 a6 a7:Value} {ep r:Int}
end
end Go.Proofs.SH
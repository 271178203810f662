/- Contracts of functions. Conditions: as stated. -/
import Derived.Test.YtnafbinmecekeaaGreatDoorImapSearchesProofB13
import Derived.Deep.RegionHeld3
open Go.Proofs.Tryz
set_option maxHeartbeats 8000000
set_option maxRecDepth 100000
namespace Go.Proofs.QU
open Go.RowKit Mailsack MM PT
abbrev tZ (ws:List Bs):Prop:=ws.length<=1000/\∀x∈ws,x.length<=1000
theorem tZ.tail {x:Bs} {r:List Bs} (h:tZ (x::r)):tZ r:=⟨by have:=h.1;simp at this;omega,λy hy=>h.2 y (List.mem_cons_of_mem _ hy)⟩
theorem tZ.head {x:Bs} {r:List Bs} (h:tZ (x::r)):x.length<=1000:=h.2 x σ
theorem Env.pos {q:Rg} {rb mb hi:Nat} {m:Int} {tab:List (Bs×Value)} {W:World} (h:Env q rb mb hi m tab W):2<q.lo/\2<q.one:=by have:=h.lo;have:=h.hi;have:=h.low;omega
theorem xQd (q:Rg) (rb mb:Nat) (_hq:q.has rb) (lv:Value) (b1 b2:Nat) (t m:Int) (W:World) (r:List Bs) (hr:rA rb mb W r) (_htp:q.hi<=W.heap.size/\q.one<W.heap.size) (n1:¬q.has b1) (n2:¬q.has b2) (h1:Bx W b1 3 (.int .i64 t)) (h2:Bx W b2 3 (.int .i64 m)):
  Calls prog 131 #[.pointer (some ⟨rb,0,none⟩),lv,.pointer (some ⟨b1,0,none⟩),.pointer (some ⟨b2,0,none⟩)] W (pE q rb mb W (some (.flags t m,r))):=by
 have Hr:=ι hr;have H1:=ι h1;have H2:=ι h2;clear hr h1 h2;go_enter func131,ntmps131;go_wp2;go_ret2;refine⟨Kp.refl _ _,_,rfl,⟨_,_,rfl,enters_of func132 κ rfl,λX hX v _=>?_⟩,Hr.o⟩;exact xMd b1 b2 t m v X (uP H1.o hX n1) (uP H2.o hX n2)
theorem xSp (g:Bool) (q:Rg) (rb mb:Nat) (hq:q.has rb) (lv:Value) (b1:Nat) (W:World) (r:List Bs) (hs:tZ r) (hr:rA rb mb W r) (htp:q.hi<=W.heap.size/\q.one<W.heap.size) (n1:¬q.has b1) (h1:Bx W b1 144 (.func (.func (if g then 56 else 57)) #[] #[])):
  Calls prog 133 #[.pointer (some ⟨rb,0,none⟩),lv,.pointer (some ⟨b1,0,none⟩)] W (pE q rb mb W (xKw (λx=>(xR9 x).map (.size g)) r)):=by
 have H1:=ι h1;clear h1;cases r with
 |nil=>
  have E1:=ι (jX rb mb W hr);have E2:=ι (wF ⟨#[]⟩ W δ);rw[show xR9 (⟨#[]⟩:ByteArray).data.toList=none from rfl] at E2;have HB:=ι (Kp.below (b:=nq rb) (φ W (.cells #[.int .i64 0] 3)));clear hr;go_enter func133,ntmps133;go_wp2_with fail
  refine E1.o.mono ?_;rintro e w2 ⟨rfl,rfl⟩;go_wp2_with fail
  refine E2.o.mono ?_;rintro e w2 ⟨rfl,rfl⟩;go_wp2;go_ret2;exact⟨HB.o,_,.inl rfl,rfl⟩
 |cons x r=>
  have E1:=ι (jE rb mb W x r (by have:=hs.1;simp at this;omega) hr);have hlt:=xJ hr.choose_spec.1;have E2:=ι (λX=>wF ⟨x.toArray⟩ X (by show x.length<=_;have:=hs.head;omega));simp only at E2;show Calls _ _ _ _ (pE q rb mb W (((xR9 x).map (.size g)).map λa=>(a,r)));clear hr
  cases hqn:xR9 x with
  |none=>
   rw[hqn] at E2;go_enter func133,ntmps133;go_wp2_with fail
   refine E1.o.mono ?_;rintro e w2 ⟨rfl,hr2,hk2⟩;have HK:=ι (hk2.trans (Kp.below (φ w2 (.cells #[.int .i64 0] 3))));clear hr2 hk2;go_wp2_with fail
   refine(E2.o _).mono ?_;rintro e w3 ⟨rfl,rfl⟩;go_wp2;go_ret2;exact⟨HK.o,_,.inl rfl,rfl⟩
  |some n=>
   rw[hqn] at E2;go_enter func133,ntmps133;go_wp2_with fail
   refine E1.o.mono ?_;rintro e w2 ⟨rfl,hr2,hk2⟩;have HB:=ι (φ w2 (.cells #[.int .i64 n] 3));have HK:=ι (hk2.trans (Kp.below HB.o));have HR:=ι (hr2.kept HB.o);have B1:=ι (xM (uP H1.o (hk2.widen hq) n1) (.cells #[.int .i64 n] 3));have B2:=ι (xI w2 (.cells #[.int .i64 n] 3))
   have hz:=hk2.size;clear hr2 hk2;go_wp2_with fail
   refine(E2.o _).mono ?_;rintro e w3 ⟨rfl,rfl⟩;go_wp2;go_ret2;refine⟨HK.o,_,rfl,⟨_,_,rfl,enters_of func135 κ rfl,λX hX v _=>?_⟩,HR.o⟩;exact xPc g b1 _ n v X (uP B1.o hX n1) (uP B2.o hX (λh=>by unfold Rg.has at h;omega))
theorem xQi (nm:Bs) (hn:nm.length<=1000) (q:Rg) (rb mb:Nat) (hq:q.has rb) (m:Int) (lv:Value) (b1:Nat) (W:World) (r:List Bs) (hs:tZ r) (hr:rA rb mb W r) (htp:q.hi<=W.heap.size/\q.one<W.heap.size) (h0:2<q.lo/\2<q.one) (hm:W.cell? ⟨2,0,none⟩=some (.int .i64 m)) (n1:¬q.has b1) (h1:Bx W b1 9 (xK nm)):
  Calls prog 136 #[.pointer (some ⟨rb,0,none⟩),lv,.pointer (some ⟨b1,0,none⟩)] W (pE q rb mb W (xKw (λx=>some (.field nm x)) r)):=by
 have hlt:=xJ hr.choose_spec.1;have hm0:=World.block_lt_of_cell? W _ hm;cases r with
 |nil=>
  have E1:=ι (jX rb mb W hr);have E2:=ι (kG nm [] ω σ m W hm);have k1:W.cell? ⟨b1,0,none⟩=some (xK nm):=xA h1 0;clear hr h1 hm;go_enter func136,ntmps136;go_wp2_with fail
  refine E1.o.mono ?_;rintro e w2 ⟨rfl,rfl⟩;go_wp2_with fail
  refine E2.o.mono ?_;rintro e w2 ⟨hb,v,rfl,hf,_⟩;have HB:=ι (Kp.below (b:=nq rb) hb);clear hb;go_wp2;go_ret2;exact⟨HB.o,_,hf,rfl⟩
 |cons x r=>
  have E1:=ι (jE rb mb W x r (by have:=hs.1;simp at this;omega) hr);have hx:=hs.head;have H1:=ι h1;have Hm:=ι hm;clear hr h1 hm;go_enter func136,ntmps136;go_wp2_with fail
  refine E1.o.mono ?_;rintro e w2 ⟨rfl,hr2,hk2⟩;have k1:w2.cell? ⟨b1,0,none⟩=some (xK nm):=xA (uP H1.o (hk2.widen hq) n1) 0;have E2:=ι (kG nm x ω ω m w2 ((rT (hk2.widen hq) hm0 (λe=>by unfold Rg.has at e;simp only at e;omega)).trans Hm.o));have HK:=ι hk2;have HR:=ι hr2
  have hz:=hk2.size;clear hr2 hk2;go_wp2_with fail
  refine E2.o.mono ?_;rintro e w3 ⟨hb,v,rfl,hf,hkey⟩;have HB:=ι (HK.o.trans (Kp.below hb));have HR3:=ι (HR.o.kept hb);have yCt:=ι (hkey q ω h0);clear hb hkey;go_wp2;go_ret2;exact⟨HB.o,_,rfl,yCt.o,HR3.o⟩
theorem xS9 (b:Bool) (q:Rg) (rb mb:Nat) (hq:q.has rb) (m:Int) (lv:Value) (b1:Nat) (W:World) (r:List Bs) (hs:tZ r) (hr:rA rb mb W r) (htp:q.hi<=W.heap.size/\q.one<W.heap.size) (h0:2<q.lo/\2<q.one) (hm:W.cell? ⟨2,0,none⟩=some (.int .i64 m)) (n1:¬q.has b1) (h1:Bx W b1 147 (.func (.func (xJ2 b)) #[] #[])):
  Calls prog 138 #[.pointer (some ⟨rb,0,none⟩),lv,.pointer (some ⟨b1,0,none⟩)] W (pE q rb mb W (xKw (λx=>some (.text b x)) r)):=by
 have hlt:=xJ hr.choose_spec.1;have hm0:=World.block_lt_of_cell? W _ hm;cases r with
 |nil=>
  have E1:=ι (jX rb mb W hr);have HB:=ι (Kp.below (b:=nq rb) (φ W (.cells #[.string ⟨#[]⟩] 9)));clear hr h1 hm;go_enter func138,ntmps138;go_wp2_with fail
  refine E1.o.mono ?_;rintro e w2 ⟨rfl,rfl⟩;go_wp2;go_ret2;exact⟨HB.o,_,.inr ⟨_,_,rfl⟩,rfl⟩
 |cons x r=>
  have E1:=ι (jE rb mb W x r (by have:=hs.1;simp at this;omega) hr);have hx:=hs.head;have H1:=ι h1;have Hm:=ι hm;clear hr h1 hm;go_enter func138,ntmps138;go_wp2_with fail
  refine E1.o.mono ?_;rintro e w2 ⟨rfl,hr2,hk2⟩;have HB:=ι (φ w2 (.cells #[xK x] 9));have HK:=ι (hk2.trans (Kp.below HB.o));have HR:=ι (hr2.kept HB.o);have B1:=ι (xM (uP H1.o (hk2.widen hq) n1) (.cells #[xK x] 9));have B2:=ι (xI w2 (.cells #[xK x] 9));have hz:=hk2.size
  clear hr2 hk2;go_wp2;go_ret2;refine⟨HK.o,_,rfl,⟨_,_,rfl,enters_of func139 κ rfl,λX hX v hg=>?_⟩,HR.o⟩;refine xP4 b b1 _ x m v X hg ω ?_ (uP B1.o hX n1) (uP B2.o hX (λh=>by unfold Rg.has at h;omega))
  exact(rT ((HK.o.widen hq).trans hX) hm0 (λe=>by unfold Rg.has at e;simp only at e;omega)).trans Hm.o
def xUa:List Bs->Option (vU×List Bs)
 |x::y::r=>some (.field x y,r)
 |_=>none
theorem xQa (q:Rg) (rb mb:Nat) (hq:q.has rb) (m:Int) (lv:Value) (W:World) (r:List Bs) (hs:tZ r) (hr:rA rb mb W r) (htp:q.hi<=W.heap.size/\q.one<W.heap.size) (h0:2<q.lo/\2<q.one) (hm:W.cell? ⟨2,0,none⟩=some (.int .i64 m)):
  Calls prog 59 #[.pointer (some ⟨rb,0,none⟩),lv] W (pE q rb mb W (xUa r)):=by
 have hlt:=xJ hr.choose_spec.1;have hm0:=World.block_lt_of_cell? W _ hm;rcases r with _|⟨x,_|⟨y,r⟩⟩
 ·show Calls _ _ _ _ (pE q rb mb W none);have E1:=ι (jX rb mb W hr);have E2:=ι (kG [] [] σ σ m W hm);clear hr hm;go_enter func59,ntmps59;go_wp2_with fail
  refine E1.o.mono ?_;rintro e w2 ⟨rfl,rfl⟩;go_wp2_with fail
  refine E1.o.mono ?_;rintro e w2 ⟨rfl,rfl⟩;go_wp2_with fail
  refine E2.o.mono ?_;rintro e w2 ⟨hb,v,rfl,hf,_⟩;have HB:=ι (Kp.below (b:=nq rb) hb);clear hb;go_wp2;go_ret2;exact⟨HB.o,_,hf,rfl⟩
 ·show Calls _ _ _ _ (pE q rb mb W none);have E1:=ι (jE rb mb W x [] σ hr);have hx:=hs.head;have Hm:=ι hm;clear hr hm;go_enter func59,ntmps59;go_wp2_with fail
  refine E1.o.mono ?_;rintro e w2 ⟨rfl,hr2,hk2⟩;have E3:=ι (jX rb mb w2 hr2);have E2:=ι (kG x [] ω σ m w2 ((rT (hk2.widen hq) hm0 (λe=>by unfold Rg.has at e;simp only at e;omega)).trans Hm.o));have HK:=ι hk2;clear hr2 hk2;go_wp2_with fail
  refine E3.o.mono ?_;rintro e w3 ⟨rfl,rfl⟩;go_wp2_with fail
  refine E2.o.mono ?_;rintro e w3 ⟨hb,v,rfl,hf,_⟩;have HB:=ι (HK.o.trans (Kp.below hb));clear hb;go_wp2;go_ret2;exact⟨HB.o,_,hf,rfl⟩
 ·show Calls _ _ _ _ (pE q rb mb W (some (.field x y,r)));have hrl:r.length<=1000:=by have h:=hs.1;rw[List.length_cons,List.length_cons] at h;omega
  have E1:=ι (jE rb mb W x (y::r) (by rw[List.length_cons];omega) hr);have hx:=hs.head;have hy:=hs.tail.head;have Hm:=ι hm;clear hr hm;go_enter func59,ntmps59;go_wp2_with fail
  refine E1.o.mono ?_;rintro e w2 ⟨rfl,hr2,hk2⟩;have E3:=ι (jE rb mb w2 y r ω hr2);have HK:=ι hk2;clear hr2 hk2;go_wp2_with fail
  refine E3.o.mono ?_;rintro e w3 ⟨rfl,hr3,hk3⟩;have HK3:=ι (HK.o.trans hk3);have E2:=ι (kG x y ω ω m w3 ((rT (HK3.o.widen hq) hm0 (λe=>by unfold Rg.has at e;simp only at e;omega)).trans Hm.o));have HR3:=ι hr3;have hz:=HK3.o.size;clear hr3 hk3;go_wp2_with fail
  refine E2.o.mono ?_;rintro e w4 ⟨hb,v,rfl,hf,hkey⟩;have HB:=ι (HK3.o.trans (Kp.below hb));have HR4:=ι (HR3.o.kept hb);have yCt:=ι (hkey q ω h0);clear hb hkey;go_wp2;go_ret2;exact⟨HB.o,_,rfl,yCt.o,HR4.o⟩
theorem yAd (q:Rg) (rb mb:Nat) (hq:q.has rb) (m:Int) (lv:Value) (W:World) (r:List Bs) (hs:tZ r) (hr:rA rb mb W r) (htp:q.hi<=W.heap.size/\q.one<W.heap.size) (h0:2<q.lo/\2<q.one) (hm:W.cell? ⟨2,0,none⟩=some (.int .i64 m)):
  Calls prog 63 #[.pointer (some ⟨rb,0,none⟩),lv] W (pE q rb mb W (xKw (λx=>(jL x).map (.set true)) r)):=by
 have hlt:=xJ hr.choose_spec.1;have hm0:=World.block_lt_of_cell? W _ hm;cases r with
 |nil=>
  have E1:=ι (jX rb mb W hr);have E2:=xLk true [] σ m W hm;rw[show jL []=none by decide] at E2;have E2:=ι E2;clear hr hm;go_enter func63,ntmps63;go_wp2_with fail
  refine E1.o.mono ?_;rintro e w2 ⟨rfl,rfl⟩;go_wp2_with fail
  refine E2.o.mono ?_;rintro e w2 ⟨hb,rfl⟩;have HB:=ι (Kp.below (b:=nq rb) hb);clear hb;go_wp2;go_ret2;exact⟨HB.o,_,.inl rfl,rfl⟩
 |cons x r=>
  have E1:=ι (jE rb mb W x r (by have:=hs.1;simp at this;omega) hr);have hx:=hs.head;have Hm:=ι hm;have E2:=ι (λX (h:X.cell? ⟨2,0,none⟩=some (.int .i64 m))=>xLk true x hx m X h);show Calls _ _ _ _ (pE q rb mb W (((jL x).map (.set true)).map λa=>(a,r)));clear hr hm
  cases hp:jL x with
  |none=>
   rw[hp] at E2;go_enter func63,ntmps63;go_wp2_with fail
   refine E1.o.mono ?_;rintro e w2 ⟨rfl,hr2,hk2⟩;have M2:=ι ((rT (hk2.widen hq) hm0 (λe=>by unfold Rg.has at e;simp only at e;omega)).trans Hm.o);have HK:=ι hk2;clear hr2 hk2;go_wp2_with fail
   refine(E2.o _ M2.o).mono ?_;rintro e w3 ⟨hb,rfl⟩;have HB:=ι (HK.o.trans (Kp.below hb));clear hb;go_wp2;go_ret2;exact⟨HB.o,_,.inl rfl,rfl⟩
  |some R=>
   rw[hp] at E2;go_enter func63,ntmps63;go_wp2_with fail
   refine E1.o.mono ?_;rintro e w2 ⟨rfl,hr2,hk2⟩;have M2:=ι ((rT (hk2.widen hq) hm0 (λe=>by unfold Rg.has at e;simp only at e;omega)).trans Hm.o);have HK:=ι hk2;have HR:=ι hr2;have hz:=hk2.size;clear hr2 hk2;go_wp2_with fail
   refine(E2.o _ M2.o).mono ?_;rintro e w3 ⟨hb,v,rfl,hkey⟩;have HB:=ι (HK.o.trans (Kp.below hb));have HR3:=ι (HR.o.kept hb);have yCt:=ι (hkey q ω);clear hb hkey;go_wp2;go_ret2;exact⟨HB.o,_,rfl,yCt.o,HR3.o⟩
def xR2 (q:Rg) (rb mb hi:Nat) (m:Int) (tab:List (Bs×Value)) (n:Nat):Prop:=∀(W:World) (ws:List Bs) (lv:Nat),lv+n=17->Env q rb mb hi m tab W->rA rb mb W ws->tZ ws->
 Calls prog 27 #[.pointer (some ⟨rb,0,none⟩),.int .i64 (lv:Int)] W (pE q rb mb W (yV n ws))
theorem xEk:∀(n:Nat) (l:List Bs) (k:vU) (r:List Bs),yV n l=some (k,r)->tZ l->tZ r:=by
 intro n l k r h hs;obtain⟨x,hx⟩:∃x,l=x++r:=qL n l k r h;subst hx;exact⟨by have:=hs.1;simp at this;omega,λy hy=>hs.2 y (List.mem_append_right _ hy)⟩
theorem yB5 (q:Rg) (rb mb hi:Nat) (m:Int) (tab:List (Bs×Value)) (n:Nat) (IH:xR2 q rb mb hi m tab n) (W:World) (r:List Bs) (lv:Nat) (hl:lv+(n+1)=17) (hE:Env q rb mb hi m tab W) (hr:rA rb mb W r) (hs:tZ r):
  Calls prog 64 #[.pointer (some ⟨rb,0,none⟩),.int .i64 (lv:Int)] W (pE q rb mb W ((yV n r).map λp=>(.not p.1,p.2))):=by
 have E:=IH W r (lv+1) ω hE hr hs;rw[show((lv+1:Nat):Int)=(lv:Int)+1 by simp] at E;have E1:=ι E;have hlt:=hE.lt;have hlv:lv<=17:=ω;clear E IH hE hr;cases hk:yV n r with
 |none=>
  rw[hk] at E1;clear hk;go_enter func64,ntmps64;go_wp2_with fail
  refine E1.o.mono ?_;rintro e w2 ⟨hk2,v,hv,rfl⟩;have HK:=ι (hk2.trans (Kp.below (φ w2 (.cells #[v] 88))));clear hk2;rcases hv with rfl|⟨id,wB,rfl⟩
  ·go_wp2;go_ret2;exact⟨HK.o,_,.inl rfl,rfl⟩
  ·go_wp2;go_ret2;exact⟨HK.o,_,.inl rfl,rfl⟩
 |some p=>
  obtain⟨k,r2⟩:=p;rw[hk] at E1;clear hk;go_enter func64,ntmps64;go_wp2_with fail
  refine E1.o.mono ?_;rintro e w2 ⟨hk2,v,rfl,hkey,hr2⟩;obtain⟨id,wB,rfl,hfn⟩:=hkey;have HB:=ι (φ w2 (.cells #[.func (.func id) #[] wB] 88));have HK:=ι (hk2.trans (Kp.below HB.o));have HR:=ι (hr2.kept HB.o);have B2:=ι (xI w2 (.cells #[.func (.func id) #[] wB] 88));have HF:=ι hfn
  have hz:=hk2.size;clear hr2 hk2 hfn;go_wp2;go_ret2;refine⟨HK.o,_,rfl,⟨_,_,rfl,enters_of func143 κ rfl,λX hX v hg=>?_⟩,HR.o⟩;exact xXn _ q id wB (jD k) w2 HF.o v X hg ((Kp.below HB.o).trans hX) (uP B2.o hX (λh=>by unfold Rg.has at h;omega))
def orP (n:Nat) (r:List Bs):Option (vU×List Bs):=match yV n r with
 |none=>none
 |some (a,r1)=>(yV n r1).map λp=>(.or a p.1,p.2)
theorem or_any (q:Rg) (rb mb hi:Nat) (m:Int) (tab:List (Bs×Value)) (n:Nat) (IH:xR2 q rb mb hi m tab n) (W:World) (r:List Bs) (lv:Nat) (hl:lv+(n+1)=17) (hE:Env q rb mb hi m tab W) (hr:rA rb mb W r) (hs:tZ r):
  Calls prog 65 #[.pointer (some ⟨rb,0,none⟩),.int .i64 (lv:Int)] W (pE q rb mb W (orP n r)):=by
 unfold orP;have ec:((lv+1:Nat):Int)=(lv:Int)+1:=σ;have E:=IH W r (lv+1) ω hE hr hs;rw[ec] at E;have E1:=ι E;have hlt:=hE.lt;have hlv:lv<=17:=ω;have HE:=ι hE;have Hl:=ι hl;clear E hE hr hl;cases hk:yV n r with
 |none=>
  rw[hk] at E1;clear hk ec;go_enter func65,ntmps65;go_wp2_with fail
  refine E1.o.mono ?_;rintro e w2 ⟨hk2,v,hv,rfl⟩;have HK:=ι (hk2.trans (Kp.below (φ w2 (.cells #[v] 88))));clear hk2;rcases hv with rfl|⟨id,wB,rfl⟩
  ·go_wp2;go_ret2;exact⟨HK.o,_,.inl rfl,rfl⟩
  ·go_wp2;go_ret2;exact⟨HK.o,_,.inl rfl,rfl⟩
 |some p=>
  obtain⟨k,r1⟩:=p;have hs1:=xEk n r k r1 hk hs;rw[hk] at E1;have Hec:=ι ec;clear hk ec;simp only;cases hk2:yV n r1 with
  |none=>
   have Hk2:=ι hk2;clear hk2;go_enter func65,ntmps65;go_wp2_with fail
   refine E1.o.mono ?_;rintro e w2 ⟨hk2,v,rfl,hkey,hr2⟩;obtain⟨id,wB,rfl,hfn⟩:=hkey;have HB:=ι (φ w2 (.cells #[.func (.func id) #[] wB] 88));have HK:=ι (hk2.trans (Kp.below HB.o))
   have E:=IH _ r1 (lv+1) (by have:=Hl.o;omega) (HE.o.kept (HK.o.widen (.inr HE.o.inr))) (hr2.kept HB.o) hs1;rw[Hec.o,Hk2.o] at E;have E2:=ι E;clear hr2 hk2 hfn E;go_wp2_with fail
   refine E2.o.mono ?_;rintro e w3 ⟨hk3,v,hv,rfl⟩;have HK3:=ι ((HK.o.trans hk3).trans (Kp.below (φ w3 (.cells #[v] 88))));clear hk3;rcases hv with rfl|⟨id3,xMu,rfl⟩
   ·go_wp2;go_ret2;exact⟨HK3.o,_,.inl rfl,rfl⟩
   ·go_wp2;go_ret2;exact⟨HK3.o,_,.inl rfl,rfl⟩
  |some p=>
   obtain⟨j,r2⟩:=p;have Hk2:=ι hk2;clear hk2;go_enter func65,ntmps65;go_wp2_with fail
   refine E1.o.mono ?_;rintro e w2 ⟨hk2,v,rfl,hkey,hr2⟩;obtain⟨id,wB,rfl,hfn⟩:=hkey;have HB:=ι (φ w2 (.cells #[.func (.func id) #[] wB] 88));have HK:=ι (hk2.trans (Kp.below HB.o))
   have E:=IH _ r1 (lv+1) (by have:=Hl.o;omega) (HE.o.kept (HK.o.widen (.inr HE.o.inr))) (hr2.kept HB.o) hs1;rw[Hec.o,Hk2.o] at E;have E2:=ι E;have B2:=ι (xI w2 (.cells #[.func (.func id) #[] wB] 88));have HF:=ι hfn;have hz:=hk2.size;clear hr2 hk2 hfn E;go_wp2_with fail
   refine E2.o.mono ?_;rintro e w3 ⟨hk3,v,rfl,hkey,hr3⟩;obtain⟨id3,xMu,rfl,hfn3⟩:=hkey;have HB3:=ι (φ w3 (.cells #[.func (.func id3) #[] xMu] 88));have HK3:=ι (hk3.trans (Kp.below HB3.o));have HR3:=ι (hr3.kept HB3.o)
   have B1:=ι (uP B2.o (HK3.o.widen (.inr HE.o.inr)) (λh=>by unfold Rg.has at h;omega));have B3:=ι (xI w3 (.cells #[.func (.func id3) #[] xMu] 88));have HF3:=ι hfn3
   have hz3:=Nat.le_trans (show w2.heap.size+1<=(w2.alloc (.cells #[.func (.func id) #[] wB] 88)).heap.size by simp) hk3.size;have HKK:=ι (HK.o.trans HK3.o)
   have HF2:=ι (xKn.mk HF.o.ent (λX hX=>HF.o.run X (((Kp.below HB.o).trans (HK3.o.widen (.inr HE.o.inr))).trans hX)):xKn q (w3.alloc (.cells #[.func (.func id3) #[] xMu] 88)) id wB (jD k))
   have HF4:=ι (xKn.mk HF3.o.ent (λX hX=>HF3.o.run X ((Kp.below HB3.o).trans hX)):xKn q (w3.alloc (.cells #[.func (.func id3) #[] xMu] 88)) id3 xMu (jD j));clear hr3 hk3 hfn3;go_wp2;go_ret2;refine⟨HKK.o,_,rfl,⟨_,_,rfl,enters_of func144 κ rfl,λX hX v hg=>?_⟩,HR3.o⟩
   exact yAz _ _ q id id3 wB xMu (jD k) (jD j) _ HF2.o HF4.o v X hg hX (uP B1.o hX (λh=>by unfold Rg.has at h;omega)) (uP B3.o hX (λh=>by unfold Rg.has at h;omega))
theorem pE.form {q:Rg} {rb mb:Nat} {W:World} {o:Option (vU×List Bs)} {e:Ending} {W':World} (h:pE q rb mb W o e W'):∃v b,e=.returned (.tuple #[v,.bool b]):=by
 obtain⟨_,h⟩:=h;cases o with
 |none=>obtain⟨v,_,h⟩:=h;exact⟨v,_,h⟩
 |some p=>obtain⟨v,h,_⟩:=h;exact⟨v,_,h⟩
theorem pE.back {q:Rg} {rb mb:Nat} {W X:World} {o:Option (vU×List Bs)} {e:Ending} {W':World} (hk:Kp (nq rb) W X) (h:pE q rb mb X o e W'):pE q rb mb W o e W':=⟨hk.trans h.1,h.2⟩
theorem xQ3:∀i,i<25->∀j,j<25->(kinds.getD i (wALL,.uid)).1=(kinds.getD j (wALL,.uid)).1->i=j:=δ
theorem xSd {mb hi:Nat} {W:World} {tab:List (Bs×Value)} (h:TabAt mb hi W kinds tab):tab.length=25:=by
 have:=congrArg List.length h.keys;simpa[kinds] using this
theorem xHg {mb hi:Nat} {W:World} {tab:List (Bs×Value)} (h:TabAt mb hi W kinds tab) {i:Nat} {p:Bs×Value} (hp:tab[i]?=some p):i<25/\∃k,kinds[i]?=some (p.1,k):=by
 have hl:=xSd h;have hi:=(List.getElem?_eq_some_iff.1 hp).1;have h1:(tab.map (·.1))[i]?=some p.1:=by rw[List.getElem?_map,hp];rfl
 rw[h.keys,List.getElem?_map] at h1;obtain⟨q,hq,e⟩:=Option.map_eq_some_iff.1 h1;exact⟨ω,q.2,by rw[hq,<-e]⟩
theorem uH {mb hi:Nat} {W:World} {tab:List (Bs×Value)} (h:TabAt mb hi W kinds tab):∀p∈tab,p.1.length<=1000000:=by
 intro p hp;obtain⟨i,hi⟩:=List.mem_iff_getElem?.1 hp;obtain⟨_,k,hk⟩:=xHg h hi;exact xB2 _ (List.mem_of_getElem? hk)
theorem xM7:∀p∈kinds,(match p.2 with|.field nm=>decide (nm.length<=1000)|_=>true)=true:=δ
theorem xQ4 {s nm:Bs} (h:kindOf s=some (.field nm)):nm.length<=1000:=by
 unfold kindOf at h;obtain⟨q,hq,e⟩:=Option.map_eq_some_iff.1 h;have:=xM7 q (List.mem_of_find?_eq_some hq);rw[e] at this;simpa using this
theorem xWy {mb hi:Nat} {W:World} {tab:List (Bs×Value)} (h:TabAt mb hi W kinds tab) {s:Bs} (hs:kindOf s=none):∀p∈tab,p.1≠s:=by
 intro p hp e;obtain⟨i,hi⟩:=List.mem_iff_getElem?.1 hp;obtain⟨_,k,hk⟩:=xHg h hi;unfold kindOf at hs;have h1:=List.find?_eq_none.1 (Option.map_eq_none_iff.1 hs) _ (List.mem_of_getElem? hk);simp[e] at h1
theorem qK {mb hi:Nat} {W:World} {tab:List (Bs×Value)} (h:TabAt mb hi W kinds tab) {s:Bs} {kd:xIp} (hs:kindOf s=some kd):∃v,(s,v)∈tab/\(∀u,(s,u)∈tab->u=v)/\wM mb hi W v kd:=by
 unfold kindOf at hs;obtain⟨q,hq,rfl⟩:=Option.map_eq_some_iff.1 hs;have hqs:q.1=s:=by simpa using List.find?_some hq
 obtain⟨j,hj⟩:=List.mem_iff_getElem?.1 (List.mem_of_find?_eq_some hq);have hj25:j<25:=(List.getElem?_eq_some_iff.1 hj).1;obtain⟨p,hp⟩:∃p,tab[j]?=some p:=⟨_,List.getElem?_eq_getElem (by rw[xSd h];exact hj25)⟩;obtain⟨_,k,hk⟩:=xHg h hp
 have hps:p.1=s:=by
  rw[hj] at hk;injection hk with hk;rw[<-hqs,hk]
 refine⟨p.2,by rw[<-hps];exact List.mem_of_getElem? hp,λu hu=>?_,h.each j p q hp hj⟩;obtain⟨i,hi⟩:=List.mem_iff_getElem?.1 hu;obtain⟨hi25,k',hk'⟩:=xHg h hi;have:i=j:=xQ3 i hi25 j hj25 (by rw[List.getD_eq_getElem?_getD,List.getD_eq_getElem?_getD,hk',hj];simp[hqs]);subst this
 rw[hp] at hi;injection hi with hi;rw[hi]
theorem xXw (q:Rg) (rb mb hi:Nat) (m:Int) (tab:List (Bs×Value)):xR2 q rb mb hi m tab 0:=by
 intro W ws lv hl hE hr hs;have hlv:16<lv:=ω;have hlv2:lv<=17:=ω;rw[xA4];clear hl;cases ws with
 |nil=>
  have E1:=ι (jX rb mb W hr);clear hE hr;go_enter func27,ntmps27;go_wp2_with fail
  refine E1.o.mono ?_;rintro e w2 ⟨rfl,rfl⟩;go_wp2;go_ret2;exact⟨Kp.refl _ _,_,.inl rfl,rfl⟩
 |cons x r=>
  have E1:=ι (jE rb mb W x r (by have:=hs.tail.1;omega) hr);clear hE hr;go_enter func27,ntmps27;go_wp2_with fail
  refine E1.o.mono ?_;rintro e w2 ⟨rfl,_,hk2⟩;have HK:=ι hk2;clear hk2;go_wp2;go_ret2;exact⟨HK.o,_,.inl rfl,rfl⟩
theorem xRf (w:World):(zeroValue 141).run prog w=.ok .nilFunc w:=κ
theorem xXx (q:Rg) (rb mb hi:Nat) (m:Int) (tab:List (Bs×Value)) (n:Nat) (IH:xR2 q rb mb hi m tab n):xR2 q rb mb hi m tab (n+1):=by
 intro W ws lv hl hE hr hs;have hlv:lv<=16:=ω;have Hl:=ι hl;clear hl;cases ws with
 |nil=>
  rw[rP];have E1:=ι (jX rb mb W hr);clear hE hr;go_enter func27,ntmps27;go_wp2_with fail
  refine E1.o.mono ?_;rintro e w2 ⟨rfl,rfl⟩;go_wp2;go_ret2;exact⟨Kp.refl _ _,_,.inl rfl,rfl⟩
 |cons x r=>
  have E1:=ι (jE rb mb W x r (by have:=hs.tail.1;omega) hr);have hx:=hs.head;have hsr:=hs.tail;have hup:(upP x).length<=1000000:=by unfold upP;rw[List.length_map];omega
  have HE:=ι hE;have HU:=ι (λX=>vV ⟨x.toArray⟩ X (by show x.length<_;omega));rw[show(⟨x.toArray⟩:ByteArray).data.toList=x from rfl] at HU;clear hE hr hs;have hz:∀X:World,(zeroValue 141).run prog X=.ok .nilFunc X:=xRf;cases hkind:kindOf (upP x) with
  |none=>
   have hke:yV (n+1) (x::r)=(jL x).map λR=>(.set false R,r):=by unfold yV;rw[hkind]
   rw[hke];have HN:=ι (xWy HE.o.tab hkind);have HLk:=ι (λX (h:Kp q W X)=>(HE.o.kept h).tab.map.miss (uH HE.o.tab) underlying83 (hz X) hup HN.o);clear hke hkind;go_enter func27,ntmps27;go_wp2_with fail
   refine E1.o.mono ?_;rintro e w2 ⟨rfl,hr2,hk2⟩;have HK:=ι hk2;have HR:=ι hr2;obtain⟨sv,hb2,_⟩:=hr2;have PB:=ι hb2;clear hk2 hb2;go_upto_region 4 with fail
   refine RG.xH (λX=>Hid (ψ w2 X)) κ κ (ι (Below.refl _ _).drew) ?_
   iterate 5
    apply RG.xG
    ·intro w9 hw9;have k1:w9.cell? ⟨rb,1,none⟩=some (.map (some mb)):=xA (xC PB.o hw9.o (xJ PB.o)) 1;repeat go_step
     exact RG.xB hw9
    ·rfl
   apply RG.xG
   ·intro w9 hw9;repeat go_step
    refine(HU.o _).mono ?_;rintro e w10 ⟨rfl,yP⟩;simp only[];repeat go_step
    refine RG.xB ?_;exact ι (hw9.o.trans (yP.mono hw9.o.size))
   ·rfl
   refine RG.dF (λw9 hw9=>HLk.o w9 ((HK.o.widen (.inr HE.o.inr)).trans (Kp.below hw9.o))) ?_;iterate 5 refine RG.dS ?_
   refine RG.xL (λw9 hw9=>?_);have HK9:=ι (HK.o.trans (Kp.below hw9.o));have HR9:=ι (HR.o.kept hw9.o);have HE9:=ι (HE.o.kept (HK9.o.widen (.inr HE.o.inr)));clear hw9 HLk;go_wp2_with fail
   refine(xLk false x hx m w9 HE9.o.max).mono ?_;intro e w10 hpost
   have hp2:pE q rb mb w9 ((jL x).map λR=>(.set false R,r)) e w10:=by
    obtain⟨hb,h⟩:=hpost;refine⟨Kp.below hb,?_⟩;cases hp:jL x with
    |none=>rw[hp] at h;exact⟨_,.inl rfl,h⟩
    |some R=>rw[hp] at h;obtain⟨v,h1,h2⟩:=h;exact⟨v,h1,h2 q HE9.o.lt,HR9.o.kept hb⟩
   clear hpost;obtain⟨v',b',rfl⟩:=hp2.form;have HP:=ι (hp2.back HK9.o);clear hp2;go_wp2;go_ret2;exact HP.o
  |some kd=>
   cases kd with
   |flags t m'=>
    have hke:yV (n+1) (x::r)=some (.flags t m',r):=by(conv=>lhs;unfold yV);rw[hkind]
    rw[hke];obtain⟨v,hmem,uR,hmk⟩:=qK HE.o.tab hkind;obtain⟨b1,b2,rfl,g1,g2,g3,g4,h1,h2⟩:=hmk;have G1:=ι h1;have G2:=ι h2;clear h1 h2;have n1:¬q.has b1:=λe=>by have:=HE.o.hi;have:=HE.o.low;unfold Rg.has at e;omega
    have n2:¬q.has b2:=λe=>by have:=HE.o.hi;have:=HE.o.low;unfold Rg.has at e;omega
    have HLk:=ι (λX (h:Kp q W X)=>(HE.o.kept h).tab.map.hit (uH HE.o.tab) underlying83 hup hmem uR);clear hke hkind hmem uR;go_enter func27,ntmps27;go_wp2_with fail
    refine E1.o.mono ?_;rintro e w2 ⟨rfl,hr2,hk2⟩;have HK:=ι hk2;have HR:=ι hr2;obtain⟨sv,hb2,_⟩:=hr2;have PB:=ι hb2;clear hk2 hb2;go_upto_region 4 with fail
    refine RG.xH (λX=>Hid (ψ w2 X)) κ κ (ι (Below.refl _ _).drew) ?_
    iterate 5
     apply RG.xG
     ·intro w9 hw9;have k1:w9.cell? ⟨rb,1,none⟩=some (.map (some mb)):=xA (xC PB.o hw9.o (xJ PB.o)) 1;repeat go_step
      exact RG.xB hw9
     ·rfl
    apply RG.xG
    ·intro w9 hw9;repeat go_step
     refine(HU.o _).mono ?_;rintro e w10 ⟨rfl,yP⟩;simp only[];repeat go_step
     refine RG.xB ?_;exact ι (hw9.o.trans (yP.mono hw9.o.size))
    ·rfl
    refine RG.dF (λw9 hw9=>HLk.o w9 ((HK.o.widen (.inr HE.o.inr)).trans (Kp.below hw9.o))) ?_;iterate 5 refine RG.dS ?_
    refine RG.xL (λw9 hw9=>?_);have HK9:=ι (HK.o.trans (Kp.below hw9.o));have HR9:=ι (HR.o.kept hw9.o);have HE9:=ι (HE.o.kept (HK9.o.widen (.inr HE.o.inr)));clear hw9 HLk;go_wp2_with fail
    refine(xQd q rb mb (.inr HE9.o.inr) _ b1 b2 t m' w9 r HR9.o HE9.o.lt n1 n2 (uP G1.o (HK9.o.widen (.inr HE.o.inr)) n1) (uP G2.o (HK9.o.widen (.inr HE.o.inr)) n2)).mono ?_;intro e w10 hp2;obtain⟨v',b',rfl⟩:=hp2.form;have HP:=ι (hp2.back HK9.o);clear hp2;go_wp2;go_ret2
    exact HP.o
   |size g=>
    have hke:yV (n+1) (x::r)=xKw (λy=>(xR9 y).map (.size g)) r:=by(conv=>lhs;unfold yV);rw[hkind]
    rw[hke];obtain⟨v,hmem,uR,hmk⟩:=qK HE.o.tab hkind;obtain⟨b1,rfl,g1,g2,h1⟩:=hmk;have G1:=ι h1;clear h1;have n1:¬q.has b1:=λe=>by have:=HE.o.hi;have:=HE.o.low;unfold Rg.has at e;omega
    have HLk:=ι (λX (h:Kp q W X)=>(HE.o.kept h).tab.map.hit (uH HE.o.tab) underlying83 hup hmem uR);clear hke hkind hmem uR;go_enter func27,ntmps27;go_wp2_with fail
    refine E1.o.mono ?_;rintro e w2 ⟨rfl,hr2,hk2⟩;have HK:=ι hk2;have HR:=ι hr2;obtain⟨sv,hb2,_⟩:=hr2;have PB:=ι hb2;clear hk2 hb2;go_upto_region 4 with fail
    refine RG.xH (λX=>Hid (ψ w2 X)) κ κ (ι (Below.refl _ _).drew) ?_
    iterate 5
     apply RG.xG
     ·intro w9 hw9;have k1:w9.cell? ⟨rb,1,none⟩=some (.map (some mb)):=xA (xC PB.o hw9.o (xJ PB.o)) 1;repeat go_step
      exact RG.xB hw9
     ·rfl
    apply RG.xG
    ·intro w9 hw9;repeat go_step
     refine(HU.o _).mono ?_;rintro e w10 ⟨rfl,yP⟩;simp only[];repeat go_step
     refine RG.xB ?_;exact ι (hw9.o.trans (yP.mono hw9.o.size))
    ·rfl
    refine RG.dF (λw9 hw9=>HLk.o w9 ((HK.o.widen (.inr HE.o.inr)).trans (Kp.below hw9.o))) ?_;iterate 5 refine RG.dS ?_
    refine RG.xL (λw9 hw9=>?_);have HK9:=ι (HK.o.trans (Kp.below hw9.o));have HR9:=ι (HR.o.kept hw9.o);have HE9:=ι (HE.o.kept (HK9.o.widen (.inr HE.o.inr)));clear hw9 HLk;go_wp2_with fail
    refine(xSp g q rb mb (.inr HE9.o.inr) _ b1 w9 r hsr HR9.o HE9.o.lt n1 (uP G1.o (HK9.o.widen (.inr HE.o.inr)) n1)).mono ?_;intro e w10 hp2;obtain⟨v',b',rfl⟩:=hp2.form;have HP:=ι (hp2.back HK9.o);clear hp2;go_wp2;go_ret2;exact HP.o
   |field nm=>
    have hke:yV (n+1) (x::r)=xKw (λy=>some (.field nm y)) r:=by(conv=>lhs;unfold yV);rw[hkind]
    rw[hke];obtain⟨v,hmem,uR,hmk⟩:=qK HE.o.tab hkind;have hnm:nm.length<=1000:=xQ4 hkind;obtain⟨b1,rfl,g1,g2,h1⟩:=hmk;have G1:=ι h1;clear h1;have n1:¬q.has b1:=λe=>by have:=HE.o.hi;have:=HE.o.low;unfold Rg.has at e;omega
    have HLk:=ι (λX (h:Kp q W X)=>(HE.o.kept h).tab.map.hit (uH HE.o.tab) underlying83 hup hmem uR);clear hke hkind hmem uR;go_enter func27,ntmps27;go_wp2_with fail
    refine E1.o.mono ?_;rintro e w2 ⟨rfl,hr2,hk2⟩;have HK:=ι hk2;have HR:=ι hr2;obtain⟨sv,hb2,_⟩:=hr2;have PB:=ι hb2;clear hk2 hb2;go_upto_region 4 with fail
    refine RG.xH (λX=>Hid (ψ w2 X)) κ κ (ι (Below.refl _ _).drew) ?_
    iterate 5
     apply RG.xG
     ·intro w9 hw9;have k1:w9.cell? ⟨rb,1,none⟩=some (.map (some mb)):=xA (xC PB.o hw9.o (xJ PB.o)) 1;repeat go_step
      exact RG.xB hw9
     ·rfl
    apply RG.xG
    ·intro w9 hw9;repeat go_step
     refine(HU.o _).mono ?_;rintro e w10 ⟨rfl,yP⟩;simp only[];repeat go_step
     refine RG.xB ?_;exact ι (hw9.o.trans (yP.mono hw9.o.size))
    ·rfl
    refine RG.dF (λw9 hw9=>HLk.o w9 ((HK.o.widen (.inr HE.o.inr)).trans (Kp.below hw9.o))) ?_;iterate 5 refine RG.dS ?_
    refine RG.xL (λw9 hw9=>?_);have HK9:=ι (HK.o.trans (Kp.below hw9.o));have HR9:=ι (HR.o.kept hw9.o);have HE9:=ι (HE.o.kept (HK9.o.widen (.inr HE.o.inr)));clear hw9 HLk;go_wp2_with fail
    refine(xQi nm hnm q rb mb (.inr HE9.o.inr) m _ b1 w9 r hsr HR9.o HE9.o.lt HE9.o.pos HE9.o.max n1 (uP G1.o (HK9.o.widen (.inr HE.o.inr)) n1)).mono ?_;intro e w10 hp2;obtain⟨v',b',rfl⟩:=hp2.form;have HP:=ι (hp2.back HK9.o);clear hp2;go_wp2;go_ret2;exact HP.o
   |header=>
    have hke:yV (n+1) (x::r)=xUa r:=by(conv=>lhs;unfold yV);rw[hkind];cases r with|nil=>rfl|cons y r=>cases r<;>rfl
    rw[hke];obtain⟨v,hmem,uR,hmk⟩:=qK HE.o.tab hkind;obtain rfl:v=.func (.func 59) #[] #[]:=hmk;have HLk:=ι (λX (h:Kp q W X)=>(HE.o.kept h).tab.map.hit (uH HE.o.tab) underlying83 hup hmem uR);clear hke hkind hmem uR;go_enter func27,ntmps27;go_wp2_with fail
    refine E1.o.mono ?_;rintro e w2 ⟨rfl,hr2,hk2⟩;have HK:=ι hk2;have HR:=ι hr2;obtain⟨sv,hb2,_⟩:=hr2;have PB:=ι hb2;clear hk2 hb2;go_upto_region 4 with fail
    refine RG.xH (λX=>Hid (ψ w2 X)) κ κ (ι (Below.refl _ _).drew) ?_
    iterate 5
     apply RG.xG
     ·intro w9 hw9;have k1:w9.cell? ⟨rb,1,none⟩=some (.map (some mb)):=xA (xC PB.o hw9.o (xJ PB.o)) 1;repeat go_step
      exact RG.xB hw9
     ·rfl
    apply RG.xG
    ·intro w9 hw9;repeat go_step
     refine(HU.o _).mono ?_;rintro e w10 ⟨rfl,yP⟩;simp only[];repeat go_step
     refine RG.xB ?_;exact ι (hw9.o.trans (yP.mono hw9.o.size))
    ·rfl
    refine RG.dF (λw9 hw9=>HLk.o w9 ((HK.o.widen (.inr HE.o.inr)).trans (Kp.below hw9.o))) ?_;iterate 5 refine RG.dS ?_
    refine RG.xL (λw9 hw9=>?_);have HK9:=ι (HK.o.trans (Kp.below hw9.o));have HR9:=ι (HR.o.kept hw9.o);have HE9:=ι (HE.o.kept (HK9.o.widen (.inr HE.o.inr)));clear hw9 HLk;go_wp2_with fail
    refine(xQa q rb mb (.inr HE9.o.inr) m _ w9 r hsr HR9.o HE9.o.lt HE9.o.pos HE9.o.max).mono ?_;intro e w10 hp2;obtain⟨v',b',rfl⟩:=hp2.form;have HP:=ι (hp2.back HK9.o);clear hp2;go_wp2;go_ret2;exact HP.o
   |text b=>
    have hke:yV (n+1) (x::r)=xKw (λy=>some (.text b y)) r:=by(conv=>lhs;unfold yV);rw[hkind]
    rw[hke];obtain⟨v,hmem,uR,hmk⟩:=qK HE.o.tab hkind;obtain⟨b1,rfl,g1,g2,h1⟩:=hmk;have G1:=ι h1;clear h1;have n1:¬q.has b1:=λe=>by have:=HE.o.hi;have:=HE.o.low;unfold Rg.has at e;omega
    have HLk:=ι (λX (h:Kp q W X)=>(HE.o.kept h).tab.map.hit (uH HE.o.tab) underlying83 hup hmem uR);clear hke hkind hmem uR;go_enter func27,ntmps27;go_wp2_with fail
    refine E1.o.mono ?_;rintro e w2 ⟨rfl,hr2,hk2⟩;have HK:=ι hk2;have HR:=ι hr2;obtain⟨sv,hb2,_⟩:=hr2;have PB:=ι hb2;clear hk2 hb2;go_upto_region 4 with fail
    refine RG.xH (λX=>Hid (ψ w2 X)) κ κ (ι (Below.refl _ _).drew) ?_
    iterate 5
     apply RG.xG
     ·intro w9 hw9;have k1:w9.cell? ⟨rb,1,none⟩=some (.map (some mb)):=xA (xC PB.o hw9.o (xJ PB.o)) 1;repeat go_step
      exact RG.xB hw9
     ·rfl
    apply RG.xG
    ·intro w9 hw9;repeat go_step
     refine(HU.o _).mono ?_;rintro e w10 ⟨rfl,yP⟩;simp only[];repeat go_step
     refine RG.xB ?_;exact ι (hw9.o.trans (yP.mono hw9.o.size))
    ·rfl
    refine RG.dF (λw9 hw9=>HLk.o w9 ((HK.o.widen (.inr HE.o.inr)).trans (Kp.below hw9.o))) ?_;iterate 5 refine RG.dS ?_
    refine RG.xL (λw9 hw9=>?_);have HK9:=ι (HK.o.trans (Kp.below hw9.o));have HR9:=ι (HR.o.kept hw9.o);have HE9:=ι (HE.o.kept (HK9.o.widen (.inr HE.o.inr)));clear hw9 HLk;go_wp2_with fail
    refine(xS9 b q rb mb (.inr HE9.o.inr) m _ b1 w9 r hsr HR9.o HE9.o.lt HE9.o.pos HE9.o.max n1 (uP G1.o (HK9.o.widen (.inr HE.o.inr)) n1)).mono ?_;intro e w10 hp2;obtain⟨v',b',rfl⟩:=hp2.form;have HP:=ι (hp2.back HK9.o);clear hp2;go_wp2;go_ret2;exact HP.o
   |uid=>
    have hke:yV (n+1) (x::r)=xKw (λy=>(jL y).map (.set true)) r:=by(conv=>lhs;unfold yV);rw[hkind]
    rw[hke];obtain⟨v,hmem,uR,hmk⟩:=qK HE.o.tab hkind;obtain rfl:v=.func (.func 63) #[] #[]:=hmk;have HLk:=ι (λX (h:Kp q W X)=>(HE.o.kept h).tab.map.hit (uH HE.o.tab) underlying83 hup hmem uR);clear hke hkind hmem uR;go_enter func27,ntmps27;go_wp2_with fail
    refine E1.o.mono ?_;rintro e w2 ⟨rfl,hr2,hk2⟩;have HK:=ι hk2;have HR:=ι hr2;obtain⟨sv,hb2,_⟩:=hr2;have PB:=ι hb2;clear hk2 hb2;go_upto_region 4 with fail
    refine RG.xH (λX=>Hid (ψ w2 X)) κ κ (ι (Below.refl _ _).drew) ?_
    iterate 5
     apply RG.xG
     ·intro w9 hw9;have k1:w9.cell? ⟨rb,1,none⟩=some (.map (some mb)):=xA (xC PB.o hw9.o (xJ PB.o)) 1;repeat go_step
      exact RG.xB hw9
     ·rfl
    apply RG.xG
    ·intro w9 hw9;repeat go_step
     refine(HU.o _).mono ?_;rintro e w10 ⟨rfl,yP⟩;simp only[];repeat go_step
     refine RG.xB ?_;exact ι (hw9.o.trans (yP.mono hw9.o.size))
    ·rfl
    refine RG.dF (λw9 hw9=>HLk.o w9 ((HK.o.widen (.inr HE.o.inr)).trans (Kp.below hw9.o))) ?_;iterate 5 refine RG.dS ?_
    refine RG.xL (λw9 hw9=>?_);have HK9:=ι (HK.o.trans (Kp.below hw9.o));have HR9:=ι (HR.o.kept hw9.o);have HE9:=ι (HE.o.kept (HK9.o.widen (.inr HE.o.inr)));clear hw9 HLk;go_wp2_with fail
    refine(yAd q rb mb (.inr HE9.o.inr) m _ w9 r hsr HR9.o HE9.o.lt HE9.o.pos HE9.o.max).mono ?_;intro e w10 hp2;obtain⟨v',b',rfl⟩:=hp2.form;have HP:=ι (hp2.back HK9.o);clear hp2;go_wp2;go_ret2;exact HP.o
   |not=>
    have hke:yV (n+1) (x::r)=(yV n r).map λp=>(.not p.1,p.2):=by(conv=>lhs;unfold yV);rw[hkind]
    rw[hke];obtain⟨v,hmem,uR,hmk⟩:=qK HE.o.tab hkind;obtain rfl:v=.func (.func 64) #[] #[]:=hmk;have HLk:=ι (λX (h:Kp q W X)=>(HE.o.kept h).tab.map.hit (uH HE.o.tab) underlying83 hup hmem uR);clear hke hkind hmem uR;go_enter func27,ntmps27;go_wp2_with fail
    refine E1.o.mono ?_;rintro e w2 ⟨rfl,hr2,hk2⟩;have HK:=ι hk2;have HR:=ι hr2;obtain⟨sv,hb2,_⟩:=hr2;have PB:=ι hb2;clear hk2 hb2;go_upto_region 4 with fail
    refine RG.xH (λX=>Hid (ψ w2 X)) κ κ (ι (Below.refl _ _).drew) ?_
    iterate 5
     apply RG.xG
     ·intro w9 hw9;have k1:w9.cell? ⟨rb,1,none⟩=some (.map (some mb)):=xA (xC PB.o hw9.o (xJ PB.o)) 1;repeat go_step
      exact RG.xB hw9
     ·rfl
    apply RG.xG
    ·intro w9 hw9;repeat go_step
     refine(HU.o _).mono ?_;rintro e w10 ⟨rfl,yP⟩;simp only[];repeat go_step
     refine RG.xB ?_;exact ι (hw9.o.trans (yP.mono hw9.o.size))
    ·rfl
    refine RG.dF (λw9 hw9=>HLk.o w9 ((HK.o.widen (.inr HE.o.inr)).trans (Kp.below hw9.o))) ?_;iterate 5 refine RG.dS ?_
    refine RG.xL (λw9 hw9=>?_);have HK9:=ι (HK.o.trans (Kp.below hw9.o));have HR9:=ι (HR.o.kept hw9.o);have HE9:=ι (HE.o.kept (HK9.o.widen (.inr HE.o.inr)));clear hw9 HLk;go_wp2_with fail
    refine(yB5 q rb mb hi m tab n IH w9 r lv Hl.o HE9.o HR9.o hsr).mono ?_;intro e w10 hp2;obtain⟨v',b',rfl⟩:=hp2.form;have HP:=ι (hp2.back HK9.o);clear hp2;go_wp2;go_ret2;exact HP.o
   |or=>
    have hke:yV (n+1) (x::r)=orP n r:=by(conv=>lhs;unfold yV);rw[hkind];unfold orP;cases yV n r with|none=>rfl|some p=>rfl
    rw[hke];obtain⟨v,hmem,uR,hmk⟩:=qK HE.o.tab hkind;obtain rfl:v=.func (.func 65) #[] #[]:=hmk;have HLk:=ι (λX (h:Kp q W X)=>(HE.o.kept h).tab.map.hit (uH HE.o.tab) underlying83 hup hmem uR);clear hke hkind hmem uR;go_enter func27,ntmps27;go_wp2_with fail
    refine E1.o.mono ?_;rintro e w2 ⟨rfl,hr2,hk2⟩;have HK:=ι hk2;have HR:=ι hr2;obtain⟨sv,hb2,_⟩:=hr2;have PB:=ι hb2;clear hk2 hb2;go_upto_region 4 with fail
    refine RG.xH (λX=>Hid (ψ w2 X)) κ κ (ι (Below.refl _ _).drew) ?_
    iterate 5
     apply RG.xG
     ·intro w9 hw9;have k1:w9.cell? ⟨rb,1,none⟩=some (.map (some mb)):=xA (xC PB.o hw9.o (xJ PB.o)) 1;repeat go_step
      exact RG.xB hw9
     ·rfl
    apply RG.xG
    ·intro w9 hw9;repeat go_step
     refine(HU.o _).mono ?_;rintro e w10 ⟨rfl,yP⟩;simp only[];repeat go_step
     refine RG.xB ?_;exact ι (hw9.o.trans (yP.mono hw9.o.size))
    ·rfl
    refine RG.dF (λw9 hw9=>HLk.o w9 ((HK.o.widen (.inr HE.o.inr)).trans (Kp.below hw9.o))) ?_;iterate 5 refine RG.dS ?_
    refine RG.xL (λw9 hw9=>?_);have HK9:=ι (HK.o.trans (Kp.below hw9.o));have HR9:=ι (HR.o.kept hw9.o);have HE9:=ι (HE.o.kept (HK9.o.widen (.inr HE.o.inr)));clear hw9 HLk;go_wp2_with fail
    refine(or_any q rb mb hi m tab n IH w9 r lv Hl.o HE9.o HR9.o hsr).mono ?_;intro e w10 hp2;obtain⟨v',b',rfl⟩:=hp2.form;have HP:=ι (hp2.back HK9.o);clear hp2;go_wp2;go_ret2;exact HP.o
theorem xTx (q:Rg) (rb mb hi:Nat) (m:Int) (tab:List (Bs×Value)):∀n,xR2 q rb mb hi m tab n
 |0=>xXw q rb mb hi m tab
 |n+1=>xXx q rb mb hi m tab n (xTx q rb mb hi m tab n)
theorem infoK:(prog.info? 88).map (λi=>(i.zero,i.size,i.bytes))=some (some .nilFunc,1,8):=κ
def xKm (W:World) (kv:Value) (f:QV->Bool):Prop:=∃q w0,Kp q w0 W/\xW0 q w0 kv f
theorem xKm.below {W W':World} {kv:Value} {f:QV->Bool} (h:xKm W kv f) (hb:ψ W W'):xKm W' kv f:=by
 obtain⟨q,w0,h1,h2⟩:=h;exact⟨q,w0,h1.trans (Kp.below hb),h2⟩
def xIt (o rb:Nat) (W:World) (gq:Option Nat) (kv:Value) (f:QV->Bool):Prop:=∃top w0,Kp ⟨o,rb,top⟩ w0 W/\xW0 ⟨o,rb,top⟩ w0 kv f/\rb+2<=top/\∀g,gq=some g->g<top∨w0.heap.size<=g
theorem xIt.now {o rb:Nat} {W:World} {gq:Option Nat} {kv:Value} {f:QV->Bool} (h:xIt o rb W gq kv f):xKm W kv f:=by
 obtain⟨top,w0,h1,h2,_⟩:=h;exact⟨_,w0,h1,h2⟩
theorem xIt.set {o rb b i:Nat} {W:World} {gq:Option Nat} {kv u:Value} {f:QV->Bool} (h:xIt o rb W gq kv f) (hb:b=o∨b=rb∨b=rb+1):xIt o rb (W.setCell ⟨b,i,none⟩ u) gq kv f:=by
 obtain⟨top,w0,h1,h2,h3,h4⟩:=h;exact⟨top,w0,h1.trans (xTw (by unfold Rg.has;simp only;omega) i u),h2,h3,h4⟩
theorem xIt.below {o rb:Nat} {W W':World} {gq:Option Nat} {kv:Value} {f:QV->Bool} (h:xIt o rb W gq kv f) (hb:ψ W W'):xIt o rb W' gq kv f:=by
 obtain⟨top,w0,h1,h2,h3,h4⟩:=h;exact⟨top,w0,h1.trans (Kp.below hb),h2,h3,h4⟩
theorem xIt.append {o rb g':Nat} {W W':World} {gq:Option Nat} {kv:Value} {f:QV->Bool} (h:xIt o rb W gq kv f) (hg:W.grownBy W' gq) (hlo:∀g,gq=some g->rb<=g) (hn:gq=some g'∨W.heap.size<=g'):xIt o rb W' (some g') kv f:=by
 obtain⟨top,w0,h1,h2,h3,h4⟩:=h;refine⟨top,w0,⟨hg.os.trans h1.os,hg.tape.trans h1.tape,hg.output.trans h1.output,Nat.le_trans h1.size hg.size,λk hk hne=>?_⟩,h2,h3,λg e=>?_⟩
 ·refine(hg.block k (Nat.lt_of_lt_of_le hk h1.size) (λe=>hne ?_)).trans (h1.block k hk hne);have h5:=h4 k e.symm;have h6:=hlo k e.symm;unfold Rg.has;simp only;omega
 ·injection e with e;subst e;rcases hn with hn|hn
  ·exact h4 g' hn
  ·right;have:=h1.size;omega
structure xDa (B:Nat) (W:World) (v:Value) (kvs:List Value) (K:List vU):Prop where
 own:W.ownsRow B 88 1 v kvs.length kvs
 len:kvs.length=K.length
 each:∀(j:Nat) kv k,kvs[j]?=some kv->K[j]?=some k->xKm W kv (jD k)
theorem xDa.form {B:Nat} {W:World} {v:Value} {kvs:List Value} {K:List vU} (h:xDa B W v kvs K):∃A c,v=.slice A kvs.length c/\kvs.length<=c:=by
 rcases h.own.2 with ⟨h1,h2⟩|⟨g,cap,cur,h1,_,_,h2,_⟩
 ·exact⟨none,0,by rw[h1,h2],ω⟩
 ·exact⟨_,_,h1,h2⟩
theorem xDa.below {B:Nat} {W W':World} {v:Value} {kvs:List Value} {K:List vU} (h:xDa B W v kvs K) (hb:ψ W W'):xDa B W' v kvs K:=
 ⟨World.ownsRow.kept h.own (vL hb none) (by cases v.ownBlock<;>simp),h.len,λj kv k h1 h2=>(h.each j kv k h1 h2).below hb⟩
def yCh (w:World) (R:Option (List vU)) (e:Ending) (w':World):Prop:=ψ w w'/\match R with
 |none=>e=.returned (.tuple #[.agg #[.slice none 0 0],.int .i64 3])
 |some K=>∃v kvs,e=.returned (.tuple #[.agg #[v],.int .i64 0])/\xDa w.heap.size w' v kvs K
def xVv (K:List vU) (v:QV):Bool:=K.all λk=>jD k v
theorem xVu {K:List vU} {v:QV} {j:Nat} {k:vU} (h:K[j]?=some k) (hf:jD k v=false):xVv K v=false:=by
 unfold xVv;rw[List.all_eq_false];exact⟨k,List.mem_of_getElem? h,by rw[hf];decide⟩
theorem xYw {K:List vU} {v:QV} (h:∀k∈K,jD k v=true):xVv K v=true:=List.all_eq_true.2 h
theorem xK3 (B:Nat) (sv:Value) (kvs:List Value) (K:List vU) (v:QV) (W:World) (hg:xKq v) (hK:xDa B W sv kvs K) (hl:K.length<=1000000):
  Calls prog 16 #[.agg #[sv],uL v] W λe W'=>e=.returned (.bool (xVv K v))/\ψ W W':=by
 have HK:=ι hK;have hlen:=hK.len;obtain⟨A,c,rfl,hc⟩:=hK.form;have HB:=ι (xHd W (.cells #[.slice A kvs.length c] 51) (vP v));have pQ:=ι (zK W (.cells #[.slice A kvs.length c] 51) (vP v));have pV:=ι (zD W (.cells #[.slice A kvs.length c] 51) (vP v));have Hg:=ι hg;clear hK hg
 obtain⟨N,hN⟩:∃N,kvs.length=N:=⟨_,rfl⟩;rw[hN] at hc HB pQ pV hlen⊢;have HN:=ι hN;have HLn:=ι hlen;have hNb:N<=1000000:=ω;clear hN hlen;unfold uL;go_enter func16,ntmps16;go_wp2
 go_loopw [10] (λi wr=>∃k:Nat,k<=N/\i=.int .i64 (k:Int)/\Hid (ψ W wr)/\Hid (wr.heap[W.heap.size+1]?=some (vP v))/\W.heap.size+1<wr.heap.size/\Hid (∀q∈K.take k,jD q v=true)) (λi _=>N- (intOf i).toNat)
 case atStart=>exact⟨0,Nat.zero_le _,rfl,HB,pV,σ,ι σ⟩
 case round=>
  obtain⟨k,hk,rfl,hb,hvb,hsz,hall⟩:=hrel;clear HB pV pQ
  by_cases hlt:k<N
  ·obtain⟨kv,hkv⟩:∃kv,kvs[k]?=some kv:=⟨_,List.getElem?_eq_getElem (by rw[HN.o];exact hlt)⟩;obtain⟨q,hq⟩:∃q,K[k]?=some q:=⟨_,List.getElem?_eq_getElem (by rw[<-HLn.o];exact hlt)⟩;have hKw:=HK.o.each k kv q hkv hq;obtain⟨rg,w0,hkp,id,wB,rfl,hfn⟩:=hKw
   obtain⟨g,hg1,hgB⟩:∃g,A=some ⟨g,0,none⟩/\g<W.heap.size:=by
    rcases HK.o.own.2 with ⟨h1,h2⟩|⟨g,cap,cur,h1,_,h3,_⟩
    ·rw[HN.o] at h2;omega
    ·injection h1 with h1 _ _;exact⟨g,h1,xJ h3⟩
   subst hg1;have hcell:=World.ownsRow.cells HK.o.own (g:=g) rfl k _ hkv;have hadd:(⟨g,0,none⟩:Addr).add k=⟨g,k,none⟩:=by unfold Addr.add;split<;>simp_all
   rw[hadd] at hcell;have d1:wr.cell? ⟨g,k,none⟩=some (.func (.func id) #[] wB):=(hb.o.cell (p:=⟨g,k,none⟩) hgB).trans hcell;obtain⟨d2,d3,d4,d5,d6,d7,d8⟩:=xA2 hvb.o;have ee:=hfn.ent;have E1:=ι (hfn.run wr (hkp.trans (Kp.below hb.o)) v Hg.o);have Hq:=ι hq
   obtain⟨s,hsq⟩:∃s,jD q v=s:=⟨_,rfl⟩;have Hsq:=ι hsq;unfold uL at E1;rw[hsq] at E1;clear hcell hadd hkv hq hsq hfn hkp;go_wp2_with fail
   refine E1.o.mono ?_;rintro e w2 ⟨rfl,hb2⟩;have HB2:=ι (hb.o.trans (hb2.mono hb.o.size));have HV2:=ι (xC hvb.o hb2 ω);have hsz2:W.heap.size+1<w2.heap.size:=Nat.lt_of_lt_of_le hsz hb2.size;clear hb2;cases s
   ·go_wp2;go_ret;refine⟨?_,HB2.o⟩;rw[xVu Hq.o Hsq.o]
    rfl
   ·go_wp2;refine⟨⟨k+1,ω,by go_num,HB2,HV2,hsz2,ι ?_⟩,by simp[intOf];omega⟩;intro y hy;rw[List.take_add_one,Hq.o] at hy;rcases List.mem_append.1 hy with hy|hy
    ·exact hall.o y hy
    ·simp at hy;subst hy;exact Hsq.o
  ·have hkN:k=K.length:=by have:=HLn.o;omega
   have Ha:=ι (xYw (K:=K) (v:=v) (by have:=hall.o;rw[hkN,List.take_length] at this;exact this));clear hkN;go_wp2;go_ret;rw[Ha.o];exact⟨rfl,hb.o⟩
end Go.Proofs.QU
namespace Mailsack
open Go Go.Proofs.QU
def xTk:uT:=⟨0,0,0,0⟩
def rH (L:List uT) (T:List Bs) (i:Nat):QV:=⟨(i:Int)+1,(L.getD i xTk).uid,(L.getD i xTk).flags,(L.getD i xTk).size,T.getD i [],L.length,(L.getD (L.length-1) xTk).uid⟩
def vH (ub:Bool) (L:List uT) (i:Nat):Int:=if ub=true then(L.getD i xTk).uid else(i:Int)+1
def uY (ub:Bool) (K:List vU) (L:List uT) (T:List Bs):Nat->Bs
 |0=>[83,69,65,82,67,72]
 |k+1=>if xVv K (rH L T k)=true then uY ub K L T k++([32]++Lib.itoa (vH ub L k)) else uY ub K L T k
theorem xLy {ub:Bool} {L:List uT} (h:∀m∈L,0<=m.uid/\m.uid<=4294967295) (hl:L.length<=30) {i:Nat} (hi:i<L.length):0<=vH ub L i/\vH ub L i<=4294967295:=by
 unfold vH;split
 ·rw[List.getD_eq_getElem?_getD,List.getElem?_eq_getElem hi];exact h _ (List.getElem_mem hi)
 ·omega
theorem xC1 {ub:Bool} {K:List vU} {L:List uT} {T:List Bs} (h:∀m∈L,0<=m.uid/\m.uid<=4294967295) (hl:L.length<=30):∀k,k<=L.length->(uY ub K L T k).length<=6+30*k
 |0,_=>by simp[uY]
 |k+1,hk=>by
  have ih:=xC1 (ub:=ub) (K:=K) (T:=T) h hl k ω;have hn:=xLy (ub:=ub) h hl (i:=k) ω;have:=Lib.itoa_length_le (vH ub L k) ω ω;unfold uY;split
  ·simp only[List.length_append,List.length_cons,List.length_nil];omega
  ·omega
theorem xJy:∀(n:Nat) (l:List Bs) (K:List vU),qB n l=some K->K.length<=l.length
 |n,[],K,h=>by
  have e:K=[]:=by cases n<;>(simp only[qB,Option.some.injEq] at h;exact h.symm)
  simp[e]
 |0,w::l,K,h=>by simp[qB] at h
 |n+1,w::l,K,h=>by
  unfold qB at h;cases hk:yV 16 (w::l) with
  |none=>rw[hk] at h;cases h
  |some q=>
   obtain⟨k,r⟩:=q;rw[hk] at h;obtain⟨K2,h2,rfl⟩:=Option.map_eq_some_iff.1 h;have h3:=xJy n r K2 h2;have h4:=jT _ _ _ _ hk;simp only[List.length_cons] at h4⊢;omega
theorem xGd {l:List Bs} {K:List vU} (h:zW l=some K):K.length<=l.length:=by
 unfold zW at h;split at h
 ·cases h
 ·exact xJy _ _ _ h
def zF (x:zO) (n:Bs):List uT:=(xWb x n).xU
theorem xGn:∀{l:List uT} {next last:Int},xAp next l last=true->0<=last->next<=4294967295->∀m∈l,(0<=m.uid/\m.uid<=4294967295)/\(1<=m.object/\m.object<=4294967295)/\0<=m.flags/\m.flags<64
 |[],_,_,_,_,_,m,hm=>by cases hm
 |x::l,next,last,h,h0,hx,m,hm=>by
  simp only[xAp,xB0,xKv,xAa,Bool.and_eq_true,decide_eq_true_eq] at h;obtain⟨⟨⟨h1,h2⟩,⟨⟨h3,h4⟩,h5⟩⟩,h6⟩:=h;rcases List.mem_cons.1 hm with rfl|hm
  ·exact⟨⟨ω,ω⟩,h3,h5.1,ω⟩
  ·exact xGn h6 ω hx m hm
theorem xH1:∀{l:List wN} {g:Int} {i:Nat} {p:Bs},qD g l i p=true->∀b∈l,qE b=true
 |[],_,_,_,_,b,hb=>by cases hb
 |x::l,g,i,p,h,b,hb=>by
  simp only[qD,Bool.and_eq_true] at h;rcases List.mem_cons.1 hb with rfl|hb
  ·exact h.1.1.1.1
  ·exact xH1 h.2 b hb
theorem xEj {x:zO} (h:uZ x=true):x.boxes.length<=6/\∀b∈x.boxes,qE b=true:=by
 simp only[uZ,Bool.and_eq_true,decide_eq_true_eq] at h;exact⟨h.1.1.1.1.1.1.2,xH1 h.1.1.2⟩
theorem xEi {x:zO} (h:uZ x=true) (n:Bs):(zF x n).length<=30/\∀m∈zF x n,(0<=m.uid/\m.uid<=4294967295)/\(1<=m.object/\m.object<=4294967295)/\0<=m.flags/\m.flags<64:=by
 have hb:=(xEj h).2;unfold zF xWb;split
 ·rw[List.getD_eq_getElem?_getD];cases hy:x.boxes[(rV x n).toNat]? with
  |none=>exact⟨by simp[xKy],λm hm=>by simp[xKy] at hm⟩
  |some b=>
   have:=hb b (List.mem_of_getElem? hy);simp only[qE,xKv,Bool.and_eq_true,decide_eq_true_eq] at this;exact⟨this.1.2,xGn this.2 ω this.1.1.2.2⟩
 ·exact⟨by simp[xKy],λm hm=>by simp[xKy] at hm⟩
end Mailsack
namespace Go.Proofs.QU
open Go.RowKit Mailsack MM PT
def wlen (rb:Nat) (W:World):Nat:=match W.cell? ⟨rb,0,none⟩ with
 |some (.slice _ n _)=>n
 |_=>0
theorem xRw {rb mb:Nat} {W:World} {ws:List Bs} (h:rA rb mb W ws):wlen rb W=ws.length:=by
 obtain⟨sv,h1,A,c,rfl,_⟩:=h;unfold wlen;rw[show W.cell? ⟨rb,0,none⟩=some (.slice A ws.length c) from xA h1 0]
theorem xI2 {l:List Bs} (h:qB l.length l=some []):l=[]:=by
 cases l with
 |nil=>rfl
 |cons w l=>
  exfalso
  cases hk:yV 16 (w::l) with
  |none=>rw[xGs σ hk] at h;cases h
  |some p=>
   obtain⟨k,r⟩:=p;rw[xGr hk] at h;simp only[Option.map_eq_some_iff] at h;obtain⟨_,_,h⟩:=h;cases h
theorem xZg {rb:Nat} {w w' w1:World} (h:ψ w w') (hk:Kp (nq rb) w' w1) (hB:w.heap.size<=rb):ψ w w1:=
 ⟨hk.os.trans h.os,hk.tape.trans h.tape,hk.output.trans h.output,Nat.le_trans h.size hk.size,λk hb=>(hk.block k (Nat.lt_of_lt_of_le hb h.size) (λe=>by have:=xTc.1 e;omega)).trans (h.block k hb)⟩
theorem xNw {b rb:Nat} {w w':World} {o:Obj} (h:w.heap[b]?=some o) (hk:Kp (nq rb) w w') (hne:b≠rb):w'.heap[b]?=some o:=(hk.block b (xJ h) (λe=>hne (xTc.1 e))).trans h
theorem one_fn (id:Nat) (wB:Array Value):∀u∈[Value.func (.func id) #[] wB],u.oneCell'=true:=by
 intro u hu;rw[List.mem_singleton.1 hu];rfl
structure xWc (w:World) (rb mb hi:Nat) (m:Int) (tab:List (Bs×Value)) (ws ws':List Bs) (qv:Value) (kvs:List Value) (K:List vU) (W:World):Prop where
 tab:TabAt mb hi W kinds tab
 lo:mb<hi
 hi:hi<=rb
 lt:rb+1<W.heap.size
 max:W.cell? ⟨2,0,none⟩=some (.int .i64 m)
 rdr:rA rb mb W ws'
 short:tZ ws'
 loc:W.heap[rb+1]?=some (.cells #[qv] 51 (0,0))
 own:W.ownsRow (rb+2) 88 1 qv kvs.length kvs
 klen:kvs.length=K.length
 each:∀(j:Nat) kv k,kvs[j]?=some kv->K[j]?=some k->xIt w.heap.size rb W qv.ownBlock kv (jD k)
 res:W.heap[w.heap.size]?=some (.cells #[.slice none 0 0] 51 (0,0))
 bel:ψ w W
 low:w.heap.size<mb
 pos:2<w.heap.size
 all:qB ws.length ws=(qB ws'.length ws').map (K++·)
 few:K.length+ws'.length<=ws.length
theorem xWc.env {w W:World} {rb mb hi:Nat} {m:Int} {tab:List (Bs×Value)} {ws ws':List Bs} {qv:Value} {kvs:List Value} {K:List vU} (h:xWc w rb mb hi m tab ws ws' qv kvs K W):Env ⟨w.heap.size,rb,W.heap.size⟩ rb mb hi m tab W:=
 ⟨h.tab,h.lo,h.hi,⟨Nat.le_refl _,by have:=h.lt;show rb<W.heap.size;omega⟩,⟨Nat.le_refl _,by have:=h.lt;have:=h.low;have:=h.lo;have:=h.hi;show w.heap.size<W.heap.size;omega⟩,⟨h.pos,h.low⟩,h.max⟩
theorem xWc.start {w w2:World} {m:Int} {tab:List (Bs×Value)} {ws:List Bs} {A:Option Addr} {c:Nat} (hv:RdS w w.heap.size (.slice A ws.length c) ws) (hs:tZ ws) (hm:w.cell? ⟨2,0,none⟩=some (.int .i64 m))
  (hk:uE (w.alloc (.cells #[.slice none 0 0] 51)) (w.heap.size+1) w2 25 tab):
  xWc w w2.heap.size (w.heap.size+1) w2.heap.size m tab ws ws (.slice none 0 0) [] [] ((w2.alloc (.cells #[.slice A ws.length c,.map (some (w.heap.size+1))] 86)).alloc (.cells #[.slice none 0 0] 51)):=by
 have hlt:=hk.tab.map.lt;have hb2:ψ w w2:=(φ w _).trans (hk.bel.mono σ);have hb4:=xHd w2 (.cells #[.slice A ws.length c,.map (some (w.heap.size+1))] 86) (.cells #[.slice none 0 0] 51);have hbw:=hb2.trans (hb4.mono hb2.size);have hk4:=hk.kept hb4
 refine⟨⟨hk4.tab.map,?_,?_⟩,hlt,Nat.le_refl _,σ,xBz hm hbw,⟨_,zK _ _ _,?_⟩,hs,zD _ _ _,World.ownsRow_nil _ _ _ _,rfl,λj kv k h=>by simp at h,?_,hbw,ω,World.block_lt_of_cell? w _ hm,σ,σ⟩
 ·have:=hk.tab.keys;rw[show kinds.take 25=kinds from rfl] at this;exact this
 ·intro j p k h1 h2;exact(hk.tab.each j p k h1 (by rw[show kinds.take 25=kinds from rfl];exact h2)).kept (λb _ h4=>hb4.block b h4)
 ·exact(hv.below hbw ν).more ω
 ·have h0:=xI w (.cells #[.slice none 0 0] 51);exact xC (xC h0 hk.bel σ) hb4 ω
theorem xWc.step {w wr w3 w4:World} {rb mb hi g cap n1 c1:Nat} {A1:Option Addr} {m:Int} {tab:List (Bs×Value)} {ws r0 r1:List Bs} {kvs:List Value} {K:List vU} {k:vU} {fv:Value} {o:Obj} {q:Rg}
  (hI:xWc w rb mb hi m tab ws r0 (.slice A1 n1 c1) kvs K wr) (hB3:ψ w w3) (hE3:Env q rb mb hi m tab w3) (hR3:rA rb mb w3 r1) (hs1:tZ r1)
  (p3:w3.heap[w.heap.size]?=some (.cells #[.slice none 0 0] 51 (0,0))) (hO3:w3.ownsRow (rb+2) 88 1 (.slice A1 n1 c1) n1 kvs)
  (hP3:∀(j:Nat) kv q,kvs[j]?=some kv->K[j]?=some q->xIt w.heap.size rb w3 (Value.slice A1 n1 c1).ownBlock kv (jD q)) (hN3:xIt w.heap.size rb w3 (Value.slice A1 n1 c1).ownBlock fv (jD k))
  (hg:(w3.alloc o).grownBy w4 (Value.slice A1 n1 c1).ownBlock) (hat:(Value.slice A1 n1 c1).ownBlock=some g∨g=w3.heap.size+1)
  (hown:w4.ownsRow (rb+2) 88 1 (.slice (some ⟨g,0,none⟩) (kvs.length+1) cap) (kvs.length+1) (kvs++[fv]))
  (l4:w4.heap[rb+1]?=some (.cells #[.slice A1 n1 c1] 51 (0,0))) (hrb:rb<w3.heap.size) (hall:qB ws.length ws=(qB r1.length r1).map ((K++[k])++·)) (hless:r1.length<r0.length):
  xWc w rb mb hi m tab ws r1 (.slice (some ⟨g,0,none⟩) (kvs.length+1) cap) (kvs++[fv]) (K++[k]) (w4.setCell ⟨rb+1,0,none⟩ (.slice (some ⟨g,0,none⟩) (kvs.length+1) cap)):=by
 have hlow:=hI.low;have hlo:=hI.lo;have hhi:=hI.hi;have ha:ψ w3 (w3.alloc o):=(Below.refl _ _).alloc ν o;have hb4:Below (rb+1) w3 w4:=((Below.refl _ _).alloc ω o).grown hg (by simp;omega) (λk hk=>by have:=(World.ownsRow.lt hO3 k hk).1;omega)
 have hb5:Below (rb+1) w3 (w4.setCell ⟨rb+1,0,none⟩ (.slice (some ⟨g,0,none⟩) (kvs.length+1) cap)):=
  hb4.setCell (p:=⟨rb+1,0,none⟩) ν _
 have hone:∀kv f,xIt w.heap.size rb w3 (Value.slice A1 n1 c1).ownBlock kv f->xIt w.heap.size rb (w4.setCell ⟨rb+1,0,none⟩ (.slice (some ⟨g,0,none⟩) (kvs.length+1) cap)) (some g) kv f:=λkv f h=>
  ((h.below ha).append hg (λg' e=>by have:=(World.ownsRow.lt hO3 g' e).1;omega) (hat.imp id (λe=>by rw[e];simp))).set (.inr (.inr rfl))
 refine⟨⟨?_,hE3.tab.keys,λj p k h1 h2=>(hE3.tab.each j p k h1 h2).kept (λb _ h4=>hb5.block b ω)⟩,hlo,hhi,?_,(hb5.cell (p:=⟨2,0,none⟩) (show 2<rb+1 by have:=hI.pos;omega)).trans hE3.max,?_,hs1,yC l4 0 _,?_,?_,?_,xC p3 hb5 ω,hB3.trans (hb5.mono ω),hlow,hI.pos,hall,?_⟩
 ·obtain⟨es,c,h1,h2⟩:=hE3.tab.map;exact⟨es,c,xC h1 hb5 ω,h2⟩
 ·rw[size_set];exact xJ l4
 ·obtain⟨sv,h1,h2⟩:=hR3;exact⟨sv,xC h1 hb5 (Nat.lt_succ_self _),h2.below hb5 (Nat.le_succ _)⟩
 ·rw[List.length_append,List.length_singleton];exact ownsRow_setCell_below hown (a:=⟨rb+1,0,none⟩) (Nat.lt_succ_self _) _
 ·rw[List.length_append,List.length_append,hI.klen];rfl
 ·intro j kv q' h1 h2;have hl:=hI.klen
  by_cases hj:j<kvs.length
  ·rw[List.getElem?_append_left hj] at h1;rw[List.getElem?_append_left ω] at h2;exact hone kv _ (hP3 j kv q' h1 h2)
  ·rw[List.getElem?_append_right ω] at h1;rw[List.getElem?_append_right ω] at h2
   have hj0:j-kvs.length=0:=by
    have:=(List.getElem?_eq_some_iff.1 h1).1;simp at this;omega
   rw[hj0] at h1;rw[show j-K.length=0 by omega] at h2;simp only[List.getElem?_cons_zero,Option.some.injEq] at h1 h2;subst h1 h2;exact hone _ _ hN3
 ·have:=hI.few;rw[List.length_append,List.length_singleton];omega
theorem xBs (v:Value) (ws:List Bs) (m:Int) (w:World) (hv:RdS w w.heap.size v ws) (hs:tZ ws) (hm:w.cell? ⟨2,0,none⟩=some (.int .i64 m)):
  Calls prog 12 #[v] w (yCh w (zW ws)):=by
 obtain⟨i0,hi0,hz0,hz1,hz2⟩:=info_parts infoK;have HV:=ι hv;obtain⟨A,c,rfl,hc,_⟩:=hv;have Hm:=ι hm;have Hs:=ι hs;clear hm hs;go_enter func12,ntmps12;go_wp2_with fail
 refine(xPy _).mono ?_;rintro e w2 ⟨tab,rfl,hmk⟩;rw[show(w.alloc (.cells #[.slice none 0 0] 51)).heap.size=w.heap.size+1 by simp] at hmk⊢;have HI:=ι (xWc.start HV.o Hs.o Hm.o hmk);clear hmk;go_wp2_with fail
 go_loopw [6] (λ_ wr=>∃(ws':List Bs) (qv:Value) (kvs:List Value) (K:List vU),Hid (xWc w w2.heap.size (w.heap.size+1) w2.heap.size m tab ws ws' qv kvs K wr)) (λ_ wr=>wlen w2.heap.size wr)
 case atStart=>exact⟨ws,_,[],[],HI⟩
 case round=>
  obtain⟨ws',qv,kvs,K,hI⟩:=hrel;clear HI
  obtain⟨A1,c1,rfl⟩:∃A c,qv=.slice A kvs.length c:=by
   rcases hI.o.own.2 with ⟨h1,h2⟩|⟨g,cap,cur,h1,_⟩
   ·exact⟨none,0,by rw[h1,h2]⟩
   ·exact⟨_,_,h1⟩
  obtain⟨sv,hb,A2,c2,rfl,_,_⟩:=hI.o.rdr;have k0:wr.cell? ⟨w2.heap.size,0,none⟩=some (.slice A2 ws'.length c2):=xA hb 0;have q0:wr.cell? ⟨w2.heap.size+1,0,none⟩=some (.slice A1 kvs.length c1):=xA hI.o.loc 0;have qf:wr.frozen? ⟨w2.heap.size+1,0,none⟩=false:=xD hI.o.loc 0
  have r0:wr.cell? ⟨w.heap.size,0,none⟩=some (.slice none 0 0):=xA hI.o.res 0;have rf:wr.frozen? ⟨w.heap.size,0,none⟩=false:=xD hI.o.res 0;have hlen:=hI.o.klen;have hfew:=hI.o.few;have hshort:=Hs.o.1;clear hb;cases ws' with
  |nil=>
   have hall:=hI.o.all;rw[show qB ([]:List Bs).length []=some [] from rfl] at hall;simp only[Option.map_some,List.append_nil] at hall
   by_cases hK:K=[]
   ·subst hK;have hkv:kvs=[]:=List.length_eq_zero_iff.1 hlen;subst hkv;have Hq:Hid (zW ws=none):=ι (by unfold zW;rw[if_pos (xI2 hall)])
    have rr:(wr.setCell ⟨w.heap.size,0,none⟩ (.slice none 0 0)).cell? ⟨w.heap.size,0,none⟩=some (.slice none 0 0):=xA (yC hI.o.res 0 (.slice none 0 0)) 0;have HB:=ι (hI.o.bel.setCell (p:=⟨w.heap.size,0,none⟩) ν (.slice none 0 0));clear hall hlen;go_wp2
    refine bodyPost_ret (v:=.tuple #[.agg #[.slice none 0 0],.int .i64 3]) (by simp[results,results12,go_sem,rr]) rfl ?_;rw[Hq.o];exact⟨HB.o,rfl⟩
   ·have hpos:0<kvs.length:=by rw[hlen];exact List.length_pos_iff.2 hK
    have Hq:Hid (zW ws=some K):=ι (by
     unfold zW;rw[if_neg (λe=>by rw[e] at hall;simp[qB] at hall;exact hK hall),hall])
    have h0b:((kvs.length:Int)==0)=false:=by rw[beq_eq_false_iff_ne];omega
    have rr:(wr.setCell ⟨w.heap.size,0,none⟩ (.slice A1 kvs.length c1)).cell? ⟨w.heap.size,0,none⟩=some (.slice A1 kvs.length c1):=xA (yC hI.o.res 0 (.slice A1 kvs.length c1)) 0;have HB:=ι (hI.o.bel.setCell (p:=⟨w.heap.size,0,none⟩) ν (.slice A1 kvs.length c1))
    have HKs:Hid (xDa w.heap.size (wr.setCell ⟨w.heap.size,0,none⟩ (.slice A1 kvs.length c1)) (.slice A1 kvs.length c1) kvs K):=ι
     ⟨SP.xA3 (ownsRow_setCell_below hI.o.own (a:=⟨w.heap.size,0,none⟩) (by have:=hI.o.low;have:=hI.o.lo;have:=hI.o.hi;show w.heap.size<w2.heap.size+2;omega) _) (by have:=hI.o.low;have:=hI.o.lo;have:=hI.o.hi;omega),hlen,λj kv k h1 h2=>((hI.o.each j kv k h1 h2).set (.inl rfl)).now⟩
    clear hall hlen;go_wp2;refine bodyPost_ret (v:=.tuple #[.agg #[.slice A1 kvs.length c1],.int .i64 0]) (by simp[results,results12,go_sem,rr]) rfl ?_;rw[Hq.o];exact⟨HB.o,_,kvs,rfl,HKs.o⟩
  |cons x r=>
   have hlow:=hI.o.low;have hlo:=hI.o.lo;have hhi:=hI.o.hi;have E:=xTx ⟨w.heap.size,w2.heap.size,wr.heap.size⟩ w2.heap.size (w.heap.size+1) w2.heap.size m tab 16 wr (x::r) 1 δ hI.o.env hI.o.rdr hI.o.short;rw[show((1:Nat):Int)=1 from rfl] at E;have hall:=hI.o.all
   cases hk:yV 16 (x::r) with
   |none=>
    rw[hk] at E;rw[xGs σ hk] at hall;have Hq:Hid (zW ws=none):=ι (by unfold zW;split;rfl;exact hall);have E1:=ι E;clear E hk hall;go_wp2_with fail
    refine E1.o.mono ?_;rintro e w3 ⟨hk3,v,hv,rfl⟩;have p3:=ι (xNw hI.o.res hk3 ω);have r3:w3.cell? ⟨w.heap.size,0,none⟩=some (.slice none 0 0):=xA p3.o 0;have rf3:w3.frozen? ⟨w.heap.size,0,none⟩=false:=xD p3.o 0
    have rr:(w3.setCell ⟨w.heap.size,0,none⟩ (.slice none 0 0)).cell? ⟨w.heap.size,0,none⟩=some (.slice none 0 0):=xA (yC p3.o 0 (.slice none 0 0)) 0;have HB:=ι ((xZg hI.o.bel hk3 ω).setCell (p:=⟨w.heap.size,0,none⟩) ν (.slice none 0 0));clear hk3;go_wp2
    refine bodyPost_ret (v:=.tuple #[.agg #[.slice none 0 0],.int .i64 3]) (by simp[results,results12,go_sem,rr]) rfl ?_;rw[Hq.o];exact⟨HB.o,rfl⟩
   |some p=>
    obtain⟨k,r1⟩:=p;rw[hk] at E;have hless:=jT 16 (x::r) k r1 hk;have hsh:=xEk 16 (x::r) k r1 hk hI.o.short;rw[xGr hk] at hall;have hkl:kvs.length<=1000:=by rw[List.length_cons] at hfew;omega
    have Hlen:=ι hlen;have Hfew:=ι hfew;have Hless:=ι hless;clear hlen hfew hless;have Hall:Hid (qB ws.length ws=(qB r1.length r1).map ((K++[k])++·)):=ι (by rw[hall,Option.map_map];congr 1;funext l;simp);have E1:=ι E;clear E hk hall;go_wp2_with fail
    refine E1.o.mono ?_;rintro e w3 ⟨hk3,v,rfl,hkey,hr3⟩;have yCt:=ι hkey;obtain⟨id,wB,rfl,_⟩:=hkey;have hz3:=hk3.size;have p3:=ι (xNw hI.o.res hk3 ω);have l3:=ι (xNw hI.o.loc hk3 ω);have q3:w3.cell? ⟨w2.heap.size+1,0,none⟩=some (.slice A1 kvs.length c1):=xA l3.o 0
    have HB3:=ι (xZg hI.o.bel hk3 ω);have HE3:=ι (hI.o.env.kept (hk3.widen (.inr hI.o.env.inr)));have HR3:=ι hr3;have hlt:=hI.o.lt
    have HO3:Hid (w3.ownsRow (w2.heap.size+2) 88 1 (.slice A1 kvs.length c1) kvs.length kvs):=ι (by
     refine⟨hI.o.own.1,?_⟩;rcases hI.o.own.2 with hn|⟨g,cap,cur,h1,h2,h3,h4⟩
     ·exact .inl hn
     ·exact .inr ⟨g,cap,cur,h1,h2,xNw h3 hk3 ω,h4⟩)
    have HP3:Hid (∀(j:Nat) kv q,kvs[j]?=some kv->K[j]?=some q->xIt w.heap.size w2.heap.size w3 (Value.slice A1 kvs.length c1).ownBlock kv (jD q)):=ι (λj kv q h1 h2=>by
     obtain⟨top,w0,g1,g2,g3,g4⟩:=hI.o.each j kv q h1 h2;exact⟨top,w0,g1.trans (hk3.widen (.inr ⟨Nat.le_refl _,by show w2.heap.size<top;omega⟩)),g2,g3,g4⟩)
    have HN3:Hid (xIt w.heap.size w2.heap.size w3 (Value.slice A1 kvs.length c1).ownBlock (.func (.func id) #[] wB) (jD k)):=ι
     ⟨wr.heap.size,w3,Kp.refl _ _,yCt.o,ω,λg e=>.inl (World.ownsRow.lt hI.o.own g e).2⟩
    clear hk3 hr3 q0 qf r0 rf
    go_wp2_with (at_builtin;refine wpList_append_lies _ rfl _ _ 49 rfl (w2.heap.size+2) 88 i0 .nilFunc 1 8 underlying49 hi0 hz0 hz1 hz2 rfl δ _ _ _ rfl (World.ownsRow.alloc HO3.o _) ⟨w3.heap.size,0,none⟩ 1 1 [.func (.func id) #[] wB] rfl rfl (cell_one_new _ _ _) (one_fn _ _) δ (by unfold maxLen;omega) ω (by simp;omega) (w3.heap.size+1) σ ?_;intro g cap w4 hown4 hgrow hat hlt4;have l4:=ι (wR (xM l3.o _) hgrow (λe=>by have:=(World.ownsRow.lt HO3.o _ e.symm).1;omega));have q4:w4.cell? ⟨w2.heap.size+1,0,none⟩=some (.slice A1 kvs.length c1):=xA l4.o 0;have f4:w4.frozen? ⟨w2.heap.size+1,0,none⟩=false:=xD l4.o 0;have Hown4:=ι hown4;have xFd:=ι hgrow;have Hat:=ι hat;clear hown4 hgrow hat)
    have hfin:=xWc.step hI.o HB3.o HE3.o HR3.o hsh p3.o HO3.o HP3.o HN3.o xFd.o Hat.o Hown4.o l4.o ω Hall.o Hless.o;refine⟨⟨r1,_,_,_,ι hfin⟩,?_⟩;rw[xRw hfin.rdr,xRw hI.o.rdr];exact Hless.o
end Go.Proofs.QU
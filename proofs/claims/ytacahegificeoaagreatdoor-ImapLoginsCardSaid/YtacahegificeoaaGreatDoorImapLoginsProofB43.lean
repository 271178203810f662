/- Contracts of functions. Conditions: as stated. -/
import Derived.Test.YtacahegificeoaaGreatDoorImapLoginsProofB42
set_option maxHeartbeats 8000000
set_option maxRecDepth 100000
namespace Mailsack
theorem xM6 (d:Dk):(yG d).secs.length=d.secs.length:=by
 unfold yG;split
 ·exact qW _ _ _ _
 ·rfl
theorem xVi:∀(l:List Op) (d:Dk),(vR d l).secs.length=d.secs.length
 |[],_=>rfl
 |o::l,d=>by
  show(vR (kC d o) l).secs.length=_;rw[xVi l];unfold kC;split
  ·exact xM6 d
  ·split<;>rfl
theorem xZu (l:List Op) (d:Dk) (h:yZ d=true):(vR d (l++[fOp])).cache=[]:=by
 have:vR d (l++[fOp])=kC (vR d l) fOp:=by simp[vR]
 rw[this];show(yG (vR d l)).cache=[];unfold yG;rw[if_pos (xG0 l h)]
theorem xWh {d:Dk} {u pw xE:ByteArray} (h0:lgE d u pw xE=0) (h:lgM d u pw xE=true):(lgD d u pw xE).cache=[]/\30<(lgD d u pw xE).secs.length:=by
 unfold lgM at h;unfold lgD xO0;rw[if_pos h0,if_pos h];unfold xO1 at h;simp only[Bool.and_eq_true,decide_eq_true_eq] at h;have he:=h.2;unfold xJj at he;unfold keepD;split at he
 ·rename_i hr
  rw[if_pos hr];generalize xJi u (jI d u pw) xE (mgX d u (jI d u pw) (xEw d u pw) (wH d u).xAb (xCw d u (jI d u pw))) (mgG u (mgL d u (jI d u pw) (xEw d u pw) (wH d u).xAb (xCw d u (jI d u pw))))=l at he⊢
  have hw:wN d l=0:=by
   unfold xB5 at he;split at he
   ·assumption
   ·exact absurd he (by assumption)
  have hc:vY d=true:=by
   cases hc:vY d with
   |true=>rfl
   |false=>unfold wN at hw;rw[hc] at hw;simp at hw
  unfold vY at hc;simp only[Bool.and_eq_true,decide_eq_true_eq] at hc;unfold xDd;unfold xB5 at he;rw[if_pos hw] at he⊢;split
  ·refine⟨?_,by rw[xM6,hc.1];decide⟩;unfold yG;rw[if_pos hc.2]
  ·rename_i h0
   rw[if_neg h0] at he;unfold xB2;rw[if_pos he];refine⟨?_,by rw[xVi,hc.1];decide⟩;have:jQ (wB d l)=(qJ 0 (wB d l)++[fOp,wOp 0 (xSy (wB d l).length (xIi (wB d l))),fOp]++(wB d l).map (λx=>⟨false,x⟩)++[fOp,wOp 0 (xQ 64)])++[fOp]:=by simp[jQ]
   rw[this];exact xZu _ _ hc.2
 ·cases he
theorem yE8 {d:Dk} {u pw xE:ByteArray} (h0:lgE d u pw xE=0) (h:lgM d u pw xE=false):lgD d u pw xE=d:=by
 unfold lgM at h;unfold lgD xO0;rw[if_pos h0,h]
 rfl
end Mailsack
namespace Go.Proofs.IM
open Go.RowKit MM BU Mailsack SV RK DS IX Go.Proofs.VA
theorem yDk {W W':World} {B g:Nat} {va vb:Value} {D:Dk} (h:RdD W B va vb D) (hc:D.cache=[]) (hn:30<D.secs.length) (hg:∀o,30<=o->W.cell? ⟨g,o,none⟩=none) (hk:∀b o,b≠g->W'.cell? ⟨b,o,none⟩=W.cell? ⟨b,o,none⟩):RdD W' B va vb D:=by
 refine⟨?_,?_,h.ls,h.lc⟩
 ·obtain⟨A,c,h1,h2,h3⟩:=h.s;refine⟨A,c,h1,h2,λhp=>?_⟩;obtain⟨b,off,h4,h5,h6⟩:=h3 hp;refine⟨b,off,h4,h5,λj x hx=>?_⟩;rw[hk b _ ?_]
  ·exact h6 j x hx
  ·rintro rfl;have:=h6 30 _ (List.getElem?_eq_getElem hn);rw[hg _ ω] at this;cases this
 ·obtain⟨A,c,h1,h2,h3⟩:=h.c;exact⟨A,c,h1,h2,λhp=>absurd hp (by rw[hc];simp)⟩
theorem RdD.still {W W':World} {va vb:Value} {D:Dk} (h:RdD W W.heap.size va vb D) (hs:Still W W'):RdD W' W'.heap.size va vb D:=by
 obtain⟨h1,h2,h3,h4⟩:=h;refine⟨?_,?_,h3,h4⟩
 ·unfold RdS at*;simp only[hs.1,hs.2.1];exact h1
 ·unfold RdW at*;simp only[hs.1,hs.2.1];exact h2
theorem uT.still {W W':World} {bv sv:Value} {x:yD} (h:uT 0 W bv sv x) (hs:Still W W'):uT 0 W' bv sv x:=by
 obtain⟨bl,e,k1,k2⟩:=h.bo;exact⟨⟨bl,e,xV.rE k1 λq cs hq=>hs.2.2 q cs _ _ hq δ,λp hp=>xV.rE (k2 p hp) λq cs hq=>hs.2.2 q cs _ _ hq δ⟩,xV.rE h.su λq cs hq=>hs.2.2 q cs _ _ hq δ⟩
structure LgR where
 su:ByteArray
 sp:ByteArray
 so:ByteArray
 se:Int
 gv:Int
 A6:Option Addr
 n6:Nat
 k6:Nat
 A7:Option Addr
 n7:Nat
 k7:Nat
 A11:Option Addr
 n11:Nat
 k11:Nat
 A12:Option Addr
 n12:Nat
 k12:Nat
def LgR.ses (R:LgR):Value:=xTv R.su R.sp R.so R.se (.slice R.A6 R.n6 R.k6) (.slice R.A7 R.n7 R.k7) R.gv
def LgR.dsk (R:LgR):Value:=.agg #[.slice R.A11 R.n11 R.k11,.slice R.A12 R.n12 R.k12]
def LgR.tup (R:LgR) (er:Int):Value:=.tuple #[R.ses,R.dsk,.int .i64 er]
def LgR.sesB (R:LgR):Obj:=vO R.su R.sp R.so R.se (.slice R.A6 R.n6 R.k6) (.slice R.A7 R.n7 R.k7) R.gv
def LgR.dskB (R:LgR):Obj:=xX (.slice R.A11 R.n11 R.k11) (.slice R.A12 R.n12 R.k12)
def xMy (d:Dk) (u pw xE:ByteArray) (d0 d1:Value) (R:LgR) (W:World):Prop:=
 lgE d u pw xE=0->(R.su=u/\R.sp=jI d u pw/\R.so=xEw d u pw/\R.se=(wH d u).xAb/\R.gv=(lgX d u pw xE).given)/\uT 0 W (.slice R.A6 R.n6 R.k6) (.slice R.A7 R.n7 R.k7) (lgX d u pw xE)/\
  (lgM d u pw xE=false->Value.slice R.A11 R.n11 R.k11=d0/\Value.slice R.A12 R.n12 R.k12=d1)/\(lgM d u pw xE=true->RdD W W.heap.size (.slice R.A11 R.n11 R.k11) (.slice R.A12 R.n12 R.k12) (lgD d u pw xE))
section
variable {d:Dk} {u pw xE:ByteArray} {d0 d1:Value} {R:LgR} {W W':World}
theorem xMy.below (h:xMy d u pw xE d0 d1 R W) (hb:Below W.heap.size W W'):xMy d u pw xE d0 d1 R W':=λh0=>by
 obtain⟨h1,h2,h3,h4⟩:=h h0;exact⟨h1,h2.below hb,h3,λe=>((h4 e).below hb ν).more hb.size⟩
theorem xMy.put (h:xMy d u pw xE d0 d1 R W) {g:Nat} {cs:Array Value} {T:TypeId} (hg:W.heap[g]?=some (.cells cs T (0,0))) (hs:cs.size<=30) (t1:T≠68) (t2:T≠122) (t3:T≠9) (xs:List Value) (i:Nat):xMy d u pw xE d0 d1 R (xU g i xs W):=λh0=>by
 obtain⟨h1,h2,h3,h4⟩:=h h0;have hsz:=(xZ (b:=g) (B:=0) (Nat.zero_le _) xs i W (Below.refl 0 W)).size;refine⟨h1,h2.set hg t1 t2 t3 xs i,h3,λe=>(yDk (h4 e) (xWh h0 e).1 (xWh h0 e).2 (g:=g) (λo ho=>?_) (λb o hne=>?_)).more hsz⟩
 ·rw[xA hg,Array.getElem?_eq_none ω]
 ·rcases wP (g:=g) xs i W b o with e|⟨e,_,_⟩
  ·exact e
  ·exact absurd e hne
theorem xMy.still (h:xMy d u pw xE d0 d1 R W) (hs:Still W W'):xMy d u pw xE d0 d1 R W':=λh0=>by
 obtain⟨h1,h2,h3,h4⟩:=h h0;exact⟨h1,uT.still h2 hs,h3,λe=>RdD.still (h4 e) hs⟩
end
structure LgJ (w1:World) (d:Dk) (u pw xE:ByteArray) (d0 d1:Value) (er:Int) (L:Nat->Bool) (α:Nat->Value) (W:World):Prop where
 b:Below w1.heap.size w1 W
 c:L 15=true->∃R:LgR,α 15=R.tup er/\xMy d u pw xE d0 d1 R W/\(L 16=true->α 16=R.tup er)/\(L 17=true->α 17=R.ses)/\(L 18=true->α 18=R.dsk)/\(L 22=true->∃g,α 20=.pointer (some ⟨g,0,none⟩)/\W.heap[g]?=some R.sesB)/\(L 23=true->∃g,α 21=.pointer (some ⟨g,0,none⟩)/\W.heap[g]?=some R.dskB)
 f22:L 22=true->L 15=true/\L 20=true
 f23:L 23=true->L 15=true/\L 21=true
 n20:L 20=true->∃g,α 20=.pointer (some ⟨g,0,none⟩)/\w1.heap.size<=g/\(L 22=false->W.heap[g]?=some vJ)
 n21:L 21=true->∃g,α 21=.pointer (some ⟨g,0,none⟩)/\w1.heap.size<=g/\(L 23=false->W.heap[g]?=some vB)
section
variable {w1:World} {d:Dk} {u pw xE:ByteArray} {d0 d1:Value} {er:Int} {L L':Nat->Bool} {α α':Nat->Value} {W W':World}
theorem LgJ.congr (h:LgJ w1 d u pw xE d0 d1 er L α W) (hl:∀i,15<=i->i<=23->i≠19->L i=L' i) (ha:∀i,i=15∨i=16∨i=17∨i=18∨i=20∨i=21->L i=true->α i=α' i):LgJ w1 d u pw xE d0 d1 er L' α' W:=by
 have l15:=hl 15 ω ω ω;have l16:=hl 16 ω ω ω;have l17:=hl 17 ω ω ω;have l18:=hl 18 ω ω ω;have l20:=hl 20 ω ω ω;have l21:=hl 21 ω ω ω;have l22:=hl 22 ω ω ω;have l23:=hl 23 ω ω ω;refine⟨h.b,λe=>?_,λe=>?_,λe=>?_,λe=>?_,λe=>?_⟩
 ·obtain⟨R,h1,h2,h3,h4,h5,h6,h7⟩:=h.c (l15.trans e);refine⟨R,(ha 15 σ (l15.trans e))▸h1,h2,λe=>(ha 16 σ (l16.trans e))▸h3 (l16.trans e),λe=>(ha 17 σ (l17.trans e))▸h4 (l17.trans e),λe=>(ha 18 σ (l18.trans e))▸h5 (l18.trans e),λe=>?_,λe=>?_⟩
  ·obtain⟨g,g1,g2⟩:=h6 (l22.trans e);exact⟨g,(ha 20 σ (h.f22 (l22.trans e)).2)▸g1,g2⟩
  ·obtain⟨g,g1,g2⟩:=h7 (l23.trans e);exact⟨g,(ha 21 σ (h.f23 (l23.trans e)).2)▸g1,g2⟩
 ·rw[<-l15,<-l20];exact h.f22 (l22.trans e)
 ·rw[<-l15,<-l21];exact h.f23 (l23.trans e)
 ·obtain⟨g,g1,g2,g3⟩:=h.n20 (l20.trans e);exact⟨g,(ha 20 σ (l20.trans e))▸g1,g2,λe=>g3 (l22.trans e)⟩
 ·obtain⟨g,g1,g2,g3⟩:=h.n21 (l21.trans e);exact⟨g,(ha 21 σ (l21.trans e))▸g1,g2,λe=>g3 (l23.trans e)⟩
theorem LgJ.call (h:LgJ w1 d u pw xE d0 d1 er L α W) (h16:L 16=false) (h17:L 17=false) (h18:L 18=false) (h22:L 22=false) (h23:L 23=false) (hb:Below W.heap.size W W') {R:LgR} (hR:xMy d u pw xE d0 d1 R W'):LgJ w1 d u pw xE d0 d1 er (λj=>j==15||L j) (RG.wF α 15 (R.tup er)) W':=by
 refine⟨h.b.trans (hb.mono h.b.size),λ_=>⟨R,RG.zF _ _ _,hR,λe=>?_,λe=>?_,λe=>?_,λe=>?_,λe=>?_⟩,λe=>?_,λe=>?_,λe=>?_,λe=>?_⟩
 ·simp[h16] at e
 ·simp[h17] at e
 ·simp[h18] at e
 ·simp[h22] at e
 ·simp[h23] at e
 ·simp[h22] at e
 ·simp[h23] at e
 ·obtain⟨g,g1,g2,g3⟩:=h.n20 (by simpa using e);exact⟨g,by simpa[RG.wF] using g1,g2,λ_=>xB (g3 h22) hb (xG (g3 h22))⟩
 ·obtain⟨g,g1,g2,g3⟩:=h.n21 (by simpa using e);exact⟨g,by simpa[RG.wF] using g1,g2,λ_=>xB (g3 h23) hb (xG (g3 h23))⟩
theorem LgJ.val (h:LgJ w1 d u pw xE d0 d1 er L α W) (h15:L 15=true):∃R:LgR,α 15=R.tup er/\(L 16=true->α 16=R.tup er)/\∀(i:Nat) (v:Value),(i=16/\v=R.tup er)∨(i=17/\v=R.ses)∨(i=18/\v=R.dsk)->LgJ w1 d u pw xE d0 d1 er (λj=>j==i||L j) (RG.wF α i v) W:=by
 obtain⟨R,h1,h2,h3,h4,h5,h6,h7⟩:=h.c h15;refine⟨R,h1,h3,λi v hv=>?_⟩;have hi:i=16∨i=17∨i=18:=by rcases hv with ⟨e,_⟩|⟨e,_⟩|⟨e,_⟩<;>simp[e]
 have n15:(15:Nat)≠i:=by omega
 have n20:(20:Nat)≠i:=by omega
 have n21:(21:Nat)≠i:=by omega
 have n22:(22:Nat)≠i:=by omega
 have n23:(23:Nat)≠i:=by omega
 refine⟨h.b,λ_=>⟨R,by rw[RG.vP _ _ _ n15];exact h1,h2,λe=>?_,λe=>?_,λe=>?_,λe=>?_,λe=>?_⟩,λe=>?_,λe=>?_,λe=>?_,λe=>?_⟩
 ·by_cases e2:16=i
  ·subst e2;rw[RG.zF];simpa using hv
  ·rw[RG.vP _ _ _ e2];exact h3 (by simpa[e2] using e)
 ·by_cases e2:17=i
  ·subst e2;rw[RG.zF];simpa using hv
  ·rw[RG.vP _ _ _ e2];exact h4 (by simpa[e2] using e)
 ·by_cases e2:18=i
  ·subst e2;rw[RG.zF];simpa using hv
  ·rw[RG.vP _ _ _ e2];exact h5 (by simpa[e2] using e)
 ·rw[RG.vP _ _ _ n20];exact h6 (by simpa[n22] using e)
 ·rw[RG.vP _ _ _ n21];exact h7 (by simpa[n23] using e)
 ·have:=h.f22 (by simpa[n22] using e);simp[this.1,this.2]
 ·have:=h.f23 (by simpa[n23] using e);simp[this.1,this.2]
 ·rw[RG.vP _ _ _ n20];obtain⟨g,g1,g2,g3⟩:=h.n20 (by simpa[n20] using e);exact⟨g,g1,g2,λe=>g3 (by simpa[n22] using e)⟩
 ·rw[RG.vP _ _ _ n21];obtain⟨g,g1,g2,g3⟩:=h.n21 (by simpa[n21] using e);exact⟨g,g1,g2,λe=>g3 (by simpa[n23] using e)⟩
theorem LgJ.new20 (h:LgJ w1 d u pw xE d0 d1 er L α W) (hs:L 22=false):LgJ w1 d u pw xE d0 d1 er (λj=>j==20||L j) (RG.wF α 20 (.pointer (some ⟨W.heap.size,0,none⟩))) (W.alloc vJ):=by
 have ha:=(Below.refl W.heap.size W).alloc ν vJ;refine⟨h.b.alloc h.b.size _,λe=>?_,λe=>?_,λe=>?_,λe=>?_,λe=>?_⟩
 ·obtain⟨R,h1,h2,h3,h4,h5,h6,h7⟩:=h.c (by simpa using e);refine⟨R,by simpa[RG.wF] using h1,h2.below ha,λe=>by simpa[RG.wF] using h3 (by simpa using e),λe=>by simpa[RG.wF] using h4 (by simpa using e),λe=>by simpa[RG.wF] using h5 (by simpa using e),λe=>?_,λe=>?_⟩
  ·simp[hs] at e
  ·obtain⟨g,g1,g2⟩:=h7 (by simpa using e);exact⟨g,by simpa[RG.wF] using g1,xK g2 _⟩
 ·have:=h.f22 (by simpa using e);simp[this.1,this.2]
 ·have:=h.f23 (by simpa using e);simp[this.1,this.2]
 ·exact⟨W.heap.size,RG.zF _ _ _,h.b.size,λ_=>xL _ _⟩
 ·obtain⟨g,g1,g2,g3⟩:=h.n21 (by simpa using e);exact⟨g,by simpa[RG.wF] using g1,g2,λe=>xK (g3 (by simpa using e)) _⟩
theorem LgJ.new21 (h:LgJ w1 d u pw xE d0 d1 er L α W) (hs:L 23=false):LgJ w1 d u pw xE d0 d1 er (λj=>j==21||L j) (RG.wF α 21 (.pointer (some ⟨W.heap.size,0,none⟩))) (W.alloc vB):=by
 have ha:=(Below.refl W.heap.size W).alloc ν vB;refine⟨h.b.alloc h.b.size _,λe=>?_,λe=>?_,λe=>?_,λe=>?_,λe=>?_⟩
 ·obtain⟨R,h1,h2,h3,h4,h5,h6,h7⟩:=h.c (by simpa using e);refine⟨R,by simpa[RG.wF] using h1,h2.below ha,λe=>by simpa[RG.wF] using h3 (by simpa using e),λe=>by simpa[RG.wF] using h4 (by simpa using e),λe=>by simpa[RG.wF] using h5 (by simpa using e),λe=>?_,λe=>?_⟩
  ·obtain⟨g,g1,g2⟩:=h6 (by simpa using e);exact⟨g,by simpa[RG.wF] using g1,xK g2 _⟩
  ·simp[hs] at e
 ·have:=h.f22 (by simpa using e);simp[this.1,this.2]
 ·have:=h.f23 (by simpa using e);simp[this.1,this.2]
 ·obtain⟨g,g1,g2,g3⟩:=h.n20 (by simpa using e);exact⟨g,by simpa[RG.wF] using g1,g2,λe=>xK (g3 (by simpa using e)) _⟩
 ·exact⟨W.heap.size,RG.zF _ _ _,h.b.size,λ_=>xL _ _⟩
theorem LgJ.set22 (h:LgJ w1 d u pw xE d0 d1 er L α W) (h0:L 22=false) (h15:L 15=true) (hv:L 17=true) (hc:L 20=true):∃(R:LgR) (g:Nat),α 17=R.ses/\α 20=.pointer (some ⟨g,0,none⟩)/\W.heap[g]?=some vJ/\w1.heap.size<=g/\LgJ w1 d u pw xE d0 d1 er (λj=>j==22||L j) α (xU g 0 [.string R.su,.string R.sp,.string R.so,.int .i64 R.se,.slice R.A6 R.n6 R.k6,.slice R.A7 R.n7 R.k7,.int .i64 R.gv] W):=by
 obtain⟨R,h1,h2,h3,h4,h5,h6,h7⟩:=h.c h15;obtain⟨g,g1,g2,g3⟩:=h.n20 hc;have hg:=g3 h0;have hs:=yU (b:=g) (l:=[.string R.su,.string R.sp,.string R.so,.int .i64 R.se,.slice R.A6 R.n6 R.k6,.slice R.A7 R.n7 R.k7,.int .i64 R.gv]) hg rfl
 refine⟨R,g,h4 hv,g1,hg,g2,⟨xZ ω _ 0 _ h.b,λ_=>⟨R,h1,h2.put hg δ δ δ δ _ 0,λe=>h3 (by simpa using e),λe=>h4 (by simpa using e),λe=>h5 (by simpa using e),λe=>?_,λe=>?_⟩,λe=>?_,λe=>?_,λe=>?_,λe=>?_⟩⟩
 ·exact⟨g,g1,hs⟩
 ·obtain⟨g',k1,k2⟩:=h7 (by simpa using e);exact⟨g',k1,xM (λe=>by rw[e,hg] at k2;injection k2 with k2;injection k2 with _ k2 _;exact absurd k2 δ) _ 0 _ k2⟩
 ·exact⟨by simp[h15],by simp[hc]⟩
 ·have:=h.f23 (by simpa using e);simp[this.1,this.2]
 ·exact⟨g,g1,g2,λe=>by simp at e⟩
 ·obtain⟨g',k1,k2,k3⟩:=h.n21 (by simpa using e);exact⟨g',k1,k2,λe=>xM (λe2=>by have k4:=k3 (by simpa using e);rw[e2,hg] at k4;injection k4 with k4;injection k4 with _ k4 _;exact absurd k4 δ) _ 0 _ (k3 (by simpa using e))⟩
theorem LgJ.set23 (h:LgJ w1 d u pw xE d0 d1 er L α W) (h0:L 23=false) (h15:L 15=true) (hv:L 18=true) (hc:L 21=true):∃(R:LgR) (g:Nat),α 18=R.dsk/\α 21=.pointer (some ⟨g,0,none⟩)/\W.heap[g]?=some vB/\w1.heap.size<=g/\LgJ w1 d u pw xE d0 d1 er (λj=>j==23||L j) α (xU g 0 [.slice R.A11 R.n11 R.k11,.slice R.A12 R.n12 R.k12] W):=by
 obtain⟨R,h1,h2,h3,h4,h5,h6,h7⟩:=h.c h15;obtain⟨g,g1,g2,g3⟩:=h.n21 hc;have hg:=g3 h0;have hs:=yU (b:=g) (l:=[.slice R.A11 R.n11 R.k11,.slice R.A12 R.n12 R.k12]) hg rfl
 refine⟨R,g,h5 hv,g1,hg,g2,⟨xZ ω _ 0 _ h.b,λ_=>⟨R,h1,h2.put hg δ δ δ δ _ 0,λe=>h3 (by simpa using e),λe=>h4 (by simpa using e),λe=>h5 (by simpa using e),λe=>?_,λe=>?_⟩,λe=>?_,λe=>?_,λe=>?_,λe=>?_⟩⟩
 ·obtain⟨g',k1,k2⟩:=h6 (by simpa using e);exact⟨g',k1,xM (λe=>by rw[e,hg] at k2;injection k2 with k2;injection k2 with _ k2 _;exact absurd k2 δ) _ 0 _ k2⟩
 ·exact⟨g,g1,hs⟩
 ·have:=h.f22 (by simpa using e);simp[this.1,this.2]
 ·exact⟨by simp[h15],by simp[hc]⟩
 ·obtain⟨g',k1,k2,k3⟩:=h.n20 (by simpa using e);exact⟨g',k1,k2,λe=>xM (λe2=>by have k4:=k3 (by simpa using e);rw[e2,hg] at k4;injection k4 with k4;injection k4 with _ k4 _;exact absurd k4 δ) _ 0 _ (k3 (by simpa using e))⟩
 ·exact⟨g,g1,g2,λe=>by simp at e⟩
end
def LgK (d:Dk) (u pw xE:ByteArray) (d0 d1 s7 s8 s9:Value) (vs:List Value) (l:Bs) (W:World):Prop:=
 ∃R:LgR,vs=[.slice R.A11 R.n11 R.k11,.slice R.A12 R.n12 R.k12,.string R.su,.string R.sp,.string R.so,.int .i64 R.se,.slice R.A6 R.n6 R.k6,.slice R.A7 R.n7 R.k7,.int .i64 R.gv,s7,s8,s9]/\l=[]/\lgE d u pw xE=0/\xMy d u pw xE d0 d1 R W
theorem LgK.stb (d:Dk) (u pw xE:ByteArray) (d0 d1 s7 s8 s9:Value) (vs:List Value) (l:Bs):Stb (LgK d u pw xE d0 d1 s7 s8 s9 vs l):=by
 refine⟨λh hs=>?_,λxs h hg ho=>?_⟩
 ·obtain⟨R,h1,h2,h3,h4⟩:=h;exact⟨R,h1,h2,h3,h4.still hs⟩
 ·obtain⟨R,h1,h2,h3,h4⟩:=h;rcases ho with rfl|rfl
  ·exact⟨R,h1,h2,h3,h4.put hg δ δ δ δ xs 0⟩
  ·exact⟨R,h1,h2,h3,h4.put hg δ δ δ δ xs 0⟩
structure LgC (w1:World) (b:Nat) (d:Dk) (u pw xE:ByteArray) (d0 d1 s0 s1 s2 s3 s4 s5 s6 s7 s8 s9 n1 n2 n3 n4 n5 sl:Value) (R:LgR) (g20 g21:Nat) (c1 c2:Bool) (W:World):Prop where
 bl:Below b w1 W
 at_:xMy d u pw xE d0 d1 R W
 c:W.heap[b]?=some (.cells #[if c1 then .slice R.A11 R.n11 R.k11 else d0,if c1 then .slice R.A12 R.n12 R.k12 else d1,if c2 then .string R.su else s0,if c2 then .string R.sp else s1,if c2 then .string R.so else s2,if c2 then .int .i64 R.se else s3,if c2 then .slice R.A6 R.n6 R.k6 else s4,if c2 then .slice R.A7 R.n7 R.k7 else s5,if c2 then .int .i64 R.gv else s6,s7,s8,s9,.string xE,n1,n2,n3,n4,n5,sl,.bool false,.pointer none,.slice none 0 0] 83 (0,0))
 s:W.heap[g20]?=some R.sesB
 k:W.heap[g21]?=some R.dskB
theorem LgC.kE {w1 W:World} {b:Nat} {d:Dk} {u pw xE:ByteArray} {d0 d1 s0 s1 s2 s3 s4 s5 s6 s7 s8 s9 n1 n2 n3 n4 n5 sl:Value} {R:LgR} {g20 g21:Nat} {c2:Bool} (h:LgC w1 b d u pw xE d0 d1 s0 s1 s2 s3 s4 s5 s6 s7 s8 s9 n1 n2 n3 n4 n5 sl R g20 g21 false c2 W):LgC w1 b d u pw xE d0 d1 s0 s1 s2 s3 s4 s5 s6 s7 s8 s9 n1 n2 n3 n4 n5 sl R g20 g21 true c2 (xU b 0 [.slice R.A11 R.n11 R.k11,.slice R.A12 R.n12 R.k12] W):=by
 have hc:=h.c
 exact⟨xZ ν _ 0 _ h.bl,h.at_.put hc σ δ δ δ _ 0,(kR [.slice R.A11 R.n11 R.k11,.slice R.A12 R.n12 R.k12] 0 W _ hc σ).trans rfl,
  xM (λe=>by have k2:=h.s;rw[e,hc] at k2;injection k2 with k2;injection k2 with _ k2 _;exact absurd k2 δ) _ 0 _ h.s,xM (λe=>by have k2:=h.k;rw[e,hc] at k2;injection k2 with k2;injection k2 with _ k2 _;exact absurd k2 δ) _ 0 _ h.k⟩
theorem LgC.xRy {w1 W:World} {b:Nat} {d:Dk} {u pw xE:ByteArray} {d0 d1 s0 s1 s2 s3 s4 s5 s6 s7 s8 s9 n1 n2 n3 n4 n5 sl:Value} {R:LgR} {g20 g21:Nat} {c1:Bool} (h:LgC w1 b d u pw xE d0 d1 s0 s1 s2 s3 s4 s5 s6 s7 s8 s9 n1 n2 n3 n4 n5 sl R g20 g21 c1 false W):LgC w1 b d u pw xE d0 d1 s0 s1 s2 s3 s4 s5 s6 s7 s8 s9 n1 n2 n3 n4 n5 sl R g20 g21 c1 true (xU b 2 [.string R.su,.string R.sp,.string R.so,.int .i64 R.se,.slice R.A6 R.n6 R.k6,.slice R.A7 R.n7 R.k7,.int .i64 R.gv] W):=by
 have hc:=h.c
 exact⟨xZ ν _ 2 _ h.bl,h.at_.put hc σ δ δ δ _ 2,(kR [.string R.su,.string R.sp,.string R.so,.int .i64 R.se,.slice R.A6 R.n6 R.k6,.slice R.A7 R.n7 R.k7,.int .i64 R.gv] 2 W _ hc σ).trans rfl,
  xM (λe=>by have k2:=h.s;rw[e,hc] at k2;injection k2 with k2;injection k2 with _ k2 _;exact absurd k2 δ) _ 2 _ h.s,xM (λe=>by have k2:=h.k;rw[e,hc] at k2;injection k2 with k2;injection k2 with _ k2 _;exact absurd k2 δ) _ 2 _ h.k⟩
theorem xWf (b:Nat) (d0 d1 s1 s2 s3 s4 s5 s6 s7 s8 s9 n1 n2 n3 n4 n5 sl:Value) (d:Dk) (u pw xE:ByteArray) (W:World) (hC:Cmd b #[d0,d1,.string ⟨#[]⟩,s1,s2,s3,s4,s5,s6,s7,s8,s9,.string xE,n1,n2,n3,n4,n5,sl,.bool false,.pointer none,.slice none 0 0] [] W)
  (hone:∀v∈[s7,s8,s9],v.oneCell'=true) (hD:RdD W b d0 d1 d) (hA:RdR 2 tkF W W.heap.size sl [(0,u.data.toList),(0,pw.data.toList)]) (hu:u.size<=1000) (hp:pw.size<=1000000) (hc:d.cache.length<=10000) (hT:VaT W):
  Calls Tryz.prog 54 #[xY0 b] W (xOx (LgK d u pw xE d0 d1 s7 s8 s9) (lgE d u pw xE≠0) False b (.string xE) n1 n2 n3 n4 n5 sl W):=by
 have HAL:=ι (xYk [(0,u.data.toList),(0,pw.data.toList)] sl W hA (by intro t ht;simp at ht;rcases ht with rfl|rfl<;>rfl) σ σ);have hbl:=xG hC.blk;have HBL:=ι hbl
 have HLG:=ι (λw (hb:Below W.heap.size W w)=>xLr d0 d1 d u pw xE w ((hD.below hb (Nat.le_of_lt hbl)).more (Nat.le_trans (Nat.le_of_lt hbl) hb.size)) hu hp hc (hT.below hb));have HC0:=ι hC;have xMz:=ι hone;obtain⟨er,her⟩:∃er,lgE d u pw xE=er:=⟨_,rfl⟩;have HER:=ι her
 clear hA hD hu hp hc hT hC hone her;go_enter Tryz.func54,Tryz.ntmps54;have k18:W.cell? ⟨b,18,none⟩=some sl:=xA HC0.o.blk 18;go_wp2_with fail
 refine HAL.o.mono ?_;rintro e w1 ⟨A9,c9,rfl,ho,hb1⟩;obtain⟨A,c,e9,_,h3⟩:=ho.rd xC3;injection e9 with e9 e9' e9'';obtain⟨g9,off9,e10,hg9,hcl⟩:=h3 σ;rw[e10] at e9;subst e9;have HF:=ι (And.intro hg9 (And.intro (hcl 0 _ rfl 0 _ rfl) (hcl 1 _ rfl 0 _ rfl)))
 have H1:=ι (And.intro hb1 (xB HC0.o.blk hb1 hbl));simp only[List.length_cons,List.length_nil,Nat.reduceAdd];clear ho hcl h3 hb1 e9' e9'' e10 hg9 HAL k18;go_upto_region 4 with fail
 refine RG.uB [22,23] [15,16,17,18,20,21] (λL α W9=>Hid (LgJ w1 d u pw xE d0 d1 er L α W9)) (λL L' α α' W hl ha h=>ι (h.o.congr (λi h1 h2 h3=>hl i (by simp;omega)) (λi hi=>ha i (by simp;omega)))) κ κ κ (ι ⟨(Below.refl _ _).drew,λe=>(by cases e),λe=>(by cases e),λe=>(by cases e),λe=>(by cases e),λe=>(by cases e)⟩) ?_
 iterate 3 refine RG.vS ?_
 refine RG.vF (λα L w9 h0 hcl xN hw9=>have hb:=xB H1.o.2 hw9.o.b (xG H1.o.2);zQ hb) ?_;iterate 2 refine RG.vS ?_
 apply RG.uA
 ·rfl
 ·rfl
 ·intro α L w9 h0 hcl xN hw9;have q0:=(hw9.o.b.cell (p:=⟨g9,off9+0*1+0,none⟩) HF.o.1).trans HF.o.2.1;rw[show off9+0*1+0=off9 by omega] at q0;repeat go_step
  with_reducible exact RG.xD hw9
 ·intro α;rfl
 iterate 2 refine RG.vS ?_
 apply RG.uA
 ·rfl
 ·rfl
 ·intro α L w9 h0 hcl xN hw9;have q0:=(hw9.o.b.cell (p:=⟨g9,off9+1*1+0,none⟩) HF.o.1).trans HF.o.2.2;rw[show off9+1*1+0=off9+1 by omega] at q0;repeat go_step
  with_reducible exact RG.xD hw9
 ·intro α;rfl
 iterate 4 refine RG.vS ?_
 apply RG.uA
 ·rfl
 ·rfl
 ·intro α L w9 h0 hcl xN hw9;have hb:=xB H1.o.2 hw9.o.b (xG H1.o.2);have c0:=xA hb 12;simp only[gA,gB,gC] at c0;clear hb;repeat go_step
  with_reducible exact RG.xD hw9
 ·intro α;rfl
 apply RG.qL
 ·rfl
 ·intro α L w9 h0 hcl xN hw9;have e16:L 16=false:=hcl.not 25 (i:=16) h0 κ;have e17:L 17=false:=hcl.not 25 (i:=17) h0 κ;have e18:L 18=false:=hcl.not 25 (i:=18) h0 κ;have e22:L 22=false:=hcl.not 25 (i:=22) h0 κ;have e23:L 23=false:=hcl.not 25 (i:=23) h0 κ;repeat go_step
  refine(HLG.o w9 (H1.o.1.trans (hw9.o.b.mono H1.o.1.size))).mono ?_;rintro e w10 ⟨su,sp,so,se,bv,sv,va,vb,rfl,hx1,hx2,ho,hr,hb⟩;obtain⟨A6,n6,k6,A7,n7,k7,rfl,rfl⟩:=ho.form;obtain⟨A11,k11,A12,k12,rfl,rfl⟩:=yE hr
  have HJ:=ι (hw9.o.call e16 e17 e18 e22 e23 hb (R:=⟨su,sp,so,se,(lgX d u pw xE).given,A6,n6,k6,A7,n7,k7,A11,(lgD d u pw xE).secs.length,k11,A12,(lgD d u pw xE).cache.length,k12⟩) (λh0=>⟨⟨(hx1 h0).1,(hx1 h0).2.1,(hx1 h0).2.2.1,(hx1 h0).2.2.2,rfl⟩,ho,hx2 h0,λ_=>hr⟩))
  clear hx1 hx2 ho hr hb hw9;rw[HER.o];simp only[];repeat go_step
  exact⟨rfl,_,rfl,HJ⟩
 ·intro b α;rfl
 apply RG.qL
 ·rfl
 ·intro α L w9 h0 hcl xN hw9
  have f15:L 15=true:=by
   have:=xN.yes 25 (i:=16) (j:=15) σ κ;simpa using this
  obtain⟨R,q1,q2,q3⟩:=hw9.o.val f15;have HJ:=ι (q3 16 _ (.inl ⟨rfl,q1⟩));clear q1 q2 q3 hw9;repeat go_step
  exact⟨rfl,_,rfl,HJ⟩
 ·intro b α;rfl
 apply RG.jC
 ·rfl
 ·intro α L w9 h0 hcl xN hw9
  have f15:L 15=true:=by
   have:=xN.yes 25 (i:=17) (j:=15) σ κ;simpa using this
  have f16:L 16=true:=by
   have:=xN.yes 25 (i:=17) (j:=16) σ κ;simpa using this
  obtain⟨⟨su,sp,so,se,gv,A6,n6,k6,A7,n7,k7,A11,n11,k11,A12,n12,k12⟩,q1,q2,q3⟩:=hw9.o.val f15
  have Q:Hid (α 16=(.tuple #[.agg #[.string su,.string sp,.string so,.int .i64 se,.slice A6 n6 k6,.slice A7 n7 k7,.int .i64 gv],.agg #[.slice A11 n11 k11,.slice A12 n12 k12],.int .i64 er])):=ι (q2 f16)
  refine⟨(.agg #[.string su,.string sp,.string so,.int .i64 se,.slice A6 n6 k6,.slice A7 n7 k7,.int .i64 gv]),λbv hbv=>?_⟩;have HJ:=ι (q3 17 bv (.inr (.inl ⟨rfl,hbv⟩)));rw[show α (0+1+1+1+1+1+1+1+1+1+1+1+1+1+1+1+1)=_ from Q.o];clear q1 q2 q3 hw9;repeat go_step
  rw[<-show α (0+1+1+1+1+1+1+1+1+1+1+1+1+1+1+1+1)=_ from Q.o,<-hbv];with_reducible refine RG.xD ?_
  exact HJ
 ·intro b α;rfl
 apply RG.jC
 ·rfl
 ·intro α L w9 h0 hcl xN hw9
  have f15:L 15=true:=by
   have:=xN.yes 25 (i:=18) (j:=15) σ κ;simpa using this
  have f16:L 16=true:=by
   have:=xN.yes 25 (i:=18) (j:=16) σ κ;simpa using this
  obtain⟨⟨su,sp,so,se,gv,A6,n6,k6,A7,n7,k7,A11,n11,k11,A12,n12,k12⟩,q1,q2,q3⟩:=hw9.o.val f15
  have Q:Hid (α 16=(.tuple #[.agg #[.string su,.string sp,.string so,.int .i64 se,.slice A6 n6 k6,.slice A7 n7 k7,.int .i64 gv],.agg #[.slice A11 n11 k11,.slice A12 n12 k12],.int .i64 er])):=ι (q2 f16);refine⟨(.agg #[.slice A11 n11 k11,.slice A12 n12 k12]),λbv hbv=>?_⟩
  have HJ:=ι (q3 18 bv (.inr (.inr ⟨rfl,hbv⟩)));rw[show α (0+1+1+1+1+1+1+1+1+1+1+1+1+1+1+1+1)=_ from Q.o];clear q1 q2 q3 hw9;repeat go_step
  rw[<-show α (0+1+1+1+1+1+1+1+1+1+1+1+1+1+1+1+1)=_ from Q.o,<-hbv];with_reducible refine RG.xD ?_
  exact HJ
 ·intro b α;rfl
 apply RG.uA (v:=.int .i64 er)
 ·rfl
 ·rfl
 ·intro α L w9 h0 hcl xN hw9
  have f15:L 15=true:=by
   have:=xN.yes 25 (i:=19) (j:=15) σ κ;simpa using this
  have f16:L 16=true:=by
   have:=xN.yes 25 (i:=19) (j:=16) σ κ;simpa using this
  obtain⟨⟨su,sp,so,se,gv,A6,n6,k6,A7,n7,k7,A11,n11,k11,A12,n12,k12⟩,q1,q2,q3⟩:=hw9.o.val f15
  have Q:Hid (α 16=(.tuple #[.agg #[.string su,.string sp,.string so,.int .i64 se,.slice A6 n6 k6,.slice A7 n7 k7,.int .i64 gv],.agg #[.slice A11 n11 k11,.slice A12 n12 k12],.int .i64 er])):=ι (q2 f16);rw[show α (0+1+1+1+1+1+1+1+1+1+1+1+1+1+1+1+1)=_ from Q.o];clear q1 q2 q3
  repeat go_step
  rw[<-show α (0+1+1+1+1+1+1+1+1+1+1+1+1+1+1+1+1)=_ from Q.o];with_reducible exact RG.xD hw9
 ·intro α;rfl
 apply RG.jC
 ·rfl
 ·intro α L w9 h0 hcl xN hw9;have e:L 22=false:=hcl.not 25 (i:=22) h0 κ;refine⟨.pointer (some ⟨w9.heap.size,0,none⟩),λbv hbv=>?_⟩;have HJ:=ι (hw9.o.new20 e);rw[<-hbv] at HJ;repeat go_step
  rw[<-hbv];with_reducible refine RG.xD ?_
  exact HJ
 ·intro b α;rfl
 apply RG.jC
 ·rfl
 ·intro α L w9 h0 hcl xN hw9;have e:L 23=false:=hcl.not 25 (i:=23) h0 κ;refine⟨.pointer (some ⟨w9.heap.size,0,none⟩),λbv hbv=>?_⟩;have HJ:=ι (hw9.o.new21 e);rw[<-hbv] at HJ;repeat go_step
  rw[<-hbv];with_reducible refine RG.xD ?_
  exact HJ
 ·intro b α;rfl
 apply RG.rU (v:=undef)
 ·rfl
 ·rfl
 ·intro α L w9 h0 hcl xN hw9
  have f15:L 15=true:=by
   have:=xN.yes 25 (i:=22) (j:=15) σ κ;simpa using this
  have fv:L 17=true:=by
   have:=xN.yes 25 (i:=22) (j:=17) σ κ;simpa using this
  have fc:L 20=true:=by
   have:=xN.yes 25 (i:=22) (j:=20) σ κ;simpa using this
  obtain⟨⟨su,sp,so,se,gv,A6,n6,k6,A7,n7,k7,A11,n11,k11,A12,n12,k12⟩,g,q1,q2,hx,hg,q3⟩:=hw9.o.set22 h0 f15 fv fc;have Q:Hid (α 17=(.agg #[.string su,.string sp,.string so,.int .i64 se,.slice A6 n6 k6,.slice A7 n7 k7,.int .i64 gv])):=ι q1;have N1:=ι q2
  simp only[xU,Nat.reduceAdd] at q3;have HJ:=ι q3;obtain⟨o0,y0,f0,o1,y1,f1,o2,y2,f2,o3,y3,f3,o4,y4,f4,o5,y5,f5,o6,y6,f6,HB⟩:=yF3 hx hw9.o.b ω (.string su) (.string sp) (.string so) (.int .i64 se) (.slice A6 n6 k6) (.slice A7 n7 k7) (.int .i64 gv) _ rfl
  rw[show α (0+1+1+1+1+1+1+1+1+1+1+1+1+1+1+1+1+1)=_ from Q.o,show α (0+1+1+1+1+1+1+1+1+1+1+1+1+1+1+1+1+1+1+1+1)=_ from N1.o];clear hx q1 q2 q3 hw9;repeat go_step
  rw[<-show α (0+1+1+1+1+1+1+1+1+1+1+1+1+1+1+1+1+1)=_ from Q.o,<-show α (0+1+1+1+1+1+1+1+1+1+1+1+1+1+1+1+1+1+1+1+1)=_ from N1.o];with_reducible refine RG.xD ?_
  exact HJ
 ·intro α;rfl
 apply RG.rU (v:=undef)
 ·rfl
 ·rfl
 ·intro α L w9 h0 hcl xN hw9
  have f15:L 15=true:=by
   have:=xN.yes 25 (i:=23) (j:=15) σ κ;simpa using this
  have fv:L 18=true:=by
   have:=xN.yes 25 (i:=23) (j:=18) σ κ;simpa using this
  have fc:L 21=true:=by
   have:=xN.yes 25 (i:=23) (j:=21) σ κ;simpa using this
  obtain⟨⟨su,sp,so,se,gv,A6,n6,k6,A7,n7,k7,A11,n11,k11,A12,n12,k12⟩,g,q1,q2,hx,hg,q3⟩:=hw9.o.set23 h0 f15 fv fc;have Q:Hid (α 18=(.agg #[.slice A11 n11 k11,.slice A12 n12 k12])):=ι q1;have N1:=ι q2;simp only[xU,Nat.reduceAdd] at q3;have HJ:=ι q3
  obtain⟨o0,y0,f0,o1,y1,f1,HB⟩:=xMe hx hw9.o.b ω (.slice A11 n11 k11) (.slice A12 n12 k12) _ rfl;rw[show α (0+1+1+1+1+1+1+1+1+1+1+1+1+1+1+1+1+1+1)=_ from Q.o,show α (0+1+1+1+1+1+1+1+1+1+1+1+1+1+1+1+1+1+1+1+1+1)=_ from N1.o];clear hx q1 q2 q3 hw9;repeat go_step
  rw[<-show α (0+1+1+1+1+1+1+1+1+1+1+1+1+1+1+1+1+1+1)=_ from Q.o,<-show α (0+1+1+1+1+1+1+1+1+1+1+1+1+1+1+1+1+1+1+1+1+1)=_ from N1.o];with_reducible refine RG.xD ?_
  exact HJ
 ·intro α;rfl
 refine RG.vS ?_;refine RG.pE (λα w2 hw2=>?_);obtain⟨⟨su,sp,so,se,gv,A6,n6,k6,A7,n7,k7,A11,n11,k11,A12,n12,k12⟩,q1,q2,q16,q17,q18,q22,q23⟩:=hw2.o.c rfl;obtain⟨g20,p20,x20⟩:=q22 rfl;obtain⟨g21,p21,x21⟩:=q23 rfl;have q16:=q16 rfl;have q17:=q17 rfl;have q18:=q18 rfl
 have H2:=ι (And.intro hw2.o.b (And.intro q2 (And.intro x20 (And.intro x21 (xB H1.o.2 hw2.o.b (xG H1.o.2))))));simp only[Nat.zero_add,Nat.reduceAdd];rw[show α 15=_ from q1,show α 16=_ from q16,show α 17=_ from q17,show α 18=_ from q18,show α 20=_ from p20,show α 21=_ from p21]
 simp only[LgR.tup,LgR.ses,LgR.dsk];clear q1 q2 q16 q17 q18 q22 q23 p20 p21 x20 x21 hw2 HLG HF;have HB2:Hid (Below b W w2):=ι ((H1.o.1.mono (Nat.le_of_lt HBL.o)).trans (H2.o.1.mono (Nat.le_of_lt (Nat.lt_of_lt_of_le HBL.o H1.o.1.size))))
 by_cases he:er=0
 case neg=>
  go_wp2;go_ret;exact .inr (.inl ⟨rfl,by rw[HER.o];exact he,HB2.o⟩)
 subst he;go_upto_region 7 with fail
 have H7:Hid (LgC W b d u pw xE d0 d1 (.string ⟨#[]⟩) s1 s2 s3 s4 s5 s6 s7 s8 s9 n1 n2 n3 n4 n5 sl ⟨su,sp,so,se,gv,A6,n6,k6,A7,n7,k7,A11,n11,k11,A12,n12,k12⟩ g20 g21 false false w2):=ι ⟨HB2.o,H2.o.2.1,H2.o.2.2.2.2,H2.o.2.2.1,H2.o.2.2.2.1⟩;clear H2 HB2 H1
 refine RG.zJ [6,10] (λL w9=>Hid (LgC W b d u pw xE d0 d1 (.string ⟨#[]⟩) s1 s2 s3 s4 s5 s6 s7 s8 s9 n1 n2 n3 n4 n5 sl ⟨su,sp,so,se,gv,A6,n6,k6,A7,n7,k7,A11,n11,k11,A12,n12,k12⟩ g20 g21 (L 6) (L 10) w9)) (λL L' W hl h=>by rw[<-hl 6 σ,<-hl 10 σ];exact h) κ κ κ (ι ⟨H7.o.bl.drew,H7.o.at_.still (Still.drew _),H7.o.c,H7.o.s,H7.o.k⟩) ?_
 iterate 2 refine RG.lS ?_
 refine RG.lF (λL w9 hw9=>zQ hw9.o.k) ?_;refine RG.lF (λL w9 hw9=>qO hw9.o.s) ?_;iterate 2 refine RG.lS ?_
 apply RG.yL
 ·rfl
 ·intro L w9 h0 _ hw9;have h9:=hw9.o;rw[h0] at h9;have hb:=h9.c;have o0:=xA hb 0;have y0:=xC hb 0;have o1:=xA hb 1;have y1:=xC hb 1;have hn:=h9.kE;simp only[xU,Nat.reduceAdd] at hn;have HN:=ι hn;clear hb h9 hn hw9;repeat go_step
  with_reducible refine RG.xD ?_
  show Hid (LgC W b _ _ _ _ _ _ _ _ _ _ _ _ _ _ _ _ _ _ _ _ _ _ _ _ _ true (L 10) _);with_reducible exact HN
 ·rfl
 iterate 3 refine RG.lS ?_
 apply RG.yL
 ·rfl
 ·intro L w9 h0 _ hw9;have h9:=hw9.o;rw[h0] at h9;have hb:=h9.c;have o2:=xA hb 2;have y2:=xC hb 2;have o3:=xA hb 3;have y3:=xC hb 3;have o4:=xA hb 4;have y4:=xC hb 4;have o5:=xA hb 5;have y5:=xC hb 5;have o6:=xA hb 6;have y6:=xC hb 6;have o7:=xA hb 7;have y7:=xC hb 7
  have o8:=xA hb 8;have y8:=xC hb 8;have hn:=h9.xRy;simp only[xU,Nat.reduceAdd] at hn;have HN:=ι hn;clear hb h9 hn hw9;repeat go_step
  with_reducible refine RG.xD ?_
  show Hid (LgC W b _ _ _ _ _ _ _ _ _ _ _ _ _ _ _ _ _ _ _ _ _ _ _ _ _ (L 6) true _);with_reducible exact HN
 ·rfl
 refine RG.yI (λw3 hw3=>?_);have HC3:=ι (show LgC W b d u pw xE d0 d1 (.string ⟨#[]⟩) s1 s2 s3 s4 s5 s6 s7 s8 s9 n1 n2 n3 n4 n5 sl ⟨su,sp,so,se,gv,A6,n6,k6,A7,n7,k7,A11,n11,k11,A12,n12,k12⟩ g20 g21 true true w3 from hw3.o);clear hw3 H7;go_wp2;go_ret;have hcc:=HC3.o.c
 simp only[if_true] at hcc
 exact .inl ⟨_,_,_,_,_,_,_,_,_,_,_,_,_,_,[],rfl,xY3 hcc rfl rfl rfl,⟨⟨su,sp,so,se,gv,A6,n6,k6,A7,n7,k7,A11,n11,k11,A12,n12,k12⟩,rfl,rfl,HER.o,HC3.o.at_⟩,by
  intro v hv;simp only[List.mem_cons,List.not_mem_nil,or_false] at hv;rcases hv with rfl|rfl|rfl|rfl|rfl|rfl|rfl|rfl|rfl|rfl|rfl|rfl<;>first|rfl|exact xMz.o _ σ,σ,HC3.o.bl⟩
end Go.Proofs.IM
namespace Go.Proofs.IM
open Go.RowKit MM BU Mailsack SV
theorem xB6.split {K:List Value->Bs->World->Prop} {N1 N2:Prop} {d0 d1 s0 s1 s2 s3 s4 s5 s6 s7 s8 s9:Value} {tag:Bs} {w w':World} {e:Ending} (hone:∀v∈[d0,d1,s0,s1,s2,s3,s4,s5,s6,s7,s8,s9],v.oneCell'=true) (h:xB6 K N1 N2 d0 d1 s0 s1 s2 s3 s4 s5 s6 s7 s8 s9 tag w e w'):
  Below w.heap.size w w'/\∃v0 v1 v2 v3 v4 v5 v6 v7 v8 v9 v10 v11 t,e=.returned (.tuple #[.agg #[v0,v1],.agg #[v2,v3,v4,v5,v6,v7,v8,v9,v10,v11],.string t])/\(∀v∈[v0,v1,v2,v3,v4,v5,v6,v7,v8,v9,v10,v11],v.oneCell'=true)/\∀w2 W',(∀l,K [v0,v1,v2,v3,v4,v5,v6,v7,v8,v9,v10,v11] l w'->K [v0,v1,v2,v3,v4,v5,v6,v7,v8,v9,v10,v11] l W')->Below w2.heap.size w2 W'->xB6 K N1 N2 d0 d1 s0 s1 s2 s3 s4 s5 s6 s7 s8 s9 tag w2 (.returned (.tuple #[.agg #[v0,v1],.agg #[v2,v3,v4,v5,v6,v7,v8,v9,v10,v11],.string t])) W':=by
 obtain⟨hb,h⟩:=h;refine⟨hb,?_⟩;rcases h with ⟨v0,v1,v2,v3,v4,v5,v6,v7,v8,v9,v10,v11,l,rfl,hk,ho⟩|⟨rfl,hn⟩|⟨rfl,hn⟩
 ·exact⟨v0,v1,v2,v3,v4,v5,v6,v7,v8,v9,v10,v11,_,rfl,ho,λw2 W' hk2 hb2=>⟨hb2,.inl ⟨v0,v1,v2,v3,v4,v5,v6,v7,v8,v9,v10,v11,l,rfl,hk2 l hk,ho⟩⟩⟩
 ·exact⟨d0,d1,s0,s1,s2,s3,s4,s5,s6,s7,s8,s9,_,rfl,hone,λw2 W' _ hb2=>⟨hb2,.inr (.inl ⟨rfl,hn⟩)⟩⟩
 ·exact⟨d0,d1,s0,s1,s2,s3,s4,s5,s6,s7,s8,s9,_,rfl,hone,λw2 W' _ hb2=>⟨hb2,.inr (.inr ⟨rfl,hn⟩)⟩⟩
theorem xLs (K:List Value->Bs->World->Prop) (N1 N2:Prop) (d0 d1 s0 s1 s2 s3 s4 s5 s6 s7 s8 s9 n0 n1 n2 n3 n4 n5:Value) (tag line:Bs) (w:World) (hK:∀vs l,Stb (K vs l)) (hone:∀v∈[d0,d1,s0,s1,s2,s3,s4,s5,s6,s7,s8,s9],v.oneCell'=true)
  (hdo:∀W xv,Below w.heap.size w W->RdS W W.heap.size xv [line]->Calls Tryz.prog 13 #[.agg #[d0,d1],.agg #[s0,s1,s2,s3,s4,s5,s6,s7,s8,s9],.agg #[xv,.slice none 0 0],.agg #[n0,n1,n2,n3,n4,n5]] W (xB6 K N1 N2 d0 d1 s0 s1 s2 s3 s4 s5 s6 s7 s8 s9 tag W)):
  Calls Tryz.prog 7 #[.agg #[d0,d1],.agg #[s0,s1,s2,s3,s4,s5,s6,s7,s8,s9],xO line,.agg #[n0,n1,n2,n3,n4,n5]] w (xB6 K N1 N2 d0 d1 s0 s1 s2 s3 s4 s5 s6 s7 s8 s9 tag w):=by
 have HD:=ι hdo;have HK:=ι hK;have xMz:=ι hone;clear hdo hone hK;have H6:=ι (six w (xX d0 d1) (uM s0 s1 s2 s3 s4 s5 s6 s7 s8 s9) (xXw n0 n1 n2 n3 n4 n5) (xX (.slice none 0 0) (.slice none 0 0)) xPf (.cells #[xO line] 9))
 have HR:=ι (λ(W:World) (h:Six w (xX d0 d1) (uM s0 s1 s2 s3 s4 s5 s6 s7 s8 s9) (xXw n0 n1 n2 n3 n4 n5) (xX (.slice none 0 0) (.slice none 0 0)) xPf (.cells #[xO line] 9) W)=>
  (show RdS W W.heap.size (.slice (some ⟨w.heap.size+1+1+1+1+1,0,none⟩) 1 1) [line] from⟨_,1,rfl,σ,λ_=>⟨w.heap.size+5,0,rfl,by rw[h.size];omega,λj x hx=>by
   have hj:j=0:=by have:=(List.getElem?_eq_some_iff.1 hx).1;simp at this;omega
   subst hj;rw[Nat.zero_add,xA h.p5 0];simp at hx;subst hx
   rfl⟩⟩))
 obtain⟨PO,hPO⟩:∃PO,xB6 K N1 N2 d0 d1 s0 s1 s2 s3 s4 s5 s6 s7 s8 s9 tag w=PO:=⟨_,rfl⟩;rw[hPO];have HPO:=ι hPO;clear hPO;go_enter Tryz.func7,Tryz.ntmps7;go_wp2_with fail
 refine(HD.o _ _ H6.o.bel (HR.o _ H6.o)).mono ?_;intro e w1 hpost;obtain⟨hb1,v0,v1,v2,v3,v4,v5,v6,v7,v8,v9,v10,v11,t,rfl,hov,hfin⟩:=hpost.split xMz.o;have hz6:=H6.o.size;have HB1:=ι (H6.o.bel.trans (hb1.mono H6.o.bel.size))
 have r3:w1.heap[w.heap.size+1+1+1]?=some (xX (.slice none 0 0) (.slice none 0 0)):=xB H6.o.p3 hb1 ω;have r4:w1.heap[w.heap.size+1+1+1+1]?=some xPf:=xB H6.o.p4 hb1 ω
 have HFN:Hid (xB6 K N1 N2 d0 d1 s0 s1 s2 s3 s4 s5 s6 s7 s8 s9 tag w (.returned (.tuple #[.agg #[v0,v1],.agg #[v2,v3,v4,v5,v6,v7,v8,v9,v10,v11],.string t])) (xU (w.heap.size+1+1+1+1) 0 [v2,v3,v4,v5,v6,v7,v8,v9,v10,v11] (xU (w.heap.size+1+1+1) 0 [v0,v1] w1))):=ι (hfin w _ (λl hk=>(HK.o [v0,v1,v2,v3,v4,v5,v6,v7,v8,v9,v10,v11] l).put _ ((HK.o [v0,v1,v2,v3,v4,v5,v6,v7,v8,v9,v10,v11] l).put [v0,v1] hk r3 (.inl rfl)) (xM ω [v0,v1] 0 _ r4) (.inr rfl)) (xZ ω _ 0 _ (xZ ω _ 0 _ HB1.o)))
 have s4:=xM (b:=w.heap.size+1+1+1) ω [v0,v1] 0 _ r4;have HE3:=ι (xM (b:=w.heap.size+1+1+1+1) ω [v2,v3,v4,v5,v6,v7,v8,v9,v10,v11] 0 _ (yU (l:=[v0,v1]) r3 rfl));have HE4:=ι (yU (l:=[v2,v3,v4,v5,v6,v7,v8,v9,v10,v11]) s4 rfl);simp only[xU,Nat.reduceAdd] at HFN HE3 HE4
 have f0:=xA r3 0;have f1:=xA r3 1;have x0:=xC r3 0;have x1:=xC r3 1;have g0:=xA r4 0;have y0:=xC r4 0;have g1:=xA r4 1;have y1:=xC r4 1;have g2:=xA r4 2;have y2:=xC r4 2;have g3:=xA r4 3;have y3:=xC r4 3;have g4:=xA r4 4;have y4:=xC r4 4;have g5:=xA r4 5;have y5:=xC r4 5
 have g6:=xA r4 6;have y6:=xC r4 6;have g7:=xA r4 7;have y7:=xC r4 7;have g8:=xA r4 8;have y8:=xC r4 8;have g9:=xA r4 9;have y9:=xC r4 9;have T0:=λ(W:World) (a:Addr)=>run_store Tryz.prog W a v0 .plain (hov v0 σ)
 have T1:=λ(W:World) (a:Addr)=>run_store Tryz.prog W a v1 .plain (hov v1 σ);have T2:=λ(W:World) (a:Addr)=>run_store Tryz.prog W a v2 .plain (hov v2 σ);have T3:=λ(W:World) (a:Addr)=>run_store Tryz.prog W a v3 .plain (hov v3 σ)
 have T4:=λ(W:World) (a:Addr)=>run_store Tryz.prog W a v4 .plain (hov v4 σ);have T5:=λ(W:World) (a:Addr)=>run_store Tryz.prog W a v5 .plain (hov v5 σ);have T6:=λ(W:World) (a:Addr)=>run_store Tryz.prog W a v6 .plain (hov v6 σ)
 have T7:=λ(W:World) (a:Addr)=>run_store Tryz.prog W a v7 .plain (hov v7 σ);have T8:=λ(W:World) (a:Addr)=>run_store Tryz.prog W a v8 .plain (hov v8 σ);have T9:=λ(W:World) (a:Addr)=>run_store Tryz.prog W a v9 .plain (hov v9 σ)
 have T10:=λ(W:World) (a:Addr)=>run_store Tryz.prog W a v10 .plain (hov v10 σ);have T11:=λ(W:World) (a:Addr)=>run_store Tryz.prog W a v11 .plain (hov v11 σ);clear hb1 hz6 H6 HR HD r3 r4 s4 hfin hpost hov HB1;go_wp2;have f0:=xA HE3.o 0;have f1:=xA HE3.o 1;have g0:=xA HE4.o 0
 have g1:=xA HE4.o 1;have g2:=xA HE4.o 2;have g3:=xA HE4.o 3;have g4:=xA HE4.o 4;have g5:=xA HE4.o 5;have g6:=xA HE4.o 6;have g7:=xA HE4.o 7;have g8:=xA HE4.o 8;have g9:=xA HE4.o 9
 refine bodyPost_ret (v:=.tuple #[.agg #[v0,v1],.agg #[v2,v3,v4,v5,v6,v7,v8,v9,v10,v11],.string t]) (by simp[results,Tryz.results7,go_sem,f0,f1,g0,g1,g2,g3,g4,g5,g6,g7,g8,g9]) rfl ?_;rw[<-HPO.o];with_reducible exact HFN.o
end Go.Proofs.IM
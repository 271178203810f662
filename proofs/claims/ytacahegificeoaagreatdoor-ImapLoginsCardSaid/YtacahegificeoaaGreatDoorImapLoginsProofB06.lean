/- Contracts of functions. Conditions: as stated. -/
import Derived.Test.YtacahegificeoaaGreatDoorImapLoginsProofB05
set_option maxHeartbeats 8000000
set_option maxRecDepth 100000
namespace Mailsack
theorem xFy:∀(f:Nat) (l:Bs) (T:List Tok) (d:Nat) (T':List Tok) (d':Nat),wM f l T d=some (T',d')->d'<=d+l.length:=by
 intro f
 induction f with
 |zero=>
  intro l T d T' d' h;cases l with
  |nil=>simp[wM] at h;omega
  |cons c r=>simp[wM] at h
 |succ f ih=>
  intro l T d T' d' h;cases l with
  |nil=>simp[wM] at h;omega
  |cons c r=>
   unfold wM at h;simp only[List.length_cons];split at h
   ·have:=ih _ _ _ _ _ h;omega
   split at h
   ·have:=ih _ _ _ _ _ h;omega
   split at h
   ·split at h
    ·cases h
    ·have:=ih _ _ _ _ _ h;omega
   split at h
   ·split at h
    ·cases h
    ·have:=ih _ _ _ _ _ h;rw[List.length_drop] at this;omega
   ·have:=ih _ _ _ _ _ h;rw[List.length_drop,List.length_cons] at this;omega
def finV:Option (List Tok×Nat)->Option (List Tok)
 |none=>none
 |some (T,d)=>if d=0/\T.length<=40 then some T else none
theorem xFf {R:Option (List Tok×Nat)} (h:none=R):finV R=none:=by rw[<-h];rfl
theorem xRc {X L:List Bs} (h:X.length=L.length+1):rV X L=finV (xCh L 0 X [] 0):=by
 unfold rV finV;rw[if_pos h];cases xCh L 0 X [] 0<;>rfl
end Mailsack
namespace Go.Proofs.VB
open Go.RowKit Mailsack MM BU
def yFd (w:World) (R:Option (List Tok)) (e:Ending) (w':World):Prop:=
 match R with
 |none=>e=.returned (.tuple #[.slice none 0 0,.int .i64 3])/\Below w.heap.size w w'
 |some T=>∃v,e=.returned (.tuple #[v,.int .i64 0])/\xZ6 w' w.heap.size v T/\Below w.heap.size w w'
theorem xZ6.less {w:World} {B B':Nat} {v:Value} {T:List Tok} (h:xZ6 w B v T) (hb:B'<=B):xZ6 w B' v T:=by
 refine⟨h.1,?_⟩;rcases h.2 with hn|⟨g,cap,cur,h1,h2,h3⟩
 ·exact .inl hn
 ·exact .inr ⟨g,cap,cur,h1,ω,h3⟩
theorem xRd (xv lv:Value) (X L:List Bs) (w:World) (hx:RdS w w.heap.size xv X) (hl:RdS w w.heap.size lv L) (hX:∀x∈X,x.length<=1000000) (hn:X.length<=1000) (hn2:L.length<=1000):
  Calls Tryz.prog 23 #[.agg #[xv,lv]] w (yFd w (rV X L)):=by
 have HX:=ι hX;obtain⟨Ax,cx,rfl,hcx,hxc⟩:=hx;obtain⟨Al,cl,rfl,hcl,hlc⟩:=hl;have Hxc:=ι hxc;have Hlc:=ι hlc;clear hX hxc hlc;have pa:=ι (xL w (.cells #[.slice Ax X.length cx,.slice Al L.length cl] 52))
 have ka:(w.alloc (.cells #[.slice Ax X.length cx,.slice Al L.length cl] 52)).cell? ⟨w.heap.size,0,none⟩=some (.slice Ax X.length cx):=xA pa.o 0
 have kb:(w.alloc (.cells #[.slice Ax X.length cx,.slice Al L.length cl] 52)).cell? ⟨w.heap.size,1,none⟩=some (.slice Al L.length cl):=xA pa.o 1
 by_cases hne:X.length=L.length+1
 ·rw[xRc hne];generalize hR0:xCh L 0 X [] 0=R;have h0:Hid (xCh L 0 (X.drop 0) [] 0=R):=ι hR0;have c0:((X.length:Int)!=(L.length:Int)+1)=false:=by simp;omega
  have HN:=ι hne;clear hR0 hne;have H2:=ι (((Below.refl w.heap.size w).alloc ν (.cells #[.slice Ax X.length cx,.slice Al L.length cl] 52)).alloc σ (.cells #[.slice none 0 0,.int .i64 0] 125))
  have P1:=ι (zG w (.cells #[.slice Ax X.length cx,.slice Al L.length cl] 52) (.cells #[.slice none 0 0,.int .i64 0] 125));have P2:=ι (yX w (.cells #[.slice Ax X.length cx,.slice Al L.length cl] 52) (.cells #[.slice none 0 0,.int .i64 0] 125))
  have hz2:w.heap.size+1<=((w.alloc (.cells #[.slice Ax X.length cx,.slice Al L.length cl] 52)).alloc (.cells #[.slice none 0 0,.int .i64 0] 125)).heap.size:=by simp
  have kx:((w.alloc (.cells #[.slice Ax X.length cx,.slice Al L.length cl] 52)).alloc (.cells #[.slice none 0 0,.int .i64 0] 125)).cell? ⟨w.heap.size,0,none⟩=some (.slice Ax X.length cx):=xA P1.o 0;go_enter Tryz.func23,Tryz.ntmps23;go_wp2
  generalize (w.alloc (.cells #[.slice Ax X.length cx,.slice Al L.length cl] 52)).alloc (.cells #[.slice none 0 0,.int .i64 0] 125)=w2 at H2 P1 P2 hz2 kx⊢
  go_loopw [18] (λiv wr=>∃(k:Nat) (T:List Tok) (d:Nat),k<=X.length/\d<=1000000*k/\iv=.int .i64 k/\Hid (xCh L k (X.drop k) T d=R)/\Hid (Scn (w.heap.size+1) (w.heap.size+1) T d wr/\Below (w.heap.size+1) w2 wr)) (λiv _=>X.length- (intOf iv).toNat)
  case atStart=>exact⟨0,[],0,Nat.zero_le _,ω,rfl,h0,ι ⟨⟨Nat.le_refl _,δ,_,P2.o,World.ownsRow_nil _ _ _ _,by simp[Value.ownBlock]⟩,Below.refl _ _⟩⟩
  case round=>
   obtain⟨k,T,d,hk,hd,rfl,HR0,hr⟩:=hrel;have hR:=HR0.o;clear HR0 h0 ka kb kx
   by_cases hlt:k<X.length
   ·obtain⟨bx,ox,rfl,hbx,hcx2⟩:=Hxc.o ω;obtain⟨x,hx⟩:∃x,X[k]?=some x:=⟨_,List.getElem?_eq_getElem hlt⟩;have hxs:(⟨x.toArray⟩:ByteArray).size<=1000000:=HX.o x (List.mem_of_getElem? hx);have hxs':x.length<=1000000:=hxs
    have q0:wr.cell? ⟨bx,ox+k,none⟩=some (xO x):=(hr.o.2.cell (by show bx<_;omega)).trans ((H2.o.cell hbx).trans (hcx2 k x hx))
    have hdr:X.drop k=x::X.drop (k+1):=by
     rw[List.drop_eq_getElem_cons hlt];rw[List.getElem?_eq_getElem hlt] at hx;injection hx with hx;rw[hx]
    rw[hdr] at hR;unfold xCh at hR;clear hcx2 hx hdr
    by_cases hk0:k=0
    ·subst hk0;rw[if_neg (show ¬(0<0) by omega)] at hR;have q0':wr.cell? ⟨bx,ox,none⟩=some (xO x):=q0;clear q0;have E1:=xCu ⟨x.toArray⟩;rw[show(⟨x.toArray⟩:ByteArray).data.toList=x from rfl] at E1;cases hp:uQ x
     ·rw[hp] at E1 hR;have HE:=ι E1;rw[if_neg (show ¬(false=true) by simp)] at hR;have HR:=ι (xFf hR);clear E1 hp hR;go_wp2_with fail
      refine(HE.o _ hxs).mono ?_;rintro e w5 ⟨rfl,hw5⟩;subst hw5;go_wp2;go_ret2;rw[HR.o];exact⟨rfl,H2.o.trans (hr.o.2.mono (Nat.le_trans (Nat.le_succ _) ν))⟩
     ·rw[hp] at E1 hR;have HE:=ι E1;rw[if_pos (rfl:true=true)] at hR;have HS:=ι (λW (h:Scn (w.heap.size+1) (w.heap.size+1) T d W) (hB:w.heap.size+1<=W.heap.size)=>xPj (w.heap.size+1) (w.heap.size+1) T d ⟨x.toArray⟩ W h hB hxs hp ω)
      rw[show(⟨x.toArray⟩:ByteArray).data.toList=x from rfl,show(⟨x.toArray⟩:ByteArray).size=x.length from rfl] at HS;have hdp:=λT' d'=>xFy x.length x T d T' d';generalize wM x.length x T d=S at hR HS hdp;clear E1 hp;cases S with
      |none=>
       simp only at hR;have HR:=ι (xFf hR);clear hR hdp;go_wp2_with fail
       refine(HE.o _ hxs).mono ?_;rintro e w5 ⟨rfl,hw5⟩;subst hw5;go_wp2_with fail
       refine(HS.o _ hr.o.1 (Nat.le_trans hz2 hr.o.2.size)).mono ?_;rintro e w6 ⟨rfl,hb6⟩;go_wp2;go_ret2;rw[HR.o];exact⟨rfl,H2.o.trans ((hr.o.2.trans hb6).mono (Nat.le_succ _))⟩
      |some td=>
       obtain⟨T2,d2⟩:=td;have hd2:=hdp T2 d2 rfl;simp only at hR;have HR:=ι hR;clear hR hdp;go_wp2_with fail
       refine(HE.o _ hxs).mono ?_;rintro e w5 ⟨rfl,hw5⟩;subst hw5;go_wp2_with fail
       refine(HS.o _ hr.o.1 (Nat.le_trans hz2 hr.o.2.size)).mono ?_;rintro e w6 ⟨rfl,hs6,hb6⟩;have h6:Hid (Scn (w.heap.size+1) (w.heap.size+1) T2 d2 w6/\Below (w.heap.size+1) w2 w6):=ι ⟨hs6,hr.o.2.trans hb6⟩;clear hs6 hb6;go_wp2
       go_roundw
       case rel=>exact⟨0+1,T2,d2,ω,ω,by go_num,HR,h6⟩
       case measure=>simp[intOf];omega
    ·obtain⟨j,rfl⟩:∃j,k=j+1:=⟨k-1,ω⟩;clear hk0;rw[if_pos (show 0<j+1 by omega),show j+1-1=j by omega] at hR;have hjl:j<L.length:=by have:=HN.o;omega
     obtain⟨bl,ol,rfl,hbl,xN⟩:=Hlc.o ω;have q1:wr.cell? ⟨bl,ol+j,none⟩=some (xO (L.getD j [])):=(hr.o.2.cell (by show bl<_;omega)).trans ((H2.o.cell hbl).trans (xN j _ (by rw[List.getD_eq_getElem?_getD,List.getElem?_eq_getElem hjl];rfl)));generalize L.getD j []=y at q1 hR
     have kl:wr.cell? ⟨w.heap.size,1,none⟩=some (.slice (some ⟨bl,ol,none⟩) L.length cl):=(hr.o.2.cell σ).trans (xA P1.o 1);clear xN;go_wp2_with fail
     refine(xCc (w.heap.size+1) (w.heap.size+1) T d 1 ⟨y.toArray⟩ _ hr.o.1 (Nat.le_trans hz2 hr.o.2.size)).mono ?_;rintro e w4 ⟨rfl,hq4,hb4⟩;have h4:Hid (Scn (w.heap.size+1) (w.heap.size+1) (kL T (1,y)) d w4/\Below (w.heap.size+1) w2 w4):=ι ⟨hq4,hr.o.2.trans hb4⟩
     clear hq4 hb4;have E1:=xCu ⟨x.toArray⟩;rw[show(⟨x.toArray⟩:ByteArray).data.toList=x from rfl] at E1;cases hp:uQ x
     ·rw[hp] at E1 hR;have HE:=ι E1;rw[if_neg (show ¬(false=true) by simp)] at hR;have HR:=ι (xFf hR);clear E1 hp hR;go_wp2_with fail
      refine(HE.o _ hxs).mono ?_;rintro e w5 ⟨rfl,hw5⟩;subst hw5;go_wp2;go_ret2;rw[HR.o];exact⟨rfl,H2.o.trans (h4.o.2.mono (Nat.le_trans (Nat.le_succ _) ν))⟩
     ·rw[hp] at E1 hR;have HE:=ι E1;rw[if_pos (rfl:true=true)] at hR;have HS:=ι (λW (h:Scn (w.heap.size+1) (w.heap.size+1) (kL T (1,y)) d W) (hB:w.heap.size+1<=W.heap.size)=>xPj (w.heap.size+1) (w.heap.size+1) (kL T (1,y)) d ⟨x.toArray⟩ W h hB hxs hp ω)
      rw[show(⟨x.toArray⟩:ByteArray).data.toList=x from rfl,show(⟨x.toArray⟩:ByteArray).size=x.length from rfl] at HS;have hdp:=λT' d'=>xFy x.length x (kL T (1,y)) d T' d';generalize wM x.length x (kL T (1,y)) d=S at hR HS hdp;clear E1 hp;cases S with
      |none=>
       simp only at hR;have HR:=ι (xFf hR);clear hR hdp;go_wp2_with fail
       refine(HE.o _ hxs).mono ?_;rintro e w5 ⟨rfl,hw5⟩;subst hw5;go_wp2_with fail
       refine(HS.o _ h4.o.1 (Nat.le_trans hz2 h4.o.2.size)).mono ?_;rintro e w6 ⟨rfl,hb6⟩;go_wp2;go_ret2;rw[HR.o];exact⟨rfl,H2.o.trans ((h4.o.2.trans hb6).mono (Nat.le_succ _))⟩
      |some td=>
       obtain⟨T2,d2⟩:=td;have hd2:=hdp T2 d2 rfl;simp only at hR;have HR:=ι hR;clear hR hdp;go_wp2_with fail
       refine(HE.o _ hxs).mono ?_;rintro e w5 ⟨rfl,hw5⟩;subst hw5;go_wp2_with fail
       refine(HS.o _ h4.o.1 (Nat.le_trans hz2 h4.o.2.size)).mono ?_;rintro e w6 ⟨rfl,hs6,hb6⟩;have h6:Hid (Scn (w.heap.size+1) (w.heap.size+1) T2 d2 w6/\Below (w.heap.size+1) w2 w6):=ι ⟨hs6,h4.o.2.trans hb6⟩;clear hs6 hb6;go_wp2
       go_roundw
       case rel=>exact⟨j+1+1,T2,d2,ω,ω,by go_num,HR,h6⟩
       case measure=>simp[intOf];omega
   ·have hks:X.length<=k:=by omega
    rw[List.drop_eq_nil_iff.2 hks] at hR;have hR':some (T,d)=R:=by rw[<-hR];rfl
    obtain⟨_,hT,v,hbk,hown,hvne⟩:=hr.o.1
    obtain⟨A9,c9,e9⟩:∃A cp,v=.slice A T.length cp:=by
     rcases hown.2 with ⟨h1,h2⟩|⟨g,cap,cur,h1,_⟩
     ·exact⟨none,0,by rw[h1,h2]⟩
     ·exact⟨_,_,h1⟩
    subst e9;have s0:wr.cell? ⟨w.heap.size+1,0,none⟩=some (.slice A9 T.length c9):=xA hbk 0;have s1:wr.cell? ⟨w.heap.size+1,1,none⟩=some (.int .i64 d):=xA hbk 1;have yCq:=ι hown;have hfin:finV R=if d=0/\T.length<=40 then some T else none:=by rw[<-hR'];rfl
    clear hR hR' hown hbk hvne
    by_cases hd0:d=0
    ·subst hd0;have z0:(((0:Nat):Int)!=0)=false:=rfl
     by_cases h40:T.length<=40
     ·rw[if_pos ⟨rfl,h40⟩] at hfin;have HF:=ι hfin;clear hfin;go_wp2;go_ret2;rw[HF.o];exact⟨_,rfl,xZ6.less yCq.o (Nat.le_succ _),H2.o.trans (hr.o.2.mono (Nat.le_succ _))⟩
     ·rw[if_neg ω] at hfin;have HR:=ι hfin;clear hfin;go_wp2;go_ret2;rw[HR.o];exact⟨rfl,H2.o.trans (hr.o.2.mono (Nat.le_succ _))⟩
    ·rw[if_neg ω] at hfin;have z0:((d:Int)!=0)=true:=by simp;omega
     have HR:=ι hfin;clear hfin;go_wp2;go_ret2;rw[HR.o];exact⟨rfl,H2.o.trans (hr.o.2.mono (Nat.le_succ _))⟩
 ·have hR:rV X L=none:=by unfold rV;rw[if_neg hne]
  rw[hR];have c0:((X.length:Int)!=(L.length:Int)+1)=true:=by simp;omega
  clear hR;go_enter Tryz.func23,Tryz.ntmps23;go_wp2;go_ret2;exact⟨rfl,(Below.refl _ _).alloc ν _⟩
theorem xPk (w:World) (B:Nat):RdS w B (.slice none 0 0) []:=⟨none,0,rfl,Nat.le_refl _,λh=>absurd h (Nat.lt_irrefl _)⟩
theorem yA8 {w:World} {B:Nat} {v:Value} {T:List Tok} (h:xZ6 w B v T) (hT:0<T.length):∃g cap,v=.slice (some ⟨g,0,none⟩) T.length cap/\T.length<=cap/\g<w.heap.size/\∀j u,(kY T)[j]?=some u->w.cell? ⟨g,j,none⟩=some u:=by
 rcases h.2 with ⟨_,h2⟩|⟨g,cap,cur,h1,hb,h3,hc,_⟩
 ·omega
 ·refine⟨g,cap,h1,hc,xG h3,λj u hu=>?_⟩;have:=World.ownsRow.cells h (g:=g) (by rw[h1];rfl) j u hu;have hadd:(⟨g,0,none⟩:Addr).add j=⟨g,j,none⟩:=by unfold Addr.add;split<;>simp_all
  rwa [hadd] at this
end Go.Proofs.VB
namespace Go.Proofs.SV
open Go.RowKit MM
structure Tn (P:Nat->Prop) (w w':World):Prop where
 os:w'.os=w.os
 tape:w'.tape=w.tape
 output:w'.output=w.output
 size:w.heap.size<=w'.heap.size
 block:∀k,k<w.heap.size->¬P k->w'.heap[k]?=w.heap[k]?
section
variable {P:Nat->Prop} {a b c:World}
theorem Tn.refl (P:Nat->Prop) (w:World):Tn P w w:=⟨rfl,rfl,rfl,Nat.le_refl _,λ_ _ _=>rfl⟩
theorem Tn.trans (h:Tn P a b) (k:Tn P b c):Tn P a c:=
 ⟨k.os.trans h.os,k.tape.trans h.tape,k.output.trans h.output,Nat.le_trans h.size k.size,λi hi hp=>(k.block i (Nat.lt_of_lt_of_le hi h.size) hp).trans (h.block i hi hp)⟩
theorem Tn.of (h:Below a.heap.size a b):Tn P a b:=⟨h.os,h.tape,h.output,h.size,λi hi _=>h.block i hi⟩
theorem Tn.call (h:Tn P a b) (k:Below b.heap.size b c):Tn P a c:=h.trans (Tn.of k)
theorem Tn.set (h:Tn P a b) {p:Addr} (hp:P p.block∨a.heap.size<=p.block) (u:Value):Tn P a (b.setCell p u):=
 ⟨h.os,h.tape,h.output,by rw[size_set];exact h.size,λi hi hq=>by
  rw[Below.heap_setCell b p u i (λe=>by subst e;rcases hp with hp|hp;exact hq hp;omega)];exact h.block i hi hq⟩
theorem Tn.alloc (h:Tn P a b) (o:Obj):Tn P a (b.alloc o):=h.call ((Below.refl _ b).alloc ν o)
theorem Tn.drew (h:Tn P a b):Tn P a b.drew:=⟨h.os,h.tape,h.output,h.size,h.block⟩
theorem Tn.below {B:Nat} (h:Tn P a b) (hP:∀k,P k->B<=k) (hB:B<=a.heap.size):Below B a b:=
 ⟨h.os,h.tape,h.output,h.size,λi hi=>h.block i (Nat.lt_of_lt_of_le hi hB) (λhp=>by have:=hP i hp;omega)⟩
theorem Tn.blk (h:Tn P a b) {k:Nat} {o:Obj} (hk:a.heap[k]?=some o) (hp:¬P k):b.heap[k]?=some o:=(h.block k (xG hk) hp).trans hk
theorem Tn.more {P':Nat->Prop} (h:Tn P a b) (hP:∀k,P k->P' k):Tn P' a b:=⟨h.os,h.tape,h.output,h.size,λi hi hp=>h.block i hi (λq=>hp (hP i q))⟩
end
def xU (b:Nat):Nat->List Value->World->World
 |_,[],W=>W
 |i,a::l,W=>xU b (i+1) l (W.setCell ⟨b,i,none⟩ a)
theorem xM {b g:Nat} {o:Obj} (hne:g≠b):∀(l:List Value) (i:Nat) (W:World),W.heap[g]?=some o->(xU b i l W).heap[g]?=some o
 |[],_,_,h=>h
 |_::l,i,_,h=>xM hne l (i+1) _ (yA h (p:=⟨b,i,none⟩) hne _)
theorem xFv {P:Nat->Prop} {a:World} {b:Nat} (hb:P b∨a.heap.size<=b):∀(l:List Value) (i:Nat) (W:World),Tn P a W->Tn P a (xU b i l W)
 |[],_,_,h=>h
 |_::l,i,_,h=>xFv hb l (i+1) _ (h.set (p:=⟨b,i,none⟩) hb _)
theorem xZ {B:Nat} {a:World} {b:Nat} (hb:B<=b):∀(l:List Value) (i:Nat) (W:World),Below B a W->Below B a (xU b i l W)
 |[],_,_,h=>h
 |_::l,i,_,h=>xZ hb l (i+1) _ (h.setCell (p:=⟨b,i,none⟩) hb _)
theorem kR {b:Nat} {t:TypeId}:∀(l:List Value) (i:Nat) (W:World) (cs:Array Value),W.heap[b]?=some (.cells cs t (0,0))->i+l.length<=cs.size->
  (xU b i l W).heap[b]?=some (.cells (cs.toList.take i++l++cs.toList.drop (i+l.length)).toArray t (0,0))
 |[],i,W,cs,h,_=>by
  unfold xU;rw[h];simp
 |a::l,i,W,cs,h,hi=>by
  simp only[List.length_cons] at hi;have h1:=xY h i a;have h2:=kR l (i+1) _ _ h1 (by simp;omega);unfold xU;rw[h2]
  congr 2
  apply congrArg;apply List.ext_getElem?;intro j;simp only[Array.toList_setIfInBounds,List.getElem?_append,List.length_take,List.length_set,Array.length_toList,List.getElem?_take,List.getElem?_drop,List.getElem?_set,List.length_append,List.length_cons]
  by_cases h1:j<i
  ·rw[if_pos ω,if_pos ω,if_pos ω,if_neg ω,if_pos ω,if_pos ω,if_pos ω]
  ·by_cases h2:j=i
   ·subst h2;rw[if_pos ω,if_pos ω,if_pos ω,if_pos rfl,if_pos ω,if_pos ω,if_neg ω,show j-min j cs.size=0 by omega]
    rfl
   ·by_cases h3:j<i+1+l.length
    ·rw[if_pos ω,if_neg ω,if_pos ω,if_neg ω,show j-min i cs.size=(j-min (i+1) cs.size)+1 by omega,List.getElem?_cons_succ]
    ·rw[if_neg ω,if_neg ω,if_neg ω]
     congr 1
     omega
theorem yU {b:Nat} {t:TypeId} {l:List Value} {W:World} {cs:Array Value} (h:W.heap[b]?=some (.cells cs t (0,0))) (hl:l.length=cs.size):(xU b 0 l W).heap[b]?=some (.cells l.toArray t (0,0)):=by
 rw[kR l 0 W cs h ω,show 0+l.length=cs.toList.length by simp[hl]];simp
theorem _root_.xMe {W a:World} {b B:Nat} {t:TypeId} {c0 c1:Value} (ho:W.heap[b]?=some (.cells #[c0,c1] t (0,0))) (hb:Below B a W) (hB:B<=b) (v0 v1:Value) (U:World) (h:U=(W.setCell ⟨b,0,none⟩ v0).setCell ⟨b,1,none⟩ v1):W.cell? ⟨b,0,none⟩=some c0/\W.frozen? ⟨b,0,none⟩=false/\U.cell? ⟨b,0,none⟩=some v0/\W.cell? ⟨b,1,none⟩=some c1/\W.frozen? ⟨b,1,none⟩=false/\U.cell? ⟨b,1,none⟩=some v1/\Hid (Below B a U):=by
 subst h;have hs:=yU (b:=b) (l:=[v0,v1]) ho rfl;exact⟨xA ho 0,xC ho 0,xA hs 0,xA ho 1,xC ho 1,xA hs 1,ι (xZ hB [v0,v1] 0 _ hb)⟩
theorem _root_.xMd {W a:World} {b B:Nat} {t:TypeId} {c0 c1 c2:Value} (ho:W.heap[b]?=some (.cells #[c0,c1,c2] t (0,0))) (hb:Below B a W) (hB:B<=b) (v0 v1 v2:Value) (U:World) (h:U=((W.setCell ⟨b,0,none⟩ v0).setCell ⟨b,1,none⟩ v1).setCell ⟨b,2,none⟩ v2):W.cell? ⟨b,0,none⟩=some c0/\W.frozen? ⟨b,0,none⟩=false/\U.cell? ⟨b,0,none⟩=some v0/\W.cell? ⟨b,1,none⟩=some c1/\W.frozen? ⟨b,1,none⟩=false/\U.cell? ⟨b,1,none⟩=some v1/\W.cell? ⟨b,2,none⟩=some c2/\W.frozen? ⟨b,2,none⟩=false/\U.cell? ⟨b,2,none⟩=some v2/\Hid (Below B a U):=by
 subst h;have hs:=yU (b:=b) (l:=[v0,v1,v2]) ho rfl;exact⟨xA ho 0,xC ho 0,xA hs 0,xA ho 1,xC ho 1,xA hs 1,xA ho 2,xC ho 2,xA hs 2,ι (xZ hB [v0,v1,v2] 0 _ hb)⟩
theorem _root_.cpl4 {W a:World} {b B:Nat} {t:TypeId} {c0 c1 c2 c3:Value} (ho:W.heap[b]?=some (.cells #[c0,c1,c2,c3] t (0,0))) (hb:Below B a W) (hB:B<=b) (v0 v1 v2 v3:Value) (U:World) (h:U=(((W.setCell ⟨b,0,none⟩ v0).setCell ⟨b,1,none⟩ v1).setCell ⟨b,2,none⟩ v2).setCell ⟨b,3,none⟩ v3):W.cell? ⟨b,0,none⟩=some c0/\W.frozen? ⟨b,0,none⟩=false/\U.cell? ⟨b,0,none⟩=some v0/\W.cell? ⟨b,1,none⟩=some c1/\W.frozen? ⟨b,1,none⟩=false/\U.cell? ⟨b,1,none⟩=some v1/\W.cell? ⟨b,2,none⟩=some c2/\W.frozen? ⟨b,2,none⟩=false/\U.cell? ⟨b,2,none⟩=some v2/\W.cell? ⟨b,3,none⟩=some c3/\W.frozen? ⟨b,3,none⟩=false/\U.cell? ⟨b,3,none⟩=some v3/\Hid (Below B a U):=by
 subst h;have hs:=yU (b:=b) (l:=[v0,v1,v2,v3]) ho rfl;exact⟨xA ho 0,xC ho 0,xA hs 0,xA ho 1,xC ho 1,xA hs 1,xA ho 2,xC ho 2,xA hs 2,xA ho 3,xC ho 3,xA hs 3,ι (xZ hB [v0,v1,v2,v3] 0 _ hb)⟩
theorem _root_.yBk {W a:World} {b B:Nat} {t:TypeId} {c0 c1 c2 c3 c4:Value} (ho:W.heap[b]?=some (.cells #[c0,c1,c2,c3,c4] t (0,0))) (hb:Below B a W) (hB:B<=b) (v0 v1 v2 v3 v4:Value) (U:World) (h:U=((((W.setCell ⟨b,0,none⟩ v0).setCell ⟨b,1,none⟩ v1).setCell ⟨b,2,none⟩ v2).setCell ⟨b,3,none⟩ v3).setCell ⟨b,4,none⟩ v4):W.cell? ⟨b,0,none⟩=some c0/\W.frozen? ⟨b,0,none⟩=false/\U.cell? ⟨b,0,none⟩=some v0/\W.cell? ⟨b,1,none⟩=some c1/\W.frozen? ⟨b,1,none⟩=false/\U.cell? ⟨b,1,none⟩=some v1/\W.cell? ⟨b,2,none⟩=some c2/\W.frozen? ⟨b,2,none⟩=false/\U.cell? ⟨b,2,none⟩=some v2/\W.cell? ⟨b,3,none⟩=some c3/\W.frozen? ⟨b,3,none⟩=false/\U.cell? ⟨b,3,none⟩=some v3/\W.cell? ⟨b,4,none⟩=some c4/\W.frozen? ⟨b,4,none⟩=false/\U.cell? ⟨b,4,none⟩=some v4/\Hid (Below B a U):=by
 subst h;have hs:=yU (b:=b) (l:=[v0,v1,v2,v3,v4]) ho rfl;exact⟨xA ho 0,xC ho 0,xA hs 0,xA ho 1,xC ho 1,xA hs 1,xA ho 2,xC ho 2,xA hs 2,xA ho 3,xC ho 3,xA hs 3,xA ho 4,xC ho 4,xA hs 4,ι (xZ hB [v0,v1,v2,v3,v4] 0 _ hb)⟩
theorem _root_.yF3 {W a:World} {b B:Nat} {t:TypeId} {c0 c1 c2 c3 c4 c5 c6:Value} (ho:W.heap[b]?=some (.cells #[c0,c1,c2,c3,c4,c5,c6] t (0,0))) (hb:Below B a W) (hB:B<=b) (v0 v1 v2 v3 v4 v5 v6:Value) (U:World) (h:U=((((((W.setCell ⟨b,0,none⟩ v0).setCell ⟨b,1,none⟩ v1).setCell ⟨b,2,none⟩ v2).setCell ⟨b,3,none⟩ v3).setCell ⟨b,4,none⟩ v4).setCell ⟨b,5,none⟩ v5).setCell ⟨b,6,none⟩ v6):W.cell? ⟨b,0,none⟩=some c0/\W.frozen? ⟨b,0,none⟩=false/\U.cell? ⟨b,0,none⟩=some v0/\W.cell? ⟨b,1,none⟩=some c1/\W.frozen? ⟨b,1,none⟩=false/\U.cell? ⟨b,1,none⟩=some v1/\W.cell? ⟨b,2,none⟩=some c2/\W.frozen? ⟨b,2,none⟩=false/\U.cell? ⟨b,2,none⟩=some v2/\W.cell? ⟨b,3,none⟩=some c3/\W.frozen? ⟨b,3,none⟩=false/\U.cell? ⟨b,3,none⟩=some v3/\W.cell? ⟨b,4,none⟩=some c4/\W.frozen? ⟨b,4,none⟩=false/\U.cell? ⟨b,4,none⟩=some v4/\W.cell? ⟨b,5,none⟩=some c5/\W.frozen? ⟨b,5,none⟩=false/\U.cell? ⟨b,5,none⟩=some v5/\W.cell? ⟨b,6,none⟩=some c6/\W.frozen? ⟨b,6,none⟩=false/\U.cell? ⟨b,6,none⟩=some v6/\Hid (Below B a U):=by
 subst h;have hs:=yU (b:=b) (l:=[v0,v1,v2,v3,v4,v5,v6]) ho rfl;exact⟨xA ho 0,xC ho 0,xA hs 0,xA ho 1,xC ho 1,xA hs 1,xA ho 2,xC ho 2,xA hs 2,xA ho 3,xC ho 3,xA hs 3,xA ho 4,xC ho 4,xA hs 4,xA ho 5,xC ho 5,xA hs 5,xA ho 6,xC ho 6,xA hs 6,ι (xZ hB [v0,v1,v2,v3,v4,v5,v6] 0 _ hb)⟩
theorem _root_.yCk {W a:World} {b B:Nat} {t:TypeId} {c0 c1 c2 c3 c4 c5 c6 c7:Value} (ho:W.heap[b]?=some (.cells #[c0,c1,c2,c3,c4,c5,c6,c7] t (0,0))) (hb:Below B a W) (hB:B<=b) (v0 v1 v2 v3 v4 v5 v6 v7:Value) (U:World) (h:U=(((((((W.setCell ⟨b,0,none⟩ v0).setCell ⟨b,1,none⟩ v1).setCell ⟨b,2,none⟩ v2).setCell ⟨b,3,none⟩ v3).setCell ⟨b,4,none⟩ v4).setCell ⟨b,5,none⟩ v5).setCell ⟨b,6,none⟩ v6).setCell ⟨b,7,none⟩ v7):W.cell? ⟨b,0,none⟩=some c0/\W.frozen? ⟨b,0,none⟩=false/\U.cell? ⟨b,0,none⟩=some v0/\W.cell? ⟨b,1,none⟩=some c1/\W.frozen? ⟨b,1,none⟩=false/\U.cell? ⟨b,1,none⟩=some v1/\W.cell? ⟨b,2,none⟩=some c2/\W.frozen? ⟨b,2,none⟩=false/\U.cell? ⟨b,2,none⟩=some v2/\W.cell? ⟨b,3,none⟩=some c3/\W.frozen? ⟨b,3,none⟩=false/\U.cell? ⟨b,3,none⟩=some v3/\W.cell? ⟨b,4,none⟩=some c4/\W.frozen? ⟨b,4,none⟩=false/\U.cell? ⟨b,4,none⟩=some v4/\W.cell? ⟨b,5,none⟩=some c5/\W.frozen? ⟨b,5,none⟩=false/\U.cell? ⟨b,5,none⟩=some v5/\W.cell? ⟨b,6,none⟩=some c6/\W.frozen? ⟨b,6,none⟩=false/\U.cell? ⟨b,6,none⟩=some v6/\W.cell? ⟨b,7,none⟩=some c7/\W.frozen? ⟨b,7,none⟩=false/\U.cell? ⟨b,7,none⟩=some v7/\Hid (Below B a U):=by
 subst h;have hs:=yU (b:=b) (l:=[v0,v1,v2,v3,v4,v5,v6,v7]) ho rfl
 exact⟨xA ho 0,xC ho 0,xA hs 0,xA ho 1,xC ho 1,xA hs 1,xA ho 2,xC ho 2,xA hs 2,xA ho 3,xC ho 3,xA hs 3,xA ho 4,xC ho 4,xA hs 4,xA ho 5,xC ho 5,xA hs 5,xA ho 6,xC ho 6,xA hs 6,xA ho 7,xC ho 7,xA hs 7,ι (xZ hB [v0,v1,v2,v3,v4,v5,v6,v7] 0 _ hb)⟩
end Go.Proofs.SV
namespace Go.Proofs.RK
open Go.RowKit MM
section
variable {α:Type} {e:TypeId} {k:Nat} {f:α->List Value} {w w':World} {base:Nat} {v:Value} {l:List α}
theorem xFd (hk:∀x,(f x).length=k) (l:List α):(l.flatMap f).length=l.length*k:=by
 induction l with
 |nil=>simp
 |cons x l ih=>rw[List.flatMap_cons,List.length_append,hk,ih,List.length_cons,Nat.succ_mul];omega
theorem flat_get (hk:∀x,(f x).length=k):∀(l:List α) (j i:Nat) (x:α) (u:Value),l[j]?=some x->(f x)[i]?=some u->(l.flatMap f)[j*k+i]?=some u
 |[],_,_,_,_,h,_=>by simp at h
 |y::l,0,i,x,u,h,hu=>by
  simp at h;subst h;have hi:=(List.getElem?_eq_some_iff.1 hu).1;rw[List.flatMap_cons,Nat.zero_mul,Nat.zero_add,List.getElem?_append_left hi];exact hu
 |y::l,j+1,i,x,u,h,hu=>by
  have ih:=flat_get hk l j i x u (by simpa using h) hu;rw[List.flatMap_cons,List.getElem?_append_right (by rw[hk,Nat.succ_mul];omega),hk,show(j+1)*k+i-k=j*k+i by rw[Nat.succ_mul];omega];exact ih
theorem xQd (hk:∀x,(f x).length=k):∀(l:List α) (j:Nat) (u:Value),(l.flatMap f)[j]?=some u->∃q i x,j=q*k+i/\l[q]?=some x/\(f x)[i]?=some u
 |[],_,_,h=>by simp at h
 |y::l,j,u,h=>by
  rw[List.flatMap_cons] at h
  by_cases hj:j<k
  ·rw[List.getElem?_append_left (by rw[hk];exact hj)] at h;exact⟨0,j,y,ω,rfl,h⟩
  ·rw[List.getElem?_append_right (by rw[hk];omega),hk] at h;obtain⟨q,i,x,h1,h2,h3⟩:=xQd hk l (j-k) u h;exact⟨q+1,i,x,by rw[Nat.succ_mul];omega,by simpa using h2,h3⟩
def xV (e:TypeId) (k:Nat) (f:α->List Value) (w:World) (base:Nat) (v:Value) (l:List α):Prop:=w.ownsRow base e k v l.length (l.flatMap f)
def RdR (k:Nat) (f:α->List Value) (w:World) (B:Nat) (v:Value) (l:List α):Prop:=
 ∃A c,v=.slice A l.length c/\l.length<=c/\(0<l.length->∃b off,A=some ⟨b,off,none⟩/\b<B/\∀(j:Nat) x,l[j]?=some x->∀(i:Nat) u,(f x)[i]?=some u->w.cell? ⟨b,off+j*k+i,none⟩=some u)
theorem xV.row (h:xV e k f w base v l):w.ownsRow base e k v l.length (l.flatMap f):=h
theorem xV.nil (w:World) (base:Nat):xV e k f w base (.slice none 0 0) []:=World.ownsRow_nil w base _ _
theorem xV.of {m:List α} (h:w.ownsRow base e k v (l.length+m.length) (l.flatMap f++m.flatMap f)):xV e k f w base v (l++m):=by
 unfold xV;rw[List.length_append,List.flatMap_append];exact h
theorem xV.alloc (h:xV e k f w base v l) (o:Obj):xV e k f (w.alloc o) base v l:=World.ownsRow.alloc h o
theorem xV.grown {row:Option Nat} (h:xV e k f w base v l) (hg:w.grownBy w' row) (hne:v.ownBlock=none∨v.ownBlock≠row):xV e k f w' base v l:=h.row.kept hg hne
theorem xV.below (h:xV e k f w base v l) (hb:Below w.heap.size w w'):xV e k f w' base v l:=h.grown (pK hb none) (by cases v.ownBlock<;>simp)
theorem xV.form (h:xV e k f w base v l):∃A c,v=.slice A l.length c/\l.length<=c:=by
 rcases h.2 with ⟨h1,h2⟩|⟨g,cap,cur,h1,_,_,h2,_⟩
 ·exact⟨none,0,by rw[h1,h2],ω⟩
 ·exact⟨_,_,h1,h2⟩
theorem xV.xAm (h:xV e k f w base v l) {p:Addr} (u:Value) (hne:v.ownBlock≠some p.block):xV e k f (w.setCell p u) base v l:=by
 refine⟨h.1,?_⟩;rcases h.2 with hn|⟨g,cap,cur,h1,h2,h3,h4⟩
 ·exact .inl hn
 ·exact .inr ⟨g,cap,cur,h1,h2,yA h3 (λe=>hne (by rw[h1,<-e];rfl)) u,h4⟩
theorem xV.tn {P:Nat->Prop} (h:xV e k f w base v l) (ht:SV.Tn P w w') (hP:∀g,v.ownBlock=some g->¬P g):xV e k f w' base v l:=by
 refine⟨h.1,?_⟩;rcases h.2 with hn|⟨g,cap,cur,h1,h2,h3,h4⟩
 ·exact .inl hn
 ·exact .inr ⟨g,cap,cur,h1,h2,ht.blk h3 (hP g (by rw[h1];rfl)),h4⟩
theorem xV.less {base':Nat} (h:xV e k f w base v l) (hb:base'<=base):xV e k f w base' v l:=by
 refine⟨h.1,?_⟩;rcases h.2 with hn|⟨g,cap,cur,h1,h2,h3⟩
 ·exact .inl hn
 ·exact .inr ⟨g,cap,cur,h1,ω,h3⟩
theorem xV.rd (hk:∀x,(f x).length=k) (h:xV e k f w base v l):RdR k f w w.heap.size v l:=by
 rcases h.2 with ⟨h1,h2⟩|⟨g,cap,cur,h1,hb,hg,hnc,_,_,htake⟩
 ·exact⟨none,0,by rw[h1,h2],ω,λh=>by omega⟩
 ·refine⟨_,cap,h1,hnc,λ_=>⟨g,0,rfl,xG hg,λj x hx i u hu=>?_⟩⟩;have:=World.ownsRow.cells h.row (g:=g) (by rw[h1];rfl) (j*k+i) u (flat_get hk l j i x u hx hu);have hadd:(⟨g,0,none⟩:Addr).add (j*k+i)=⟨g,j*k+i,none⟩:=by unfold Addr.add;split<;>simp_all
  rw[hadd] at this;rw[Nat.zero_add];exact this
theorem RdR.keep {B:Nat} (h:RdR k f w B v l) (hc:∀p:Addr,p.block<B->w'.cell? p=w.cell? p):RdR k f w' B v l:=by
 obtain⟨A,c,h1,h2,h3⟩:=h;refine⟨A,c,h1,h2,λhn=>?_⟩;obtain⟨b,off,h4,h5,h6⟩:=h3 hn;exact⟨b,off,h4,h5,λj x hx i u hu=>(hc _ h5).trans (h6 j x hx i u hu)⟩
theorem RdR.below {B B':Nat} (h:RdR k f w B v l) (hb:Below B' w w') (hB:B<=B'):RdR k f w' B v l:=h.keep λ_ hp=>hb.cell ω
theorem RdR.more {B B':Nat} (h:RdR k f w B v l) (hB:B<=B'):RdR k f w B' v l:=by
 obtain⟨A,c,h1,h2,h3⟩:=h;refine⟨A,c,h1,h2,λhn=>?_⟩;obtain⟨b,off,h4,h5,h6⟩:=h3 hn;exact⟨b,off,h4,ω,h6⟩
theorem RdR.src (hk:∀x,(f x).length=k) {B:Nat} {A:Option Addr} {n c:Nat} (h:RdR k f w B (.slice A n c) l) (hn:0<n):∃ad,A=some ad/\ad.block<B/\∀j u,(l.flatMap f)[j]?=some u->w.cell? (ad.add j)=some u:=by
 obtain⟨A',c',h1,h2,h3⟩:=h;injection h1 with e1 e2 e3;subst e1 e2;obtain⟨b,off,rfl,h5,h6⟩:=h3 hn;refine⟨_,rfl,h5,λj u hu=>?_⟩;obtain⟨q,i,x,rfl,hx,hi⟩:=xQd hk l j u hu;have hadd:(⟨b,off,none⟩:Addr).add (q*k+i)=⟨b,off+(q*k+i),none⟩:=by unfold Addr.add;split<;>simp_all
 rw[hadd,<-Nat.add_assoc];exact h6 q x hx i u hi
theorem xV.room (z:Array Value) (w:World) (c:Nat) (hb:base<=w.heap.size) (hc:c<=9223372036854775807) (hz:z.size=c*k):xV e k f (w.alloc (.cells z e)) base (.slice (some ⟨w.heap.size,0,none⟩) 0 c) []:=
 ⟨σ,.inr ⟨w.heap.size,c,_,rfl,hb,xL _ _,Nat.zero_le _,by unfold maxLen;exact hc,hz,σ⟩⟩
end
end Go.Proofs.RK
/- Contracts of functions. Conditions: as stated. -/
import Derived.Test.YtjdkeibcoiiliaaGreatDoorVaultWholeProofB03
open Go.Proofs.Tryz
set_option maxHeartbeats 8000000
set_option maxRecDepth 100000
namespace Mailsack
theorem yK4 (n:Nat):Go.Lib.repeatL [(0:UInt8)] n=xO n:=by
 unfold xO
 induction n with
 |zero=>rfl
 |succ n ih=>rw[Ff,<-ih];rfl
end Mailsack
namespace Go.Proofs.DS
open Go.RowKit Mailsack MM BB SH SV
theorem xMx (n:Nat) (w:World) (h:n<=1000000):Calls prog 72 #[.string ⟨#[0]⟩,.int .i64 n] w (pv (xR (xO n)) w):=by
 have:=Tryz.strings_Repeat ⟨#[0]⟩ n w ω (by show 1*n<=_;omega);rw[show(⟨#[0]⟩:ByteArray).data.toList=[0] from rfl,yK4] at this;exact this
theorem xFb (n:Nat) (w:World) (h:n<=1000000):Calls prog 42 #[.int .i64 n] w (pv (xR (xO n)) w):=by
 have HZ:=ι (λW=>xMx n W h);have h0:¬((n:Int)<0):=ω;clear h;go_enter func42,ntmps42;go_wp2_with fail
 refine cM (HZ.o _) λw1 hb1=>?_;have B1:=ι hb1;go_wp2;go_ret;exact⟨rfl,B1.o⟩
theorem xSs (s:ByteArray) (n:Nat) (w:World) (h:n<=1000000) (hs:s.size<=1000000):Calls prog 130 #[.string s,.int .i64 n] w (pv (xR (xNi s.data.toList n)) w):=by
 obtain⟨k,hk⟩:=eX (n-s.size);have HZ:=ι (λW=>xMx k W ω)
 have HE:Hid (xR (xNi s.data.toList n)=.string (s++bsA (xO k))):=ι (by
  unfold xNi;rw[show s.data.toList.length=s.size by simp,hk];show Value.string _=_
  congr 1)
 have hz:(bsA (xO k)).size=k:=by rw[yS,yR]
 rw[show xR (xO k)=.string (bsA (xO k)) from rfl] at HZ;generalize bsA (xO k)=z at HZ HE hz;have nb:¬(9223372036854775807<s.size+z.size):=ω
 by_cases hl:s.size<=n
 ·have e1:(n:Int)- (s.size:Int)=(k:Int):=ω;have e4:max (k:Int) 0=(k:Int):=ω;have e5:k<=1000000:=ω;clear hk hl hz h hs;go_enter func130,ntmps130;go_wp2_with fail
  refine cM (HZ.o _) λw1 hb1=>?_;have B1:=ι hb1;clear hb1 HZ;go_wp2;go_ret;exact⟨by rw[HE.o];rfl,B1.o⟩
 ·obtain rfl:k=0:=ω;have e4:max ((n:Int)- (s.size:Int)) 0=0:=ω;clear hk hl hz h hs;go_enter func130,ntmps130;go_wp2_with fail
  refine cM (HZ.o _) λw1 hb1=>?_;have B1:=ι hb1;clear hb1 HZ;go_wp2;go_ret;exact⟨by rw[HE.o];rfl,B1.o⟩
theorem xBn (a:Int) (s:ByteArray) (w:World):Calls prog 38 #[.int .i64 a,.string s] w (pv (.agg #[.bool false,.int .i64 a,.string s]) w):=by
 have hb:=xJ w (.cells #[.bool false,.int .i64 a,.string s] 104);have HB:=ι (φ w (.cells #[.bool false,.int .i64 a,.string s] 104));obtain⟨f0,f1,f2⟩:=xAs hb;clear hb;go_enter func38,ntmps38;go_wp2
 refine Ak (v:=.agg #[.bool false,.int .i64 a,.string s]) (by simp[results,results38,go_sem,f0,f1,f2]) rfl ?_;exact⟨rfl,HB.o⟩
theorem xDw (w:World):Calls prog 39 #[] w (pv (.agg #[.bool true,.int .i64 0,.string ⟨#[]⟩]) w):=by
 have hb:=xJ w (.cells #[.bool true,.int .i64 0,.string ⟨#[]⟩] 104);have HB:=ι (φ w (.cells #[.bool true,.int .i64 0,.string ⟨#[]⟩] 104));obtain⟨f0,f1,f2⟩:=xAs hb;clear hb;go_enter func39,ntmps39;go_wp2
 refine Ak (v:=.agg #[.bool true,.int .i64 0,.string ⟨#[]⟩]) (by simp[results,results39,go_sem,f0,f1,f2]) rfl ?_;exact⟨rfl,HB.o⟩
theorem destL (a:Int):((((xO 64).set 0 (oct a)).set 1 (oct (a / 256))).set 2 (oct (a / 65536))).set 3 (oct (a / 16777216))=wN a:=rfl
theorem xW5 (a:Int) (w:World):Calls prog 36 #[.int .i64 a] w (pv (xR (wN a)) w):=by
 have hmk:(Instr.makeSlice 96 (.int .i64 64) (.int .i64 64)).run prog w=.ok (.slice (some (θ w.heap.size 0)) 64 64) (w.alloc (.cells (yO (xO 64)) 5)):=made w 64 64 ω ω;obtain⟨z,hz⟩:=eX (xO 64);have HD:=ι (destL a);have hzl:z.length=64:=by rw[<-hz];rfl
 rw[hz] at hmk HD;have HB0:Hid (kG (w.alloc (.cells (yO z) 5)) w.heap.size z/\ψ w (w.alloc (.cells (yO z) 5))):=ι ⟨xJ _ _,φ w _⟩;clear hz;go_enter func36,ntmps36;go_wp2_with fail
 clear hmk
 go_loopw [6] (λiv wr=>∃(k:Nat) (l:Bs),k<=4/\iv=.int .i64 k/\l.length=64/\Hid (kG wr w.heap.size l/\ψ w wr)/\Hid ((k=0->l=z)/\(k=1->l=z.set 0 (oct a))/\(k=2->l=(z.set 0 (oct a)).set 1 (oct (a / 256)))/\(k=3->l=((z.set 0 (oct a)).set 1 (oct (a / 256))).set 2 (oct (a / 65536)))/\(k=4->l=wN a))) (λiv _=>4- (intOf iv).toNat)
 case atStart=>exact⟨0,z,ω,rfl,hzl,HB0,ι ⟨λ_=>rfl,λh=>ω,λh=>ω,λh=>ω,λh=>ω⟩⟩
 case round=>
  obtain⟨k,l,hk,rfl,hll,HI,HL⟩:=hrel;clear HB0
  by_cases hlt:k<4
  ·have hp:=λz=>ι (Ai (HI.o.1.put k z) (HI.o.2.setCell (p:=θ w.heap.size k) ν (.int .u8 (z % 256))));have q:=HI.o.1.cell (i:=k) ω;have f:=HI.o.1.free k;generalize l.getD k 0=b0 at q;have HQ:=ι hp;clear hp HI;rcases(show k=0∨k=1∨k=2∨k=3 by omega) with rfl|rfl|rfl|rfl
   ·have HQL:=ι (HL.o.1 rfl);have hl2:(l.set 0 (oct (a))).length=64:=by simpa using hll
    have HQ2:=ι (HQ.o (a)).o;clear hk hlt HL HQ;go_wp2;exact⟨⟨1,_,ω,rfl,hl2,HQ2,ι ⟨λh=>ω,λ_=>(by rw[HQL.o]),λh=>ω,λh=>ω,λh=>ω⟩⟩,by simp[intOf]⟩
   ·have HQL:=ι (HL.o.2.1 rfl);have hl2:(l.set 1 (oct (a / 256))).length=64:=by simpa using hll
    have HQ2:=ι (HQ.o (a / 256)).o;clear hk hlt HL HQ;go_wp2;exact⟨⟨2,_,ω,rfl,hl2,HQ2,ι ⟨λh=>ω,λh=>ω,λ_=>(by rw[HQL.o]),λh=>ω,λh=>ω⟩⟩,by simp[intOf]⟩
   ·have HQL:=ι (HL.o.2.2.1 rfl);have hl2:(l.set 2 (oct (a / 65536))).length=64:=by simpa using hll
    have HQ2:=ι (HQ.o (a / 65536)).o;clear hk hlt HL HQ;go_wp2;exact⟨⟨3,_,ω,rfl,hl2,HQ2,ι ⟨λh=>ω,λh=>ω,λh=>ω,λ_=>(by rw[HQL.o]),λh=>ω⟩⟩,by simp[intOf]⟩
   ·have HQL:=ι (HL.o.2.2.2.1 rfl);have hl2:(l.set 3 (oct (a / 16777216))).length=64:=by simpa using hll
    have HQ2:=ι (HQ.o (a / 16777216)).o;clear hk hlt HL HQ;go_wp2;exact⟨⟨4,_,ω,rfl,hl2,HQ2,ι ⟨λh=>ω,λh=>ω,λh=>ω,λh=>ω,λ_=>(by rw[HQL.o];exact HD.o)⟩⟩,by simp[intOf]⟩
  ·obtain rfl:k=4:=ω;have hle:=HL.o.2.2.2.2 rfl;have ht:=xIt HI.o.1 64 64 ω;have HTK:Hid (l.take 64=l):=ι (by rw[<-hll,Cf]);rw[HTK.o] at ht;have HLE:=ι hle;clear hle HL hll HTK;go_wp2;go_ret;exact⟨by rw[<-HLE.o];rfl,HI.o.2⟩
theorem yHw (c d:Int) (hc:0<=c) (hc2:c<256) (hd:0<=d) (hd2:d<256) (g:Nat) (W:World) (hb:W.heap[g]?=some (.cells #[.int .u8 c,.int .u8 d] 5 (0,0))):(convert 96 9 (.slice (some (θ g 0)) 2 2)).run prog W=.ok (.string (bsA [oct c,oct d])) W:=by
 refine Dl (P:=prog) W _ _ 5 (θ g 0) 2 [oct c,oct d] underlying96 underlying5 underlying9 (λj hj=>?_);have hj2:j=0∨j=1:=by simp at hj;omega
 have ha:(⟨g,0,none⟩:Addr).add j=⟨g,j,none⟩:=by unfold Addr.add;split<;>simp_all
 rw[ha,xA hb];rcases hj2 with rfl|rfl
 ·simp[wW];omega
 ·simp[wW];omega
theorem xMc (n:Nat) (all:ByteArray) (w:World) (hn:n<256) (ha:all.size<=1000000) (hT:jE w):Calls prog 40 #[.int .i64 n,.string all] w (pv (xR (wE n all.data.toList)) w):=by
 have HS:=ι (λW h=>xIu all W ω h);have HT:=ι (λW (h:ψ w W)=>hT.below h ν)
 have HE:Hid (xR (wE n all.data.toList)=.string (bsA [oct 74,oct n]++bsA (xKz all)++bsA (xO 30))):=ι (by
  unfold wE;rw[show bsA all.data.toList=all by cases all;simp[bsA]];show Value.string _=Value.string _
  congr 1)
 have hz:=xC6 all;have hb:(bsA (xKz all)).size=32:=by rw[yS,hz]
 rw[show xR (xKz all)=.string (bsA (xKz all)) from rfl] at HS;generalize bsA (xKz all)=sh at HS HE hb;have HZ:=ι (λW (x:Int) (hx:x=((30:Nat):Int))=>(show Calls prog 42 #[.int .i64 x] W ((pv (xR (xO 30)) W)) by rw[hx];exact xFb 30 W ω))
 rw[show xR (xO 30)=.string (bsA (xO 30)) from rfl] at HZ;have hb3:(bsA (xO 30)).size=30:=by rw[yS,yR]
 generalize bsA (xO 30)=zb at HZ HE hb3;have HCV:=ι (yHw 74 (n:Int) ω ω ω ω);have hb2:(bsA [oct 74,oct (n:Int)]).size=2:=by rw[yS];rfl
 generalize bsA [oct 74,oct (n:Int)]=h2 at HE HCV hb2;have nb1:¬(9223372036854775807<h2.size+sh.size):=ω;have nb2:¬(9223372036854775807<(h2++sh).size+zb.size):=by rw[Aw];omega
 have hnn:(n:Int) % 256=n:=ω;have HSZ:=ι (Ai hb2 hb);clear hz hb hb3 hb2 ha;go_enter func40,ntmps40;go_upto_region 1 with fail
 refine RG.vE [] [2] (λL α W=>Hid (ψ w W/\(L 2=true->∃g,α 2=.slice (some (θ g 0)) 2 2/\W.heap[g]?=some (.cells #[.int .u8 74,.int .u8 (n:Int)] 5 (0,0))))) (λL L' α α' W hl ha h=>ι ⟨h.o.1,λh2=>by rw[<-ha 2 σ (by rw[hl 2 σ];exact h2)];exact h.o.2 (by rw[hl 2 σ];exact h2)⟩) κ κ κ (ι ⟨(Aq w.heap.size w).drew,λh=>by cases h⟩) ?_
 iterate 2 refine RG.vS ?_
 apply RG.qP
 ·rfl
 ·intro α L w9 h0 hcl xQ hw9;refine⟨.slice (some (θ w9.heap.size 0)) 2 2,λbv hbv=>?_⟩;repeat go_step
  rw[<-hbv];refine RG.xE ?_;exact ι ⟨hw9.o.1.alloc hw9.o.1.size _,λ_=>⟨w9.heap.size,by rw[RG.zL];exact hbv,xJ _ _⟩⟩
 ·intro b α;rfl
 apply RG.zR
 ·rfl
 ·rfl
 ·intro α L w9 h0 hcl xQ hw9
  have e2:L 2=true:=by
   have:=xQ.yes 8 (i:=3) (j:=2) σ κ;simpa using this
  obtain⟨g,hg,hb⟩:=hw9.o.2 e2;have hcv:=HCV.o g w9 hb;rw[show α (0+1+1)=_ from hg];clear e2 hb;repeat go_step
  rw[<-show α (0+1+1)=_ from hg];exact RG.xE hw9
 ·intro α;rfl
 refine RG.vS ?_;apply RG.zR
 ·rfl
 ·rfl
 ·intro α L w9 h0 hcl xQ hw9;repeat go_step
  refine(HS.o _ (HT.o _ hw9.o.1)).mono ?_;rintro e w10 ⟨rfl,zO⟩;simp only[];repeat go_step
  refine RG.xE ?_;refine ι ⟨bT hw9.o.1 zO,λe2=>?_⟩;obtain⟨g,hg,hb⟩:=hw9.o.2 e2;exact⟨g,hg,xC hb zO (xH hb)⟩
 ·intro α;rfl
 iterate 2 refine RG.vS ?_
 refine RG.xA6 (λα w3 hw3=>?_);have B3:=ι hw3.o.1;clear hw3 HS HT HCV;go_wp2_with fail
 refine(HZ.o _ _ (by have:=HSZ.o;omega)).mono ?_;rintro e w4 ⟨rfl,hb4⟩;have B4:=ι (bT B3.o hb4);clear hb4 B3 HZ;go_wp2;go_ret;exact⟨by rw[HE.o];rfl,B4.o⟩
end Go.Proofs.DS
namespace Go.Proofs.RK
open Go.RowKit MM
section
variable {α:Type} {e:TypeId} {k:Nat} {f:α->List Value} {w w':World} {base:Nat} {v:Value} {l:List α}
theorem xIe (hk:∀x,(f x).length=k) (l:List α):(l.flatMap f).length=l.length*k:=by
 induction l with
 |nil=>simp
 |cons x l ih=>rw[Cz,Aj,hk,ih,Bl,Fj];omega
theorem flat_get (hk:∀x,(f x).length=k):∀(l:List α) (j i:Nat) (x:α) (u:Value),l[j]?=some x->(f x)[i]?=some u->(l.flatMap f)[j*k+i]?=some u
 |[],_,_,_,_,h,_=>by simp at h
 |y::l,0,i,x,u,h,hu=>by
  simp at h;subst h;have hi:=(Ar.1 hu).1;rw[Cz,Nat.zero_mul,Ay,Fz hi];exact hu
 |y::l,j+1,i,x,u,h,hu=>by
  have ih:=flat_get hk l j i x u (by simpa using h) hu;rw[Cz,Fv (by rw[hk,Fj];omega),hk,show(j+1)*k+i-k=j*k+i by rw[Fj];omega];exact ih
theorem xVs (hk:∀x,(f x).length=k):∀(l:List α) (j:Nat) (u:Value),(l.flatMap f)[j]?=some u->∃q i x,j=q*k+i/\l[q]?=some x/\(f x)[i]?=some u
 |[],_,_,h=>by simp at h
 |y::l,j,u,h=>by
  rw[Cz] at h
  by_cases hj:j<k
  ·rw[Fz (by rw[hk];exact hj)] at h;exact⟨0,j,y,ω,rfl,h⟩
  ·rw[Fv (by rw[hk];omega),hk] at h;obtain⟨q,i,x,h1,h2,h3⟩:=xVs hk l (j-k) u h;exact⟨q+1,i,x,by rw[Fj];omega,by simpa using h2,h3⟩
def xW (e:TypeId) (k:Nat) (f:α->List Value) (w:World) (base:Nat) (v:Value) (l:List α):Prop:=w.ownsRow base e k v l.length (l.flatMap f)
def RdR (k:Nat) (f:α->List Value) (w:World) (B:Nat) (v:Value) (l:List α):Prop:=
 ∃A c,v=.slice A l.length c/\l.length<=c/\(0<l.length->∃b off,A=some (θ b off)/\b<B/\∀(j:Nat) x,l[j]?=some x->∀(i:Nat) u,(f x)[i]?=some u->w.cell? ⟨b,off+j*k+i,none⟩=some u)
theorem xW.row (h:xW e k f w base v l):w.ownsRow base e k v l.length (l.flatMap f):=h
theorem xW.nil (w:World) (base:Nat):xW e k f w base (.slice none 0 0) []:=World.ownsRow_nil w base _ _
theorem xW.of {m:List α} (h:w.ownsRow base e k v (l.length+m.length) (l.flatMap f++m.flatMap f)):xW e k f w base v (l++m):=by
 unfold xW;rw[Aj,List.flatMap_append];exact h
theorem xW.alloc (h:xW e k f w base v l) (o:Obj):xW e k f (w.alloc o) base v l:=Hw h o
theorem xW.grown {row:Option Nat} (h:xW e k f w base v l) (hg:w.grownBy w' row) (hne:v.ownBlock=none∨v.ownBlock≠row):xW e k f w' base v l:=h.row.kept hg hne
theorem xW.below (h:xW e k f w base v l) (hb:ψ w w'):xW e k f w' base v l:=h.grown (xEq hb none) (by cases v.ownBlock<;>simp)
theorem xW.form (h:xW e k f w base v l):∃A c,v=.slice A l.length c/\l.length<=c:=by
 rcases h.2 with ⟨h1,h2⟩|⟨g,cap,cur,h1,_,_,h2,_⟩
 ·exact⟨none,0,by rw[h1,h2],ω⟩
 ·exact⟨_,_,h1,h2⟩
theorem xW.xCz (h:xW e k f w base v l) {p:Addr} (u:Value) (hne:v.ownBlock≠some p.block):xW e k f (w.setCell p u) base v l:=by
 refine⟨h.1,?_⟩;rcases h.2 with hn|⟨g,cap,cur,h1,h2,h3,h4⟩
 ·exact .inl hn
 ·exact .inr ⟨g,cap,cur,h1,h2,yA h3 (λe=>hne (by rw[h1,<-e];rfl)) u,h4⟩
theorem xW.tn {P:Nat->Prop} (h:xW e k f w base v l) (ht:SV.Tn P w w') (hP:∀g,v.ownBlock=some g->¬P g):xW e k f w' base v l:=by
 refine⟨h.1,?_⟩;rcases h.2 with hn|⟨g,cap,cur,h1,h2,h3,h4⟩
 ·exact .inl hn
 ·exact .inr ⟨g,cap,cur,h1,h2,ht.blk h3 (hP g (by rw[h1];rfl)),h4⟩
theorem xW.less {base':Nat} (h:xW e k f w base v l) (hb:base'<=base):xW e k f w base' v l:=by
 refine⟨h.1,?_⟩;rcases h.2 with hn|⟨g,cap,cur,h1,h2,h3⟩
 ·exact .inl hn
 ·exact .inr ⟨g,cap,cur,h1,ω,h3⟩
theorem xW.rd (hk:∀x,(f x).length=k) (h:xW e k f w base v l):RdR k f w w.heap.size v l:=by
 rcases h.2 with ⟨h1,h2⟩|⟨g,cap,cur,h1,hb,hg,hnc,_,_,htake⟩
 ·exact⟨none,0,by rw[h1,h2],ω,λh=>by omega⟩
 ·refine⟨_,cap,h1,hnc,λ_=>⟨g,0,rfl,xH hg,λj x hx i u hu=>?_⟩⟩;have:=Eh h.row (g:=g) (by rw[h1];rfl) (j*k+i) u (flat_get hk l j i x u hx hu);have hadd:(⟨g,0,none⟩:Addr).add (j*k+i)=⟨g,j*k+i,none⟩:=by unfold Addr.add;split<;>simp_all
  rw[hadd] at this;rw[Ay];exact this
theorem RdR.keep {B:Nat} (h:RdR k f w B v l) (hc:∀p:Addr,p.block<B->w'.cell? p=w.cell? p):RdR k f w' B v l:=by
 obtain⟨A,c,h1,h2,h3⟩:=h;refine⟨A,c,h1,h2,λhn=>?_⟩;obtain⟨b,off,h4,h5,h6⟩:=h3 hn;exact⟨b,off,h4,h5,λj x hx i u hu=>(hc _ h5).trans (h6 j x hx i u hu)⟩
theorem RdR.below {B B':Nat} (h:RdR k f w B v l) (hb:Below B' w w') (hB:B<=B'):RdR k f w' B v l:=h.keep λ_ hp=>hb.cell ω
theorem RdR.more {B B':Nat} (h:RdR k f w B v l) (hB:B<=B'):RdR k f w B' v l:=by
 obtain⟨A,c,h1,h2,h3⟩:=h;refine⟨A,c,h1,h2,λhn=>?_⟩;obtain⟨b,off,h4,h5,h6⟩:=h3 hn;exact⟨b,off,h4,ω,h6⟩
theorem RdR.src (hk:∀x,(f x).length=k) {B:Nat} {A:Option Addr} {n c:Nat} (h:RdR k f w B (.slice A n c) l) (hn:0<n):∃ad,A=some ad/\ad.block<B/\∀j u,(l.flatMap f)[j]?=some u->w.cell? (ad.add j)=some u:=by
 obtain⟨A',c',h1,h2,h3⟩:=h;injection h1 with e1 e2 e3;subst e1 e2;obtain⟨b,off,rfl,h5,h6⟩:=h3 hn;refine⟨_,rfl,h5,λj u hu=>?_⟩;obtain⟨q,i,x,rfl,hx,hi⟩:=xVs hk l j u hu;have hadd:(⟨b,off,none⟩:Addr).add (q*k+i)=⟨b,off+(q*k+i),none⟩:=by unfold Addr.add;split<;>simp_all
 rw[hadd,<-Nat.add_assoc];exact h6 q x hx i u hi
theorem xW.room (z:Array Value) (w:World) (c:Nat) (hb:base<=w.heap.size) (hc:c<=9223372036854775807) (hz:z.size=c*k):xW e k f (w.alloc (.cells z e)) base (.slice (some (θ w.heap.size 0)) 0 c) []:=
 ⟨σ,.inr ⟨w.heap.size,c,_,rfl,hb,xJ _ _,Bc _,by unfold maxLen;exact hc,hz,σ⟩⟩
end
end Go.Proofs.RK
namespace Go.Proofs.RK
open Go.RowKit MM
theorem xJ6 {P:Program} {w:World} (base:Nat) (t ty e:TypeId) (i:TypeInfo) (size:Nat) (ht:P.underlying t=some (.slice e)) (hi:P.info? e=some i)
  (v:Value) (n:Nat) (xs:List Value) (hown:w.ownsRow base e size v n xs) (A:Option Addr) (c:Nat):
  (Builtin.append_ #[t,t] ty #[v,.slice A 0 c]).run P w=.ok v w:=by
 rcases hown.2 with ⟨rfl,rfl⟩|⟨g,cap,cur,rfl,_,_,hnc,_⟩
 ·cases A<;>simp[Builtin.append_,run_underlying ht,sizeOf,typeInfo,hi,Builtin.lenOf,Builtin.firstCells,loadCells,loadCellsFrom]
 ·cases A<;>simp[Builtin.append_,run_underlying ht,sizeOf,typeInfo,hi,Builtin.lenOf,Builtin.firstCells,hnc,storeCells,loadCells,loadCellsFrom]
structure yEr {α:Type} (P:Program) (t e:TypeId) (k bytes:Nat) (f:α->List Value):Prop where
 und:P.underlying t=some (.slice e)
 info:∃i z,P.info? e=some i/\i.zero=some z/\i.size=k/\i.bytes=bytes/\z.cells.size=k
 pos:0<k
 bpos:0<bytes
 len:∀x,(f x).length=k
 one:∀x,∀u∈f x,u.oneCell'=true
structure xA5 {α:Type} (e:TypeId) (k:Nat) (f:α->List Value) (w w':World) (base:Nat) (v v':Value) (l:List α):Prop where
 own:xW e k f w' base v' l
 grown:w.grownBy w' v.ownBlock
 at_:v'.ownBlock=v.ownBlock∨v'.ownBlock=some w.heap.size
section
variable {P:Program} {w w' w0:World} {α:Type} {t e:TypeId} {k bytes:Nat} {f:α->List Value} {base:Nat} {v v' vx:Value} {l m:List α}
theorem xW.far (h:xW e k f w base v l) {p:Nat} (hp:p<base):v.ownBlock≠some p:=by
 rcases h.2 with ⟨rfl,_⟩|⟨g,cap,cur,rfl,hb,_⟩
 ·intro e;cases e
 ·intro e;have:g=p:=by simpa[Value.ownBlock] using e
  omega
theorem xA5.keep (h:xA5 e k f w w' base v v' l) {p:Nat} {o:Obj} (hp:w.heap[p]?=some o) (hne:v.ownBlock≠some p):w'.heap[p]?=some o:=rC hp h.grown (λe=>hne e.symm)
theorem xA5.bel (h:xA5 e k f w w' base v v' l) {l0:List α} (ho:xW e k f w base v l0) {B:Nat} (hB:B<=base) (hb:Below B w0 w) (hs:B<=w.heap.size):Below B w0 w':=
 hb.grown h.grown hs (λg hg=>by have:=Di ho.row g hg;omega)
theorem xFn (ht:yEr P t e k bytes f) (ty:TypeId) (hown:xW e k f w base v l) {B:Nat} (hrd:RdR k f w B vx m) (hbytes:(l.length+m.length)*bytes<=140737488355328) (hbase:base<=w.heap.size):
  ∃v' w',(Builtin.append_ #[t,t] ty #[v,vx]).run P w=.ok v' w'/\xA5 e k f w w' base v v' (l++m):=by
 obtain⟨i,z,hi,hz,hs,hby,hzs⟩:=ht.info;have hrd':=hrd;obtain⟨A,c,rfl,hc,h3⟩:=hrd
 by_cases h0:m.length=0
 ·have:m=[]:=Cs h0;subst this;refine⟨v,w,xJ6 base t ty e i k ht.und hi v _ _ hown.row A c,?_,World.grownBy.refl _ _,.inl rfl⟩;rw[Dw];exact hown
 ·obtain⟨ad,rfl,_,hsrc⟩:=hrd'.src ht.len ω
  have hlen:l.length+m.length<=maxLen:=by
   have:=Nat.le_mul_of_pos_right (l.length+m.length) ht.bpos;unfold maxLen;omega
  have h1:∀u∈m.flatMap f,u.oneCell'=true:=λu hu=>by
   obtain⟨x,_,hx⟩:=List.mem_flatMap.1 hu;exact ht.one x u hx
  obtain⟨g,cap,w',h2,h4,h5,h6,h7⟩:=run_append_lies (P:=P) (w:=w) t ty base e i z k bytes ht.und hi hz hs hby hzs ht.pos v l.length _ hown.row ad m.length c _ (xIe ht.len m) hsrc h1 ω hlen hbytes hbase w.heap.size rfl;refine⟨_,w',h2,xW.of h4,h5,?_⟩;rcases h6 with h6|h6
  ·exact .inl h6.symm
  ·exact .inr (by subst h6;rfl)
theorem uG {ops:Array Oper} {rest:List Oper} {o:Oper} {a:Act} {Q:Exit->Act->World->Prop} (ht:yEr P t e k bytes f) (hgd:o.guard=none) (s x:Operand)
  (ho:o.op=.call {callee:=.builtin .append,args:=#[s,x],argTypes:=#[t,t]}) (hs:a.eval s=v) (hx:a.eval x=vx)
  (hown:xW e k f w base v l) {B:Nat} (hrd:RdR k f w B vx m) (hbytes:(l.length+m.length)*bytes<=140737488355328) (hbase:base<=w.heap.size)
  (h:∀v' w',xA5 e k f w w' base v v' (l++m)->wpList P ops Q rest (a.put o.dst v') w'):wpList P ops Q (o::rest) a w:=by
 obtain⟨v',w',hr,ha⟩:=xFn (P:=P) ht o.type hown hrd hbytes hbase;refine Hr hgd λK hK=>?_;unfold Oper.wp;simp[execOp,ho,resolve,invoke,builtin,hs,hx,hr,Result.andThen];exact hK _ _ (h _ _ ha)
theorem RdR.lit (hk:∀x,(f x).length=k) (W:World) (cs:Array Value) (hcs:cs.toList=m.flatMap f):RdR k f (W.alloc (.cells cs e)) (W.heap.size+1) (.slice (some (θ W.heap.size 0)) m.length m.length) m:=by
 refine⟨_,_,rfl,Bd _,λ_=>⟨W.heap.size,0,rfl,ω,λj x hx i u hu=>?_⟩⟩;rw[Ay,xA (xJ W _)];have:=flat_get hk m j i x u hx hu;rw[<-hcs] at this;simpa using this
theorem yKy (ht:yEr P t e k bytes f) (W:World) (c:Nat) (hm:c*bytes<=140737488355328):∃z:Array Value,z.size=c*k/\(Instr.makeSlice t (.int .i64 0) (.int .i64 (c:Int))).run P W=.ok (.slice (some (θ W.heap.size 0)) 0 c) (W.alloc (.cells z e)):=by
 obtain⟨i,z,hi,hz,hs,hby,hzs⟩:=ht.info;have hc:=Nat.le_mul_of_pos_right c ht.bpos;have h:=run_make (P:=P) (w:=W) t e i z ht.und hi hz .i64 .i64 0 (c:Int) ω ω (by rw[hby,show(bytes:Int)*(c:Int)=((c*bytes:Nat):Int) by rw[Fp];exact(Int.natCast_mul _ _).symm];omega) ω
 simp only[Cn,Int.toNat_zero] at h;refine⟨_,?_,h⟩;rw[size_madeCells,hs]
end
end Go.Proofs.RK
namespace Go.Proofs.DS
open Go.RowKit Mailsack MM BB SH SV RK
abbrev wrF (x:Wr):List Value:=[.int .i64 x.at_,xR x.data]
theorem xCs (x:Wr):(wrF x).length=2:=rfl
theorem yJg (x:Wr):∀u∈wrF x,u.oneCell'=true:=by
 intro u hu;simp only[wrF,De,Dp,Gn] at hu;rcases hu with rfl|rfl<;>rfl
theorem infoWr:(prog.info? 94).map (λi=>(i.zero,i.size,i.bytes))=some (some (.agg #[.int .i64 0,.string ⟨#[]⟩]),2,24):=κ
theorem yJr:yEr prog 27 94 2 24 wrF:=by
 obtain⟨i,hi,hz,hs,hb⟩:=jL infoWr;exact⟨underlying27,⟨i,_,hi,hz,hs,hb,rfl⟩,ω,ω,xCs,yJg⟩
theorem yIh {w:World} {B:Nat} {v:Value} {l:List Wr} (h:RdR 2 wrF w B v l):RdW w B v l:=by
 obtain⟨A,c,h1,h2,h3⟩:=h;refine⟨A,c,h1,h2,λhn=>?_⟩;obtain⟨b,off,h4,h5,h6⟩:=h3 hn;exact⟨b,off,h4,h5,λj x hx=>⟨h6 j x hx 0 _ rfl,h6 j x hx 1 _ rfl⟩⟩
theorem rdW_to {w:World} {B:Nat} {v:Value} {l:List Wr} (h:RdW w B v l):RdR 2 wrF w B v l:=by
 obtain⟨A,c,h1,h2,h3⟩:=h;refine⟨A,c,h1,h2,λhn=>?_⟩;obtain⟨b,off,h4,h5,h6⟩:=h3 hn;refine⟨b,off,h4,h5,λj x hx i u hu=>?_⟩;have hi:=(Ar.1 hu).1;simp at hi;rcases(show i=0∨i=1 by omega) with rfl|rfl
 ·injection hu with hu;subst hu;exact(h6 j x hx).1
 ·injection hu with hu;subst hu;exact(h6 j x hx).2
structure PuM (w:World) (va vb:Value) (x:Wr) (W:World):Prop where
 d:W.heap[w.heap.size]?=some (yI va vb)
 x:W.heap[w.heap.size+1]?=some (.cells #[.int .i64 x.at_,xR x.data] 94 (0,0))
 o:W.heap[w.heap.size+1+1]?=some (yI (.slice none 0 0) (.slice none 0 0))
 bel:ψ w W
theorem PuM.below {w W W':World} {va vb:Value} {x:Wr} (h:PuM w va vb x W) (hb:ψ W W'):PuM w va vb x W':=
 ⟨xC h.d hb (xH h.d),xC h.x hb (xH h.x),xC h.o hb (xH h.o),bT h.bel hb⟩
theorem xNd (va vb:Value) (d:Dk) (x:Wr) (w:World) (h:RdD w w.heap.size va vb d) (hc:d.cache.length+1<=1000000):
  Calls prog 48 #[.agg #[va,vb],.agg #[.int .i64 x.at_,xR x.data]] w λe w'=>∃va' vb',e=.returned (.tuple #[.agg #[va',vb'],.int .i64 (if (yP d&&wF x d.secs.length)=true then 0 else 1)])/\
   RdD w' w'.heap.size va' vb' (if (yP d&&wF x d.secs.length)=true then xZ9 d x else⟨[],[]⟩)/\ψ w w':=by
 have HRT:=ι (λW (hb:ψ w W)=>qX va vb d W ((h.below hb ν).more hb.size));have HFT:=ι (λW=>xVu x d.secs.length W);have HD:=ι h
 have H0:Hid (PuM w va vb x (((w.alloc (yI va vb)).alloc (.cells #[.int .i64 x.at_,xR x.data] 94)).alloc (yI (.slice none 0 0) (.slice none 0 0)))):=ι (by
  refine⟨xN (zM w _ _) _,xN (zI w _ _) _,?_,((φ w _).alloc σ _).alloc (by simp;omega) _⟩;have:=xJ ((w.alloc (yI va vb)).alloc (.cells #[.int .i64 x.at_,xR x.data] 94)) (yI (.slice none 0 0) (.slice none 0 0));simpa using this)
 have hsl:∃A1 c1,va=.slice A1 d.secs.length c1:=by
  obtain⟨A1,c1,e,_⟩:=h.s;exact⟨A1,c1,e⟩
 obtain⟨A1,c1,rfl⟩:=hsl
 have hsl2:∃A2 c2,vb=.slice A2 d.cache.length c2:=by
  obtain⟨A2,c2,e,_⟩:=h.c;exact⟨A2,c2,e⟩
 obtain⟨A2,c2,rfl⟩:=hsl2;obtain⟨sn,hsn⟩:=eX d.secs.length;obtain⟨cn,hcn⟩:=eX d.cache.length;rw[hsn] at HRT HFT H0 HD⊢;rw[hcn] at HRT H0 HD hc⊢;have HLS:=ι (Ai hsn hcn);clear h hsn hcn;cases hr:yP d with
 |false=>
  rw[hr] at HRT;rw[Dy,Ag σ,Ag σ];clear hr HFT HD HLS;go_enter func48,ntmps48;go_wp2_with fail
  refine cM (HRT.o _ H0.o.bel) λw1 hb1=>?_;have H1:=ι (H0.o.below hb1);clear H0 hb1 HRT;obtain⟨o0,y0,f0,o1,y1,f1,HB⟩:=xMk H1.o.o H1.o.bel ω (.slice none 0 0) (.slice none 0 0) _ rfl;clear H1;go_wp2
  refine Ak (v:=.tuple #[.agg #[.slice none 0 0,.slice none 0 0],.int .i64 1]) (by simp[results,results48,go_sem,f0,f1]) rfl ?_;exact⟨_,_,rfl,⟨⟨_,_,rfl,Bd _,λh=>by simp at h⟩,RdW.xJj _ _,σ,σ⟩,HB.o⟩
 |true=>
  rw[hr] at HRT;rw[Ed];cases hf:wF x sn with
  |false=>
   rw[hf] at HFT;rw[Ag σ,Ag σ];clear hr hf HD HLS;go_enter func48,ntmps48;go_wp2_with fail
   refine cM (HRT.o _ H0.o.bel) λw1 hb1=>?_;have H1:=ι (H0.o.below hb1);clear H0 hb1 HRT;obtain⟨d0,d1⟩:=uQ H1.o.d;obtain⟨x0,x1⟩:=uQ H1.o.x;go_wp2_with fail
   clear d0 d1 x0 x1;refine cM (HFT.o _) λw2 hb2=>?_;have H2:=ι (H1.o.below hb2);clear H1 hb2 HFT;obtain⟨o0,y0,f0,o1,y1,f1,HB⟩:=xMk H2.o.o H2.o.bel ω (.slice none 0 0) (.slice none 0 0) _ rfl;clear H2;go_wp2
   refine Ak (v:=.tuple #[.agg #[.slice none 0 0,.slice none 0 0],.int .i64 1]) (by simp[results,results48,go_sem,f0,f1]) rfl ?_;exact⟨_,_,rfl,⟨⟨_,_,rfl,Bd _,λh=>by simp at h⟩,RdW.xJj _ _,σ,σ⟩,HB.o⟩
  |true=>
   rw[hf] at HFT;rw[Ah rfl,Ah rfl];clear hr hf;go_enter func48,ntmps48;go_wp2_with fail
   refine cM (HRT.o _ H0.o.bel) λw1 hb1=>?_;have H1:=ι (H0.o.below hb1);clear H0 hb1 HRT;obtain⟨d0,d1⟩:=uQ H1.o.d;obtain⟨x0,x1⟩:=uQ H1.o.x;go_wp2_with fail
   clear d0 d1 x0 x1;refine cM (HFT.o _) λw2 hb2=>?_;have H2:=ι (H1.o.below hb2);clear H1 hb2 HFT;obtain⟨d0,d1⟩:=uQ H2.o.d;obtain⟨z,hzz,hmk⟩:=yKy yJr w2 (cn+1) ω;rw[show((cn+1:Nat):Int)=(cn:Int)+1 by omega] at hmk;have H2L:=ι (xH H2.o.o)
   have HO3:Hid (xW 94 2 wrF (w2.alloc (.cells z 94)) (w.heap.size+1+1+1) (.slice (some (θ w2.heap.size 0)) 0 (cn+1)) []):=ι (xW.room z w2 (cn+1) H2L.o ω hzz);have H3:=ι (H2.o.below ((Aq _ w2).alloc ν (.cells z 94)));go_upto_region 4 with fail
   clear hmk hzz d0 d1;generalize w2.alloc (.cells z 94)=w3 at HO3 H3⊢;generalize Value.slice (some (θ w2.heap.size 0)) 0 (cn+1)=v3 at HO3⊢;have H3L:=ι (xH H3.o.o);have HRD3:=ι ((rdW_to HD.o.c).below H3.o.bel ν);obtain⟨d0,d1⟩:=uQ H3.o.d
   go_upto_region 5 with (at_builtin;refine uG yJr rfl _ _ rfl rfl rfl HO3.o HRD3.o (by have:=HLS.o.2;simp;omega) (by have:=H3L.o;omega) ?_;intro v5 w5 h5;have HA5:=ι h5;clear h5)
   clear d0 d1;have H5:Hid (PuM w (.slice A1 sn c1) (.slice A2 cn c2) x w5):=ι ⟨HA5.o.keep H3.o.d (HO3.o.far ω),HA5.o.keep H3.o.x (HO3.o.far ω),HA5.o.keep H3.o.o (HO3.o.far ω),HA5.o.bel HO3.o ω H3.o.bel H3.o.bel.size⟩
   have HO5:Hid (xW 94 2 wrF w5 (w.heap.size+1+1+1) v5 d.cache):=ι HA5.o.own;clear HA5 HO3 H3 HRD3;obtain⟨x0,x1⟩:=uQ H5.o.x
   go_upto_region 6 with (at_builtin;refine uG yJr rfl _ _ rfl rfl rfl (HO5.o.alloc _) (RdR.lit (m:=[x]) xCs _ _ rfl) (by have:=HLS.o.2;simp;omega) (by have:=xH H5.o.o;simp;omega) ?_;intro v6 w6 h6;have HA6:Hid (xA5 94 2 wrF (w5.alloc (.cells #[.int .i64 x.at_,xR x.data] 94)) w6 (w.heap.size+1+1+1) v5 v6 (d.cache++[x])):=ι h6;clear h6)
   clear x0 x1;obtain⟨A6,c6,hv6,hc6⟩:=HA6.o.own.form;have hl6:(d.cache++[x]).length=cn+1:=by simp[HLS.o.2]
   rw[hl6] at hv6;have q0:=HA6.o.keep (xN H5.o.d _) (HO5.o.far ω);have q1:=HA6.o.keep (xN H5.o.o _) (HO5.o.far ω);have q2:=HA6.o.bel (w0:=w) (B:=w.heap.size) (HO5.o.alloc _) ω (H5.o.bel.alloc H5.o.bel.size _) (by have:=H5.o.bel.size;simp;omega);have HO6:=ι HA6.o.own;subst hv6
   clear HA6 hl6 hc6;obtain⟨d0,d1⟩:=uQ q0;obtain⟨o0,y0,f0,o1,y1,f1,HB⟩:=xMk q1 q2 ω (.slice A1 sn c1) (.slice A6 (cn+1) c6) _ rfl;clear q0 q1 q2 H5 HO5 H2L H3L;go_wp2
   refine Ak (v:=.tuple #[.agg #[.slice A1 sn c1,.slice A6 (cn+1) c6],.int .i64 0]) (by simp[results,results48,go_sem,f0,f1]) rfl ?_;refine⟨_,_,rfl,⟨?_,?_,?_,?_⟩,HB.o⟩
   ·exact(HD.o.s.below HB.o ν).more HB.o.size
   ·have h6:=(HO6.o.xCz (p:=(θ (w.heap.size+1+1) 0)) (.slice A1 sn c1) (HO6.o.far σ)).xCz (p:=(θ (w.heap.size+1+1) 1)) (.slice A6 (cn+1) c6) (HO6.o.far σ);exact yIh (h6.rd xCs)
   ·exact HD.o.ls
   ·show(d.cache++[x]).length<=_;simp[HLS.o.2];omega
end Go.Proofs.DS
namespace Mailsack
theorem xYa (d:Dk):(xY d).secs.length=d.secs.length/\(xY d).cache.length<=d.cache.length:=by
 unfold xY;split
 ·exact⟨xAv _ _ _ _,Bc _⟩
 ·exact⟨rfl,Bd _⟩
theorem xSd (d:Dk) (o:Op):(pO d o).secs.length=d.secs.length/\(pO d o).cache.length<=d.cache.length+1:=by
 unfold pO;split
 ·have:=xYa d;omega
 ·split
  ·simp[xZ9]
  ·simp
theorem yAz {l:List Op} {k:Nat} {o:Op} (h:l[k]?=some o) (d:Dk):vJ d (l.take (k+1))=pO (vJ d (l.take k)) o:=by
 unfold vJ;rw[Cc,h,Gc]
 rfl
theorem xPk (d:Dk):∀l:List Op,(vJ d l).secs.length=d.secs.length/\(vJ d l).cache.length<=d.cache.length+l.length
 |[]=>⟨rfl,Bd _⟩
 |o::l=>by
  have h1:=xSd d o;have h2:=xPk (pO d o) l;show(vJ (pO d o) l).secs.length=_/\(vJ (pO d o) l).cache.length<=_;simp only[Bl];omega
end Mailsack
namespace Go.Proofs.DS
open Go.RowKit Mailsack MM BB SH SV RK
abbrev opF (o:Mailsack.Op):List Value:=[.bool o.flush,.int .i64 o.w.at_,xR o.w.data]
theorem xAc (o:Mailsack.Op):(opF o).length=3:=rfl
theorem yKi (x:Mailsack.Op):∀u∈opF x,u.oneCell'=true:=by
 intro u hu;simp only[opF,De,Dp,Gn] at hu;rcases hu with rfl|rfl|rfl<;>rfl
theorem infoOp:(prog.info? 104).map (λi=>(i.zero,i.size,i.bytes))=some (some (.agg #[.bool false,.int .i64 0,.string ⟨#[]⟩]),3,32):=κ
theorem yFh:yEr prog 39 104 3 32 opF:=by
 obtain⟨i,hi,hz,hs,hb⟩:=jL infoOp;exact⟨underlying39,⟨i,_,hi,hz,hs,hb,rfl⟩,ω,ω,xAc,yKi⟩
theorem rd_at {α:Type} {k:Nat} {f:α->List Value} {w:World} {B:Nat} {A:Option Addr} {n c:Nat} {l:List α} (h:RdR k f w B (.slice A n c) l) {j:Nat} {x:α} (hx:l[j]?=some x):∃b off,A=some (θ b off)/\b<B/\∀(i:Nat) u,(f x)[i]?=some u->w.cell? ⟨b,off+j*k+i,none⟩=some u:=by
 obtain⟨A',c',e,_,h3⟩:=h;injection e with e1 e2 e3;subst e1 e2;obtain⟨b,off,h4,h5,h6⟩:=h3 (by have:=(Ar.1 hx).1;omega);exact⟨b,off,h4,h5,h6 j x hx⟩
def xU4 (W:World) (g:Nat):Prop:=∀(i:Nat) u,W.cell? (θ g i)=some u->(∀l,u≠xR l)/\∀z,u≠.int .i64 z
theorem wQ {W:World} {g:Nat} {A1 A2:Option Addr} {n1 n2 c1 c2:Nat} (h:W.heap[g]?=some (yI (.slice A1 n1 c1) (.slice A2 n2 c2))):xU4 W g:=by
 intro i u hu;rw[xA h i] at hu;rcases i with _|_|i
 ·simp at hu;subst hu;exact⟨λl e=>(by cases e),λz e=>(by cases e)⟩
 ·simp at hu;subst hu;exact⟨λl e=>(by cases e),λz e=>(by cases e)⟩
 ·simp at hu
theorem yK7 {W:World} {B:Nat} {v:Value} {xs:List Bs} (h:RdS W B v xs) {p:Addr} (hg:xU4 W p.block) (u:Value):RdS (W.setCell p u) B v xs:=by
 obtain⟨A,c,h1,h2,h3⟩:=h;refine⟨A,c,h1,h2,λhn=>?_⟩;obtain⟨b,off,h4,h5,h6⟩:=h3 hn;refine⟨b,off,h4,h5,λj x hx=>?_⟩;have h7:=h6 j x hx
 by_cases e:p.block=b
 ·subst e;exact absurd rfl ((hg _ _ h7).1 x)
 ·rw[<-h7];exact Et _ _ _ _ (by rintro rfl;exact e rfl)
theorem yK6 {W:World} {B:Nat} {v:Value} {xs:List Wr} (h:RdW W B v xs) {p:Addr} (hg:xU4 W p.block) (u:Value):RdW (W.setCell p u) B v xs:=by
 obtain⟨A,c,h1,h2,h3⟩:=h;refine⟨A,c,h1,h2,λhn=>?_⟩;obtain⟨b,off,h4,h5,h6⟩:=h3 hn;refine⟨b,off,h4,h5,λj x hx=>?_⟩;obtain⟨h7,h8⟩:=h6 j x hx
 by_cases e:p.block=b
 ·subst e;exact absurd rfl ((hg _ _ h7).2 _)
 ·exact⟨by rw[<-h7];exact Et _ _ _ _ (by rintro rfl;exact e rfl),by rw[<-h8];exact Et _ _ _ _ (by rintro rfl;exact e rfl)⟩
theorem RdD.far {W:World} {B:Nat} {va vb:Value} {D:Dk} (h:RdD W B va vb D) {p:Addr} (hg:xU4 W p.block) (u:Value):RdD (W.setCell p u) B va vb D:=⟨yK7 h.s hg u,yK6 h.c hg u,h.ls,h.lc⟩
structure RnM (w:World) (D:Dk) (va vb:Value) (W:World):Prop where
 d:W.heap[w.heap.size]?=some (yI va vb)
 o:W.heap[w.heap.size+1]?=some (yI (.slice none 0 0) (.slice none 0 0))
 rd:RdD W W.heap.size va vb D
 bel:ψ w W
theorem RnM.below {w W W':World} {va vb:Value} {D:Dk} (h:RnM w D va vb W) (hb:ψ W W'):RnM w D va vb W':=
 ⟨xC h.d hb (xH h.d),xC h.o hb (xH h.o),(h.rd.below hb ν).more hb.size,bT h.bel hb⟩
theorem yC {w:World} {B:Nat} {va vb:Value} {D:Dk} (h:RdD w B va vb D):∃A1 c1 A2 c2,va=.slice A1 D.secs.length c1/\vb=.slice A2 D.cache.length c2:=by
 obtain⟨A1,c1,e1,_⟩:=h.s;obtain⟨A2,c2,e2,_⟩:=h.c;exact⟨A1,c1,A2,c2,e1,e2⟩
theorem RnM.put {w W:World} {va vb ua ub:Value} {D D':Dk} (h:RnM w D va vb W) (hr:RdD W W.heap.size ua ub D'):RnM w D' ua ub ((W.setCell (θ w.heap.size 0) ua).setCell (θ w.heap.size 1) ub):=by
 have e1:=yD (yD h.d 0 ua) 1 ub;have e0:=yD h.d 0 ua;have e2:=yA (yA h.o (p:=θ w.heap.size 0) (by show w.heap.size+1≠w.heap.size;omega) ua) (p:=θ w.heap.size 1) (by show w.heap.size+1≠w.heap.size;omega) ub;obtain⟨A1,c1,A2,c2,rfl,rfl⟩:=yC h.rd
 obtain⟨A3,c3,A4,c4,rfl,rfl⟩:=yC hr;have n0:=wQ h.d
 have n1:xU4 (W.setCell (θ w.heap.size 0) (.slice A3 D'.secs.length c3)) w.heap.size:=by
  simp only[Ba,Bh] at e0;exact wQ e0
 refine⟨by simpa using e1,e2,?_,(h.bel.setCell (p:=θ w.heap.size 0) ν _).setCell (p:=θ w.heap.size 1) ν _⟩;have:=RdD.far (RdD.far hr (p:=θ w.heap.size 0) n0 (.slice A3 D'.secs.length c3)) (p:=θ w.heap.size 1) n1 (.slice A4 D'.cache.length c4)
 simpa[size_set] using this
theorem xSh (va vb lv:Value) (d:Dk) (l:List Mailsack.Op) (m:Int) (w:World) (h:RdD w w.heap.size va vb d) (hl:RdR 3 opF w w.heap.size lv l) (hc:d.cache.length+l.length<=100000):
  Calls prog 12 #[.agg #[va,vb],lv,.int .i64 m] w λe w'=>∃va' vb',e=.returned (.agg #[va',vb'])/\RdD w' w'.heap.size va' vb' (vJ d (l.take m.toNat))/\ψ w w':=by
 obtain⟨A1,c1,A2,c2,rfl,rfl⟩:=yC h;obtain⟨A3,c3,rfl,hc3,hl3⟩:=hl
 have H0:Hid (RnM w (vJ d (l.take 0)) (.slice A1 d.secs.length c1) (.slice A2 d.cache.length c2) ((w.alloc (yI (.slice A1 d.secs.length c1) (.slice A2 d.cache.length c2))).alloc (yI (.slice none 0 0) (.slice none 0 0)))):=ι (by
  have hb:=(φ w (yI (.slice A1 d.secs.length c1) (.slice A2 d.cache.length c2))).alloc σ (yI (.slice none 0 0) (.slice none 0 0));exact⟨zM _ _ _,zI _ _ _,(h.below hb ν).more hb.size,hb⟩)
 have HL:=ι hl3;have HC:=ι hc;have hlb:l.length<=100000:=ω;clear h hl3 hc3 hc;go_enter func12,ntmps12;go_wp2_with fail
 generalize (w.alloc (yI (.slice A1 d.secs.length c1) (.slice A2 d.cache.length c2))).alloc (yI (.slice none 0 0) (.slice none 0 0))=w1 at H0⊢
 go_loopw [13] (λiv wr=>∃(k:Nat) (ua ub:Value),k<=l.length/\iv=.int .i64 k/\Hid (k<=m.toNat)/\Hid (RnM w (vJ d (l.take k)) ua ub wr)) (λiv _=>l.length- (intOf iv).toNat)
 case atStart=>exact⟨0,_,_,Bc _,rfl,ι (Bc _),H0⟩
 case round=>
  obtain⟨k,ua,ub,hk,rfl,HK,HI⟩:=hrel;clear H0
  by_cases hlt:k<l.length
  ·obtain⟨x,hx⟩:∃x,l[k]?=some x:=⟨_,Af hlt⟩;obtain⟨b,off,rfl,hb,hcell⟩:=HL.o ω;have q:=λi u hu=>(HI.o.bel.cell (p:=(θ b (off+k*3+i))) hb).trans (hcell k x hx i u hu);have q0:wr.cell? (θ b (off+k*3))=some (.bool x.flush):=q 0 _ rfl
   have q1:wr.cell? (θ b (off+k*3+1))=some (.int .i64 x.w.at_):=q 1 _ rfl;have q2:wr.cell? (θ b (off+k*3+2))=some (xR x.w.data):=q 2 _ rfl;have HX:=ι (yAz hx d);have HZ:=ι (xPk d (l.take k))
   have HW:=ι (HI.o.below ((Aq _ wr).alloc ν (.cells #[.bool x.flush,.int .i64 x.w.at_,xR x.w.data] 104)));have hbw:=xJ wr (.cells #[.bool x.flush,.int .i64 x.w.at_,xR x.w.data] 104);obtain⟨x0,x1,x2⟩:=xAs hbw;clear hcell q hx hbw
   by_cases hm:m<=(k:Int)
   ·have HE:Hid (vJ d (l.take k)=vJ d (l.take m.toNat)):=ι (by rw[show k=m.toNat by have:=HK.o;omega]);clear HX HZ HK HI;go_upto_region 11 with fail
    have HI:=HW;clear HW q0 q1 q2 x0 x1 x2;generalize wr.alloc (.cells #[.bool x.flush,.int .i64 x.w.at_,xR x.w.data] 104)=wz at HI⊢;obtain⟨A4,c4,A5,c5,rfl,rfl⟩:=yC HI.o.rd
    have HR:Hid (RdD ((wz.setCell (θ (w.heap.size+1) 0) (.slice A4 (vJ d (l.take k)).secs.length c4)).setCell (θ (w.heap.size+1) 1) (.slice A5 (vJ d (l.take k)).cache.length c5)) wz.heap.size (.slice A4 (vJ d (l.take k)).secs.length c4) (.slice A5 (vJ d (l.take k)).cache.length c5) (vJ d (l.take k))):=ι (by
     have e0:=yD HI.o.o 0 (.slice A4 (vJ d (l.take k)).secs.length c4);simp only[Ba,Bh] at e0;exact RdD.far (RdD.far HI.o.rd (p:=(θ (w.heap.size+1) 0)) (wQ HI.o.o) _) (p:=(θ (w.heap.size+1) 1)) (wQ e0) _)
    generalize vJ d (l.take k)=D at HR HE HI⊢;obtain⟨d0,d1⟩:=uQ HI.o.d;obtain⟨o0,y0,f0,o1,y1,f1,HB⟩:=xMk HI.o.o HI.o.bel ω (.slice A4 D.secs.length c4) (.slice A5 D.cache.length c5) _ rfl;clear HI HL HC;go_wp2
    refine Ak (v:=.agg #[.slice A4 D.secs.length c4,.slice A5 D.cache.length c5]) (by simp[results,results12,go_sem,f0,f1]) rfl ?_;rw[<-HE.o];exact⟨_,_,rfl,by simpa[size_set] using HR.o,HB.o⟩
   ·have HK2:Hid (k+1<=m.toNat):=ι ω;clear HI HK;obtain⟨A4,c4,A5,c5,rfl,rfl⟩:=yC HW.o.rd;obtain⟨d0,d1⟩:=uQ HW.o.d;have y0:=xG HW.o.d 0;have y1:=xG HW.o.d 1;generalize vJ d (l.take k)=D at HX HZ HW d0 d1 y0 y1⊢;cases hf:x.flush with
    |true=>
     have HS:Hid (pO D x=xY D):=ι (by unfold pO;rw[hf,Ah rfl]);rw[hf] at HW d0 d1 q0 x0 x1 x2 y0 y1;clear hf;have HF:=ι (xG3 _ _ D _ HW.o.rd);go_wp2_with fail
     clear q0 q1 q2 x0 x1 x2 d0 d1 y0 y1;refine HF.o.mono ?_;rintro e w2 ⟨ua,ub,rfl,hr,_,hb⟩;obtain⟨A6,c6,A7,c7,rfl,rfl⟩:=yC hr;have h2:=HW.o.below hb;have HP:=ι (h2.put hr);obtain⟨d0,d1⟩:=uQ h2.d;have y0:=xG h2.d 0;have y1:=xG h2.d 1;clear hr hb h2 HF HW;go_wp2
     exact⟨⟨k+1,_,_,ω,by go_num,HK2,by rw[HX.o,HS.o];exact HP⟩,by simp[intOf];omega⟩
    |false=>
     rw[hf] at HW d0 d1 q0 x0 x1 x2 y0 y1;have HPT:=ι (xNd _ _ D x.w _ HW.o.rd (by have:=HZ.o;have:=HC.o;simp only[Ck] at *;omega));cases hp:(yP D&&wF x.w D.secs.length) with
     |true=>
      have HS:Hid (pO D x=xZ9 D x.w):=ι (by unfold pO;rw[hf,Ag σ,hp,Ah rfl]);rw[hp,Ah rfl,Ah rfl] at HPT;clear hf hp;go_wp2_with fail
      clear q0 q1 q2 x0 x1 x2 d0 d1 y0 y1;refine HPT.o.mono ?_;rintro e w2 ⟨ua,ub,rfl,hr,hb⟩;obtain⟨A6,c6,A7,c7,rfl,rfl⟩:=yC hr;have h2:=HW.o.below hb;have ha:=φ w2 (yI (.slice A6 (xZ9 D x.w).secs.length c6) (.slice A7 (xZ9 D x.w).cache.length c7));have h3:=h2.below ha
      have HP:=ι (h3.put ((hr.below ha ν).more ha.size));have hn:=xJ w2 (yI (.slice A6 (xZ9 D x.w).secs.length c6) (.slice A7 (xZ9 D x.w).cache.length c7));obtain⟨d0,d1⟩:=uQ h3.d;obtain⟨e0,e1⟩:=uQ hn;have y0:=xG h3.d 0;have y1:=xG h3.d 1;clear hr hb h2 HPT HW ha h3 hn;go_wp2
      exact⟨⟨k+1,_,_,ω,by go_num,HK2,by rw[HX.o,HS.o];exact HP⟩,by simp[intOf];omega⟩
     |false=>
      have HS:Hid (pO D x=D):=ι (by unfold pO;rw[hf,Ag σ,hp,Ag σ]);rw[hp,Ag σ,Ag σ] at HPT;clear hf hp;go_wp2_with fail
      clear q0 q1 q2 x0 x1 x2 d0 d1 y0 y1;refine HPT.o.mono ?_;rintro e w2 ⟨ua,ub,rfl,hr,hb⟩;obtain⟨A6,c6,A7,c7,rfl,rfl⟩:=yC hr;have h2:=HW.o.below hb;have HP:=ι (h2.below (φ w2 (yI (.slice A6 (⟨[],[]⟩:Dk).secs.length c6) (.slice A7 (⟨[],[]⟩:Dk).cache.length c7))))
      clear hr hb h2 HPT HW;go_wp2;exact⟨⟨k+1,_,_,ω,by go_num,HK2,by rw[HX.o,HS.o];exact HP⟩,by simp[intOf];omega⟩
  ·obtain rfl:k=l.length:=ω
   have HE:Hid (vJ d (l.take l.length)=vJ d (l.take m.toNat)):=ι (by
    have:=HK.o;rw[Cf,Ce this])
   clear HK;go_upto_region 11 with fail
   obtain⟨k,hk⟩:=eX l.length;rw[hk] at HI HE⊢;clear hk;obtain⟨wz,hwz⟩:∃wz,wz=wr:=⟨_,rfl⟩;rw[<-hwz] at HI⊢;clear hwz;obtain⟨A4,c4,A5,c5,rfl,rfl⟩:=yC HI.o.rd
   have HR:Hid (RdD ((wz.setCell (θ (w.heap.size+1) 0) (.slice A4 (vJ d (l.take k)).secs.length c4)).setCell (θ (w.heap.size+1) 1) (.slice A5 (vJ d (l.take k)).cache.length c5)) wz.heap.size (.slice A4 (vJ d (l.take k)).secs.length c4) (.slice A5 (vJ d (l.take k)).cache.length c5) (vJ d (l.take k))):=ι (by
    have e0:=yD HI.o.o 0 (.slice A4 (vJ d (l.take k)).secs.length c4);simp only[Ba,Bh] at e0;exact RdD.far (RdD.far HI.o.rd (p:=(θ (w.heap.size+1) 0)) (wQ HI.o.o) _) (p:=(θ (w.heap.size+1) 1)) (wQ e0) _)
   generalize vJ d (l.take k)=D at HR HE HI⊢;obtain⟨d0,d1⟩:=uQ HI.o.d;obtain⟨o0,y0,f0,o1,y1,f1,HB⟩:=xMk HI.o.o HI.o.bel ω (.slice A4 D.secs.length c4) (.slice A5 D.cache.length c5) _ rfl;clear HI HL HC;go_wp2
   refine Ak (v:=.agg #[.slice A4 D.secs.length c4,.slice A5 D.cache.length c5]) (by simp[results,results12,go_sem,f0,f1]) rfl ?_;rw[<-HE.o];exact⟨_,_,rfl,by simpa[size_set] using HR.o,HB.o⟩
end Go.Proofs.DS
namespace Go.Proofs.BU
open Go.RowKit MM
theorem kN:(prog.info? 98).map (·.size)=some 2:=κ
theorem yCt:(prog.info? 5).map (λi=>(i.zero,i.size,i.bytes))=some (some (.int .u8 0),1,1):=κ
theorem xL8 (b:Nat) (w:World) (h0:w.cell? (θ b 0)=some (.pointer (some (θ b 0)))):
  Calls prog 85 #[.pointer (some (θ b 0))] w λe w'=>e=.returned (.tuple #[])/\w'=w:=by
 obtain⟨j,hj,_⟩:=Df.1 kN;go_enter func85,ntmps85;go_wp2;rw[Lib.run_neq_ptr_same w _ underlying95 hj];go_wp2
 go_end0
 exact⟨rfl,rfl⟩
theorem xKe (b:Nat) (w:World) (h0:w.cell? (θ b 0)=some (.pointer none)) (hsh:w.shape? b=some (98,2)) (hfz:w.frozen? (θ b 0)=false):
  Calls prog 85 #[.pointer (some (θ b 0))] w λe w'=>e=.returned (.tuple #[])/\w'=w.setCell (θ b 0) (.pointer (some (θ b 0))):=by
 obtain⟨j,hj,hjs⟩:=Df.1 kN;go_enter func85,ntmps85;go_wp2;rw[Lib.run_to_unsafe w (θ b 0) underlying95 underlying204 hj (by rw[hjs];decide) hsh (Nat.zero_lt_succ 1)];simp only[Result.andThen];rw[Oper.upon_value];go_wp2
 rw[run_callFunc_extern func131 κ κ κ (e:=Extern.AbiNoEscape.same) κ];rw[Lib.run_noEscape];simp only[Result.andThen];rw[Oper.upon_value];go_wp2;rw[Lib.run_from_unsafe w (θ b 0) underlying204 underlying95 hj hsh κ];simp only[Result.andThen];rw[Oper.upon_value]
 go_wp2
 go_end0
 exact⟨rfl,rfl⟩
abbrev Bld (B b:Nat) (l:List UInt8) (w:World):Prop:=Lib.IsBuilder 98 5 B b (Lib.byteCells l) w
theorem yIr (n:Int):∀u∈[Value.int .u8 n],u.oneCell'=true:=by
 intro u hu;rw[Bu.1 hu];rfl
theorem yE8 (l:List UInt8):(Lib.byteCells l).length=l.length:=by simp[Lib.byteCells]
theorem xR8 (l k:List UInt8):Lib.byteCells (l++k)=Lib.byteCells l++Lib.byteCells k:=by simp[Lib.byteCells]
def ByT (b:Nat) (w w':World):Prop:=∀i o,w.heap[i]?=some o->i≠b->(∀cs fr,o≠.cells cs 5 fr)->w'.heap[i]?=some o
theorem xL9 (B b:Nat) (bs:List Value) (w:World) (h:Lib.IsBuilder 98 5 B b bs w):
  Calls prog 85 #[.pointer (some (θ b 0))] w λe w'=>e=.returned (.tuple #[])/\(Lib.BuilderAt 98 5 B b (.pointer (some (θ b 0))) bs w'/\Below B w w'/\∀i,i≠b->w'.heap[i]?=w.heap[i]?):=by
 rcases h with h|h
 ·refine(xKe b w h.cell0 h.shape h.frozen0).mono ?_;rintro e w' ⟨rfl,rfl⟩;exact⟨rfl,h.used _,(Aq B w).setCell (p:=θ b 0) h.1 _,λi hi=>Gs w (θ b 0) _ i hi⟩
 ·refine(xL8 b w h.cell0).mono ?_;rintro e w' ⟨rfl,rfl⟩;exact⟨rfl,h,Aq B _,λ_ _=>rfl⟩
theorem xCm (B b:Nat) (l:List UInt8) (s:ByteArray) (w:World) (h:Bld B b l w) (hl:l.length+s.size<=1000000000) (hB:B<=w.heap.size):
  Calls prog 37 #[.pointer (some (θ b 0)),.string s] w λe w'=>e=.returned (.tuple #[.int .i64 s.size,.nilIface])/\Bld B b (l++s.data.toList) w'/\Below B w w'/\ByT b w w':=by
 obtain⟨i0,hi,hz0,hz1,hz2⟩:=info_parts yCt;have Hl:=ι (yE8 l);go_enter func37,ntmps37;go_wp2_with fail
 refine(xL9 B b _ _ h).mono ?_;rintro e w1 ⟨rfl,⟨hBb,v,hbk,hown,hne⟩,hb1,hby⟩;have Hown:=ι hown;have Hne:=ι hne;have Hbk:=ι hbk;have Hby:=ι hby
 have k1:w1.cell? (θ b 1)=some v:=xA hbk 1;have hlt:=xH hbk;have HB1:=ι hb1;have hz:=hb1.size;clear hown hne hbk hb1 hby
 go_wp2_with (at_builtin;refine Lib.wpList_append_own_string _ rfl _ _ 96 9 rfl B 5 i0 underlying96 underlying9 hi hz0 hz1 hz2 _ _ _ rfl Hown.o s rfl ?c3 ?c4 ?c5 ?_)
 case c3=>have:=Hl.o;unfold maxLen;omega
 case c4=>have:=Hl.o;omega
 case c5=>omega
 intro v' w2 hown' hgrow _;have pk:=ι (rC Hbk.o hgrow (λe=>Hne.o e.symm));have k2:w2.cell? (θ b 1)=some v:=xA pk.o 1;have y2:w2.frozen? (θ b 1)=false:=xG pk.o 1
 obtain⟨ao,n',cap,rfl⟩:∃ao n' cap,v'=.slice ao n' cap:=by
  rcases hown'.2 with ⟨hv,_⟩|⟨g,cap,cur,hv,_⟩
  ·exact⟨_,_,_,hv⟩
  ·exact⟨_,_,_,hv⟩
 have Hown2:=ι hown';have Hgrow:=ι hgrow;clear hown' hgrow;go_wp2;go_ret2;refine⟨rfl,.inr ?_,?_,λi o ho hib hty=>?_⟩
 ·refine Lib.BuilderAt.put (T:=98) (e:=5) hBb pk.o (bs':=Lib.byteCells (l++s.data.toList)) ?_ δ;rw[xR8,Aj];have:=Hown2.o;simpa[Lib.strCells,Lib.byteCells,Lib.strCells_length] using this
 ·refine Below.setCell ?_ (p:=θ b 1) hBb _;exact HB1.o.grown Hgrow.o ω (λk hk=>(Di Hown.o k hk).1)
 ·have h1:w1.heap[i]?=some o:=(Hby.o i hib).trans ho;refine yA (rC h1 Hgrow.o (λe=>?_)) (p:=θ b 1) hib _;rcases Hown.o.2 with ⟨hv,_⟩|⟨g,cap,cur,hv,_,hg,_⟩
  ·rw[hv] at e;simp[Value.ownBlock] at e
  ·rw[hv] at e;have e':i=g:=by simpa[Value.ownBlock] using e
   subst e';rw[hg] at h1;injection h1 with h1;exact hty _ _ h1.symm
end Go.Proofs.BU
namespace Mailsack
theorem yEn {l:List Wr} {k:Nat} {x:Wr} (h:l[k]?=some x):jD (l.take (k+1))=jD (l.take k)++(wN x.at_++x.data):=by
 unfold jD;rw[Cc,h,Da,List.flatten_append];simp[xVw]
theorem xOu {n:Nat}:∀(l:List Wr),l.all (xF3 n)=true->(jD l).length=128*l.length
 |[],_=>rfl
 |x::l,h=>by
  rw[List.all_cons,Au] at h;have ih:=xOu l h.2
  have hx:x.data.length=64:=by
   have:=h.1;unfold xF3 at this;simp at this;exact this.2
  unfold jD at ih⊢;rw[Du,Fb,Aj,ih,Bl];simp[xVw,xKc,hx];omega
theorem yCm {l:List Wr} {k:Nat} {x:Wr} (h:l[k]?=some x):xA2 0 (l.take (k+1))=xA2 0 (l.take k)++[wOp (1+2*(k:Int)) (wN x.at_),wOp (2+2*(k:Int)) x.data]:=by
 have hk:=(Ar.1 h).1;rw[Cc,h];show xA2 0 (l.take k++[x])=_;rw[xQf,Ck,Ay,show min k l.length=k by omega]
theorem xJn {l:List Wr} {k:Nat} {x:Wr} (h:l[k]?=some x):(l.take (k+1)).map (λx=>(⟨false,x⟩:Op))=(l.take k).map (λx=>(⟨false,x⟩:Op))++[⟨false,x⟩]:=by
 rw[Cc,h,Da]
 rfl
end Mailsack
namespace Go.Proofs.DS
open Go.RowKit Mailsack MM BB SH SV RK BU
theorem xW.neT {α:Type} {e:TypeId} {k:Nat} {f:α->List Value} {w:World} {base:Nat} {v:Value} {l:List α} (h:xW e k f w base v l) {g:Nat} {cs:Array Value} {T:TypeId} {fr:Nat×Nat} (hb:w.heap[g]?=some (.cells cs T fr)) (hT:T≠e):v.ownBlock≠some g:=by
 rcases h.2 with ⟨h1,_⟩|⟨g',cap,cur,h1,_,h3,_⟩
 ·rw[h1];intro e;cases e
 ·rw[h1];intro e2;have:g'=g:=by simpa[Value.ownBlock] using e2
  subst this;rw[h3] at hb;injection hb with hb;injection hb with _ hb;exact hT hb.symm
theorem xW.own {α:Type} {e:TypeId} {k:Nat} {f:α->List Value} {w:World} {base:Nat} {v:Value} {l:List α} (h:xW e k f w base v l) {g:Nat} (hg:v.ownBlock=some g):∃cs,w.heap[g]?=some (.cells cs e (0,0)):=by
 rcases h.2 with ⟨h1,_⟩|⟨g',cap,cur,h1,_,h3,_⟩
 ·rw[h1] at hg;cases hg
 ·rw[h1] at hg;have:g'=g:=by simpa[Value.ownBlock] using hg
  subst this;exact⟨_,h3⟩
theorem xW.byT {α:Type} {e:TypeId} {k:Nat} {f:α->List Value} {w w':World} {base:Nat} {v:Value} {l:List α} (h:xW e k f w base v l) {b:Nat} {cs:Array Value} {fr:Nat×Nat} (ht:ByT b w w') (hb:w.heap[b]?=some (.cells cs 98 fr)) (h1:98≠e) (h2:e≠5):xW e k f w' base v l:=by
 have hne:=xW.neT h hb h1;refine⟨h.1,?_⟩;rcases h.2 with hn|⟨g,cap,cur,k1,k2,k3,k4⟩
 ·exact .inl hn
 ·refine .inr ⟨g,cap,cur,k1,k2,ht g _ k3 (λe=>hne (by rw[k1,e];rfl)) (λcs fr e2=>?_),k4⟩;injection e2 with _ e2;exact h2 e2
theorem byT_of {b:Nat} {w w':World} (h:Lib.OthersKept 5 (some b) w w'):ByT b w w':=λi o ho hi ht=>h i o ho (λe=>hi (by injection e)) ht
theorem Bld.blk {B b:Nat} {l:Bs} {w:World} (h:Bld B b l w):∃cs,w.heap[b]?=some (.cells cs 98 (0,0)):=by
 rcases h with ⟨_,v,h,_⟩|⟨_,v,h,_⟩
 ·exact⟨_,h⟩
 ·exact⟨_,h⟩
theorem Bld.keep {B b:Nat} {l:Bs} {w w':World} (h:Bld B b l w) (hk:∀g o,w.heap[g]?=some o->(g=b∨∃cs fr,o=.cells cs 5 fr)->w'.heap[g]?=some o):Bld B b l w':=by
 have key:∀p,Lib.BuilderAt 98 5 B b p (Lib.byteCells l) w->Lib.BuilderAt 98 5 B b p (Lib.byteCells l) w':=by
  rintro p ⟨h1,v,h2,h3,h4⟩;refine⟨h1,v,hk _ _ h2 (.inl rfl),⟨h3.1,?_⟩,h4⟩;rcases h3.2 with hn|⟨g,cap,cur,k1,k2,k3,k4⟩
  ·exact .inl hn
  ·exact .inr ⟨g,cap,cur,k1,k2,hk _ _ k3 (.inr ⟨_,_,rfl⟩),k4⟩
 rcases h with h|h
 ·exact .inl (key _ h)
 ·exact .inr (key _ h)
structure PlM (w:World) (b:Nat) (va vb:Value) (bs:Bs) (W:World):Prop where
 d:W.heap[w.heap.size]?=some (yI va vb)
 bl:Bld b b bs W
 lo:w.heap.size<b
 bel:ψ w W
section
variable {w W W':World} {b:Nat} {va vb:Value} {bs bs':Bs}
theorem PlM.below (h:PlM w b va vb bs W) (hb:ψ W W'):PlM w b va vb bs W':=
 ⟨xC h.d hb (xH h.d),Bld.keep h.bl λ_ _ ho _=>xC ho hb (xH ho),h.lo,bT h.bel hb⟩
theorem PlM.app (h:PlM w b va vb bs W) {v v':Value} {l l':List Mailsack.Op} (ho:xW 104 3 opF W (w.heap.size+1) v l) (ha:xA5 104 3 opF W W' (w.heap.size+1) v v' l'):PlM w b va vb bs W':=by
 obtain⟨cs,hbk⟩:=Bld.blk h.bl;refine⟨ha.keep h.d (ho.far ω),Bld.keep h.bl λg o hg hor=>ha.keep hg ?_,h.lo,ha.bel ho ω h.bel h.bel.size⟩;rcases hor with rfl|⟨cs2,fr,rfl⟩
 ·exact xW.neT ho hbk δ
 ·exact xW.neT ho hg δ
end
theorem PlM.write {w W W':World} {b:Nat} {va vb:Value} {bs bs':Bs} (h:PlM w b va vb bs W) (hl:Bld b b bs' W') (hb:Below b W W'):PlM w b va vb bs' W':=
 ⟨xC h.d hb h.lo,hl,h.lo,h.bel.trans (hb.mono (Gt h.lo))⟩
structure PlX (w:World) (b:Nat) (va vb:Value) (bs:Bs) (xb:Nat) (x:Wr) (ov:Value) (ops:List Mailsack.Op) (W:World):Prop where
 m:PlM w b va vb bs W
 x:W.heap[xb]?=some (.cells #[.int .i64 x.at_,xR x.data] 94 (0,0))
 o:xW 104 3 opF W (w.heap.size+1) ov ops
section
variable {w W W':World} {b xb:Nat} {va vb ov:Value} {bs bs':Bs} {x:Wr} {ops:List Mailsack.Op}
theorem PlX.below (h:PlX w b va vb bs xb x ov ops W) (hb:ψ W W'):PlX w b va vb bs xb x ov ops W':=⟨h.m.below hb,xC h.x hb (xH h.x),h.o.below hb⟩
theorem PlX.drew (h:PlX w b va vb bs xb x ov ops W):PlX w b va vb bs xb x ov ops W.drew:=h.below (Aq _ W).drew
theorem PlX.write (h:PlX w b va vb bs xb x ov ops W) (hl:Bld b b bs' W') (hb:Below b W W') (ht:ByT b W W'):PlX w b va vb bs' xb x ov ops W':=by
 obtain⟨cs,hbk⟩:=Bld.blk h.m.bl;refine⟨h.m.write hl hb,ht xb _ h.x (λe=>?_) (λcs fr e=>?_),xW.byT h.o ht hbk δ δ⟩
 ·subst e;have:=h.x;rw[hbk] at this;injection this with this;injection this with _ this;exact absurd this δ
 ·injection e with _ e;exact absurd e δ
end
theorem rU {P:Program} {w w':World} {ops:Array Oper} {rest:List Oper} {o:Oper} {a:Act} {Q:Exit->Act->World->Prop} {t:TypeId} {v vx v':Value} (hgd:o.guard=none) (s x:Operand)
  (ho:o.op=.call {callee:=.builtin .append,args:=#[s,x],argTypes:=#[t,t]}) (hs:a.eval s=v) (hx:a.eval x=vx)
  (hr:(Builtin.append_ #[t,t] o.type #[v,vx]).run P w=.ok v' w')
  (h:wpList P ops Q rest (a.put o.dst v') w'):wpList P ops Q (o::rest) a w:=by
 refine Hr hgd λK hK=>?_;unfold Oper.wp;simp[execOp,ho,resolve,invoke,builtin,hs,hx,hr,Result.andThen];exact hK _ _ h
theorem xLx {d:Dk} {l:List Wr} (h:qO d=false∨l.length=0):vZ d l=1:=by unfold vZ;rw[Ah h]
end Go.Proofs.DS
namespace Go.Proofs.DS
open Go.RowKit Mailsack MM BB SH SV RK BU
theorem yJf {w:World} {B:Nat} {A:Option Addr} {n c:Nat} {l:List Wr} (h:RdW w B (.slice A n c) l) {j:Nat} {x:Wr} (hx:l[j]?=some x):∃b off,A=some (θ b off)/\b<B/\w.cell? (θ b (off+j*2))=some (.int .i64 x.at_)/\w.cell? (θ b (off+j*2+1))=some (xR x.data):=by
 obtain⟨A',c',e,_,h3⟩:=h;injection e with e1 e2 e3;subst e1 e2;obtain⟨b,off,h4,h5,h6⟩:=h3 (by have:=(Ar.1 hx).1;omega);exact⟨b,off,h4,h5,(h6 j x hx).1,(h6 j x hx).2⟩
theorem RdR.xJj {α:Type} {k:Nat} {f:α->List Value} (w:World) (B:Nat):RdR k f w B (.slice none 0 0) ([]:List α):=⟨none,0,rfl,Bd _,λh=>by simp at h⟩
theorem yBh (va vb lv:Value) (d:Dk) (l:List Wr) (w:World) (h:RdD w w.heap.size va vb d) (hl:RdW w w.heap.size lv l) (hs:qO d=false∨l.length=0):
  Calls prog 9 #[.agg #[va,vb],lv] w (pv (.tuple #[.slice none 0 0,.int .i64 1]) w):=by
 obtain⟨A1,c1,A2,c2,rfl,rfl⟩:=yC h;obtain⟨A3,c3,rfl,_,_⟩:=hl;have HA:=ι (φ w (yI (.slice A1 d.secs.length c1) (.slice A2 d.cache.length c2)));have HS:=ι (xIv _ _ d _ ((h.below HA.o ν).more HA.o.size));rw[show(decide (61<d.secs.length)&&yP d)=qO d from rfl] at HS
 cases hsu:qO d with
 |false=>
  rw[hsu] at HS;clear hs hsu h;go_enter func9,ntmps9;go_wp2_with fail
  refine HS.o.mono ?_;rintro e w1 ⟨rfl,hb⟩;have HB:=ι (bT HA.o hb);clear hb HS HA;go_wp2;go_ret2;exact⟨rfl,HB.o⟩
 |true=>
  rw[hsu] at HS;have h0:l.length=0:=hs.resolve_left (by rw[hsu];simp);rw[h0];clear hs hsu h h0;go_enter func9,ntmps9;go_wp2_with fail
  refine HS.o.mono ?_;rintro e w1 ⟨rfl,hb⟩;have HB:=ι (bT HA.o hb);clear hb HS HA;go_wp2;go_ret2;exact⟨rfl,HB.o⟩
theorem yG7 (va vb lv:Value) (d:Dk) (l:List Wr) (w:World) (h:RdD w w.heap.size va vb d) (hl:RdW w w.heap.size lv l) (hll:l.length<=100000) (hs:qO d=true) (h0:l.length≠0) (hT:jE w):
  Calls prog 9 #[.agg #[va,vb],lv] w λe w'=>∃ov,e=.returned (.tuple #[ov,.int .i64 (vZ d l)])/\RdR 3 opF w' w'.heap.size ov (if vZ d l=0 then zU l else[])/\ψ w w':=by
 obtain⟨A1,c1,A2,c2,rfl,rfl⟩:=yC h;have HWR:=ι hl;obtain⟨A3,c3,rfl,_,_⟩:=hl;have HA:=ι (φ w (yI (.slice A1 d.secs.length c1) (.slice A2 d.cache.length c2)));have HD0:=ι (xJ w (yI (.slice A1 d.secs.length c1) (.slice A2 d.cache.length c2)))
 have HS:=ι (xIv _ _ d _ ((h.below HA.o ν).more HA.o.size));rw[show(decide (61<d.secs.length)&&yP d)=qO d from rfl,hs] at HS;have HPE:Hid (vZ d l=if l.all (xF3 d.secs.length)=false then 1 else if 30<l.length then 4 else 0):=ι (by unfold vZ;rw[Ag (by rw[hs];simp[h0])])
 have HTT:=ι hT;obtain⟨pe,hpe⟩:=eX (vZ d l);obtain⟨pl,hpl⟩:=eX (if vZ d l=0 then zU l else[]);rw[hpl,hpe];have HV:=ι (Ai hpe hpl);clear hs h hT hpe hpl;have h0i:¬((l.length:Int)=0):=ω;have h0b:((l.length:Int)==0)=false:=by simpa using h0i
 go_enter func9,ntmps9;go_wp2_with fail
 refine HS.o.mono ?_;rintro e w1 ⟨rfl,hb⟩;have HB:=ι (Ai (bT HA.o hb) (xC HD0.o hb (xH HD0.o)));clear hb HS HA HD0;go_wp2_with fail
 clear h0i h0b
 -- the first loop:each write goes
 go_loopw [25] (λiv wr=>∃k:Nat,k<=l.length/\iv=.int .i64 k/\Hid (ψ w wr/\wr.heap[w.heap.size]?=some (yI (.slice A1 d.secs.length c1) (.slice A2 d.cache.length c2)))/\Hid (∀r∈l.take k,xF3 d.secs.length r=true)) (λiv _=>l.length- (intOf iv).toNat)
 case atStart=>exact⟨0,Bc _,rfl,HB,ι σ⟩
 case round=>
  obtain⟨k,hk,rfl,HI,hok⟩:=hrel;clear HB
  by_cases hlt:k<l.length
  ·obtain⟨x,hx⟩:∃x,l[k]?=some x:=⟨_,Af hlt⟩;obtain⟨b,off,rfl,hbw,q0,q1⟩:=yJf HWR.o hx;have q0:=(HI.o.1.cell (p:=(θ b (off+k*2))) hbw).trans q0;have q1:=(HI.o.1.cell (p:=(θ b (off+k*2+1))) hbw).trans q1;have HX:=ι hx
   have HF:Hid (xF3 d.secs.length x=(decide (61<=x.at_)&&decide (x.at_<d.secs.length)&&decide (x.data.length=64))):=ι rfl;have HAL:=ι (Ai (HI.o.1.alloc HI.o.1.size (.cells #[.int .i64 x.at_,xR x.data] 94)) (xN HI.o.2 (.cells #[.int .i64 x.at_,xR x.data] 94)))
   have hbn:=xJ wr (.cells #[.int .i64 x.at_,xR x.data] 94);have hbd:=HAL.o.2;obtain⟨x0,x1⟩:=uQ hbn;obtain⟨d0,d1⟩:=uQ hbd;obtain⟨xa,xd⟩:=x;obtain⟨sb,hsb⟩:=eX (⟨xd.toArray⟩:ByteArray);have hsz:sb.size=xd.length:=by rw[<-hsb];rfl
   simp only at q0 q1 HF HAL x0 x1 d0 d1;simp only[xR] at q0 q1 HAL x0 x1 d0 d1;rw[hsb] at q1 HAL x1 d0 d1 x0;clear hx hbn hbd HI hsb
   by_cases g1:xa<61
   ·have HR:Hid (vZ d l=1):=ι (by rw[HPE.o,Ah (all_false HX.o (by rw[HF.o];simp;omega))]);clear HPE HF HWR;go_wp2;go_ret2;exact⟨_,by rw[<-HV.o.1,HR.o];rfl,by rw[<-HV.o.2,HR.o,Ag ω];exact RdR.xJj _ _,HAL.o.1⟩
   ·by_cases g2:(d.secs.length:Int)<=xa
    ·have HR:Hid (vZ d l=1):=ι (by rw[HPE.o,Ah (all_false HX.o (by rw[HF.o];simp;omega))]);clear HPE HF HWR;go_wp2;go_ret2;exact⟨_,by rw[<-HV.o.1,HR.o];rfl,by rw[<-HV.o.2,HR.o,Ag ω];exact RdR.xJj _ _,HAL.o.1⟩
    ·by_cases g3:sb.size=64
     ·have g3i:(sb.size:Int)=64:=ω;have g3b:((sb.size:Int)!=64)=false:=by simp[g3i]
      have HO:=ι (xOt HX.o (by rw[HF.o];simp;omega) hok.o);clear HF HX hok HPE;go_wp2;exact⟨⟨k+1,ω,by go_num,HAL,HO⟩,by simp[intOf];omega⟩
     ·have g3i:¬((sb.size:Int)=64):=ω;have g3b:((sb.size:Int)!=64)=true:=by simp[g3i]
      have HR:Hid (vZ d l=1):=ι (by rw[HPE.o,Ah (all_false HX.o (by rw[HF.o];simp;omega))]);clear HPE HF HWR;go_wp2;go_ret2;exact⟨_,by rw[<-HV.o.1,HR.o];rfl,by rw[<-HV.o.2,HR.o,Ag ω];exact RdR.xJj _ _,HAL.o.1⟩
  ·obtain rfl:k=l.length:=ω;have HAL:=ι (all_true hok.o);have HLN:=ι (xOu l HAL.o);rw[HAL.o,Ag σ] at HPE;clear hok hlt
   by_cases h30:30<l.length
   ·have HR:Hid (vZ d l=4):=ι (by rw[HPE.o,Ah h30]);have yLk:30<(l.length:Int):=ω;clear HPE HWR;go_wp2;go_ret2;exact⟨_,by rw[<-HV.o.1,HR.o];rfl,by rw[<-HV.o.2,HR.o,Ag ω];exact RdR.xJj _ _,HI.o.1⟩
   ·have HR:Hid (vZ d l=0):=ι (by rw[HPE.o,Ag h30]);have yLk:¬(30<(l.length:Int)):=ω;rw[HR.o,Ah rfl] at HV;clear HPE HR;obtain⟨z,hzz,hmk⟩:=yKy yFh wr (3*l.length+6) ω;rw[show((3*l.length+6:Nat):Int)=3*(l.length:Int)+6 by omega] at hmk;have hzs:=xH HI.o.2
    have HO2:Hid (xW 104 3 opF ((wr.alloc (.cells z 104)).alloc (.cells #[.pointer none,.slice none 0 0] 98)) (w.heap.size+1) (.slice (some (θ wr.heap.size 0)) 0 (3*l.length+6)) (xA2 0 (l.take 0))/\
      PlM w (wr.heap.size+1) (.slice A1 d.secs.length c1) (.slice A2 d.cache.length c2) (jD (l.take 0)) ((wr.alloc (.cells z 104)).alloc (.cells #[.pointer none,.slice none 0 0] 98))):=ι (by
     refine⟨(xW.room z wr _ ω ω hzz).alloc _,xN (xN HI.o.2 _) _,?_,ω,(HI.o.1.alloc HI.o.1.size _).alloc (by simp;omega) _⟩;have:=Lib.fresh_isBuilder 98 5 (wr.alloc (.cells z 104));rw[wY] at this;exact this)
    go_upto_region 13 with fail
    clear hmk hzz HI;obtain⟨bb,hbb⟩:=eX (wr.heap.size+1);rw[hbb] at HO2⊢;generalize Value.slice (some (θ wr.heap.size 0)) 0 (3*l.length+6)=ov at HO2⊢;generalize (wr.alloc (.cells z 104)).alloc (.cells #[.pointer none,.slice none 0 0] 98)=w2 at HO2⊢;clear hbb hzs
    go_wp2_with fail
    go_loopw [8,57] (λov iv wr=>∃k:Nat,k<=l.length/\iv=.int .i64 k/\Hid (xW 104 3 opF wr (w.heap.size+1) ov (xA2 0 (l.take k))/\PlM w bb (.slice A1 d.secs.length c1) (.slice A2 d.cache.length c2) (jD (l.take k)) wr)) (λ_ iv _=>l.length- (intOf iv).toNat)
    case atStart=>exact⟨0,Bc _,rfl,HO2⟩
    case round=>
     obtain⟨k,hk,rfl,HI⟩:=hrel;clear HO2
     by_cases hlt:k<l.length
     ·obtain⟨x,hx⟩:∃x,l[k]?=some x:=⟨_,Af hlt⟩;obtain⟨b,off,rfl,hbw,q0,q1⟩:=yJf HWR.o hx;have q0:=(HI.o.2.bel.cell (p:=(θ b (off+k*2))) hbw).trans q0;have q1:=(HI.o.2.bel.cell (p:=(θ b (off+k*2+1))) hbw).trans q1
      have HSN:=ι (Ai (yEn hx) (yCm hx))
      have HG:Hid (x.data.length=64/\(jD (l.take k)).length<=100000/\(xA2 0 (l.take k)).length<=100000):=ι (by
       have g1:=Bv.1 HAL.o x (Bb hx);have g2:=xOu (l.take k) (Bv.2 λy hy=>Bv.1 HAL.o y (Dc hy));have g3:=Ei k l;unfold xF3 at g1;simp at g1;exact⟨g1.2,ω,by rw[xId];omega⟩)
      have HX2:Hid (PlX w bb (.slice A1 d.secs.length c1) (.slice A2 d.cache.length c2) (jD (l.take k)) wr.heap.size x u8 (xA2 0 (l.take k)) (wr.alloc (.cells #[.int .i64 x.at_,xR x.data] 94))):=ι ⟨HI.o.2.below ((Aq _ _).alloc ν _),xJ _ _,HI.o.1.alloc _⟩
      generalize jD (l.take k)=bs at HX2 HSN HG;generalize xA2 0 (l.take k)=ops at HX2 HSN HG;obtain⟨xa,xd⟩:=x;simp only at q0 q1 HX2 HSN HG;clear hx HI;go_upto_region 16 with fail
      clear q0 q1;generalize wr.alloc (.cells #[.int .i64 xa,xR xd] 94)=w3 at HX2⊢;generalize wr.heap.size=xb at HX2⊢;obtain⟨x0,x1⟩:=uQ HX2.o.x;have HDS:=ι (xW5 xa w3);have HDL:=ι (xKc xa);generalize wN xa=ds at HDS HDL HSN;go_wp2_with fail
      refine HDS.o.mono ?_;rintro e w4 ⟨rfl,hb4⟩;have HX4:=ι (HX2.o.below hb4);clear HX2 hb4 x0 x1 HDS
      have HWS:=ι (xCm bb bb bs ⟨ds.toArray⟩ w4 HX4.o.m.bl (by have:=HG.o.2.1;have:=HDL.o;show bs.length+ds.toArray.size<=_;simp;omega) (Gt (by obtain⟨cs,h⟩:=Bld.blk HX4.o.m.bl;exact xH h)));go_wp2_with fail
      refine HWS.o.mono ?_;rintro e w5 ⟨rfl,hl5,hb5,ht5⟩;have HX5:=ι (HX4.o.write hl5 hb5 ht5);rw[show bs++(⟨ds.toArray⟩:ByteArray).data.toList=bs++ds from rfl] at HX5;clear HX4 hl5 hb5 ht5 HWS;obtain⟨x0,x1⟩:=uQ HX5.o.x
      have HWS:=ι (xCm bb bb (bs++ds) ⟨xd.toArray⟩ w5 HX5.o.m.bl (by have:=HG.o.2.1;have:=HDL.o;have:=HG.o.1;show(bs++ds).length+xd.toArray.size<=_;simp;omega) (Gt (by obtain⟨cs,h⟩:=Bld.blk HX5.o.m.bl;exact xH h)));go_wp2_with fail
      refine HWS.o.mono ?_;rintro e w6 ⟨rfl,hl6,hb6,ht6⟩;have HX6:=ι (HX5.o.write hl6 hb6 ht6);rw[show bs++ds++(⟨xd.toArray⟩:ByteArray).data.toList=bs++(ds++xd) from by rw[<-Cy]] at HX6;rw[<-HSN.o.1] at HX6;clear HX5 hl6 hb6 ht6 HWS x0 x1
      go_upto_region 19 with fail
      have HW1:=ι (λW=>xBn (1+2*(k:Int)) ⟨ds.toArray⟩ W);have HW2:=ι (λW=>xBn (2+2*(k:Int)) ⟨xd.toArray⟩ W);have HJL:Hid (ops.length<=100000):=ι HG.o.2.2;obtain⟨BS,hBS⟩:=eX (jD (l.take (k+1)));rw[hBS] at HX6 HSN;have b1:(k:Int)<=100000:=ω
      refine RG.vE [14] [12,13] (λL α W=>Hid (PlM w bb (.slice A1 d.secs.length c1) (.slice A2 d.cache.length c2) BS W/\W.heap[xb]?=some (.cells #[.int .i64 xa,xR xd] 94 (0,0))/\
       (L 12=true->L 13=false->RdR 3 opF W W.heap.size (α 12) [wOp (1+2*(k:Int)) ds,wOp (2+2*(k:Int)) xd])/\(L 13=false->xW 104 3 opF W (w.heap.size+1) u8 ops)/\
       (L 13=true->xW 104 3 opF W (w.heap.size+1) (α 13) (ops++[wOp (1+2*(k:Int)) ds,wOp (2+2*(k:Int)) xd]))))
       (λL L' α α' W hl ha h=>ι ⟨h.o.1,h.o.2.1,λe12 e13=>by
        have f12:L 12=true:=by rw[hl 12 σ];exact e12
        rw[<-ha 12 σ f12];exact h.o.2.2.1 f12 (by rw[hl 13 σ];exact e13),λe13=>h.o.2.2.2.1 (by rw[hl 13 σ];exact e13),λe13=>by
        have f13:L 13=true:=by rw[hl 13 σ];exact e13
        rw[<-ha 13 σ f13];exact h.o.2.2.2.2 f13⟩) κ κ κ (ι ⟨HX6.o.drew.m,HX6.o.drew.x,λe=>(by cases e),λ_=>HX6.o.drew.o,λe=>(by cases e)⟩) ?_
      iterate 5 refine RG.vS ?_
      apply RG.zR
      ·rfl
      ·rfl
      ·intro α L w9 h0 hcl xQ hw9;repeat go_step
       refine(HW1.o _).mono ?_;rintro e w10 ⟨rfl,zO⟩;simp only[];repeat go_step
       refine RG.xE ?_;exact ι ⟨hw9.o.1.below zO,xC hw9.o.2.1 zO (xH hw9.o.2.1),λe f=>((hw9.o.2.2.1 e f).below zO ν).more zO.size,λe=>(hw9.o.2.2.2.1 e).below zO,λe=>(hw9.o.2.2.2.2 e).below zO⟩
      ·intro α;rfl
      iterate 5 refine RG.vF (λα L w9 h0 hcl xQ hw9=>uQ hw9.o.2.1) ?_
      apply RG.zR
      ·rfl
      ·rfl
      ·intro α L w9 h0 hcl xQ hw9;repeat go_step
       refine(HW2.o _).mono ?_;rintro e w10 ⟨rfl,zO⟩;simp only[];repeat go_step
       refine RG.xE ?_;exact ι ⟨hw9.o.1.below zO,xC hw9.o.2.1 zO (xH hw9.o.2.1),λe f=>((hw9.o.2.2.1 e f).below zO ν).more zO.size,λe=>(hw9.o.2.2.2.1 e).below zO,λe=>(hw9.o.2.2.2.2 e).below zO⟩
      ·intro α;rfl
      apply RG.qP
      ·rfl
      ·intro α L w9 h0 hcl xQ hw9;have h13:L 13=false:=hcl.not 8 (i:=13) h0 κ;refine⟨.slice (some (θ w9.heap.size 0)) 2 2,λbv hbv=>?_⟩;repeat go_step
       rw[<-hbv];refine RG.xE ?_
       exact ι ⟨hw9.o.1.below ((Aq _ _).alloc ν _),xN hw9.o.2.1 _,λ_ _=>by
        rw[show RG.xLu α (0+1+1+1+1+1+1+1+1+1+1+1+1) bv 12=bv from RG.zL _ _ _,hbv,wY];exact RdR.lit (m:=[wOp (1+2*(k:Int)) ds,wOp (2+2*(k:Int)) xd]) xAc w9 _ rfl,λ_=>(hw9.o.2.2.2.1 h13).alloc _,λe=>by
        have:L 13=true:=by simpa using e
        rw[h13] at this;cases this⟩
      ·intro b α;rfl
      apply RG.qP
      ·rfl
      ·intro α L w9 h0 hcl xQ hw9
       have h12:L 12=true:=by
        have:=xQ.yes 8 (i:=13) (j:=12) σ κ;simpa using this
       obtain⟨v',w',hr,ha⟩:=xFn (P:=prog) yFh 39 (hw9.o.2.2.2.1 h0) (hw9.o.2.2.1 h12 h0) (by have:=HJL.o;simp;omega) (by have:=hw9.o.1.bel.size;have:=xH hw9.o.1.d;omega);refine⟨v',λbv hbv=>?_⟩;refine rU rfl _ _ rfl rfl rfl hr ?_;rw[<-hbv];repeat go_step
       refine RG.xE ?_
       exact ι ⟨hw9.o.1.app (hw9.o.2.2.2.1 h0) ha,ha.keep hw9.o.2.1 (xW.neT (hw9.o.2.2.2.1 h0) hw9.o.2.1 δ),λ_ f=>by simp at f,λf=>by simp at f,λ_=>by
        rw[show RG.xLu α (0+1+1+1+1+1+1+1+1+1+1+1+1+1) bv 13=bv from RG.zL _ _ _,hbv];exact ha.own⟩
      ·intro b α;rfl
      apply RG.xDv
      ·rfl
      ·kernel_rfl
      ·rfl
      ·intro α L w9 h0 hcl xQ hw9;repeat go_step
       refine RG.xE ?_;exact ι ⟨hw9.o.1,hw9.o.2.1,λe f=>hw9.o.2.2.1 (by simpa using e) (by simpa using f),λe=>hw9.o.2.2.2.1 (by simpa using e),λe=>hw9.o.2.2.2.2 (by simpa using e)⟩
      ·intro α;rfl
      refine RG.xA6 (λα w9 hw9=>?_);have H9:Hid (xW 104 3 opF w9 (w.heap.size+1) (α 13) (xA2 0 (l.take (k+1)))/\PlM w bb (.slice A1 d.secs.length c1) (.slice A2 d.cache.length c2) (jD (l.take (k+1))) w9):=ι ⟨by rw[HSN.o.2];exact hw9.o.2.2.2.2 rfl,by rw[hBS];exact hw9.o.1⟩
      clear HX6 HW1 HW2 HJL HSN HG HDL hw9 hBS;go_wp2;exact⟨⟨k+1,ω,by go_num,H9⟩,by simp[intOf];omega⟩
     ·obtain rfl:k=l.length:=ω;rw[Cf] at HI;clear hlt;have HWF:=ι (λW=>xDw W);go_upto_region 21 with fail
      go_wp2_with fail
      refine cM (HWF.o _) λw3 hb3=>?_;have HI3:=ι (Ai (HI.o.1.below hb3) (HI.o.2.below hb3));clear hb3 HI;have HST:=ι (Tryz.Builder_String_k bb bb (jD l) w3 (Lib.IsBuilderF.of HI3.o.2.bl) (by intro e;have:=HLN.o;rw[e] at this;simp at this;omega))
      go_wp2_with fail
      refine HST.o.mono ?_;rintro e w4 ⟨rfl,_,hb4,ho4⟩
      have HI4:Hid (xW 104 3 opF w4 (w.heap.size+1) u8 (xA2 0 l)/\ψ w w4):=ι (by
       obtain⟨cs,hbk⟩:=Bld.blk HI3.o.2.bl;exact⟨xW.byT HI3.o.1 (byT_of ho4) hbk δ δ,HI3.o.2.bel.trans (hb4.mono (Gt HI3.o.2.lo))⟩)
      clear HST hb4 ho4 HI3;have HHD:=ι (xMc l.length ⟨(jD l).toArray⟩ w4 ω (by have:=HLN.o;show(jD l).toArray.size<=_;simp;omega) (HTT.o.below HI4.o.2 ν));rw[show(⟨(jD l).toArray⟩:ByteArray).data.toList=jD l from rfl] at HHD;obtain⟨hd,hhd⟩:=eX (wE l.length (jD l))
      rw[hhd] at HHD;have HHE:=ι hhd;clear hhd;have HJL:Hid ((xA2 0 l).length<=1000):=ι (by rw[xId];omega);have yEv:=ι (λW=>xBn 0 ⟨hd.toArray⟩ W);go_wp2_with fail
      refine cM HHD.o λw5 hb=>?_;have HI5:=ι (Ai (HI4.o.1.below hb) (bT HI4.o.2 hb));clear hb HI4 HHD;go_wp2_with fail
      refine cM (yEv.o _) λw6 hb=>?_;have HI6:=ι (Ai (HI5.o.1.below hb) (bT HI5.o.2 hb));clear hb HI5 yEv;go_wp2_with fail
      refine cM (HWF.o _) λw7 hb=>?_;have HI7:=ι (Ai (HI6.o.1.below hb) (bT HI6.o.2 hb));clear hb HI6 
      go_upto_region 22 with (at_builtin;refine uG yFh rfl _ _ rfl rfl rfl (HI7.o.1.alloc _) (RdR.lit (m:=[fOp,wOp 0 hd,fOp]) xAc _ _ rfl) (by have:=HJL.o;simp;omega) (by have:=HI7.o.2.size;simp;omega) ?_;intro v8 w8 h8;have HA8:Hid (xA5 104 3 opF (w7.alloc (.cells #[.bool true,.int .i64 0,.string ⟨#[]⟩,.bool false,.int .i64 0,.string ⟨hd.toArray⟩,.bool true,.int .i64 0,.string ⟨#[]⟩] 104)) w8 (w.heap.size+1) u8 v8 (xA2 0 l++[fOp,wOp 0 hd,fOp])):=ι h8;clear h8)
      have HI8:Hid (xW 104 3 opF w8 (w.heap.size+1) v8 (xA2 0 l++[fOp,wOp 0 hd,fOp]++(l.take 0).map (λx=>(⟨false,x⟩:Mailsack.Op)))/\ψ w w8):=ι ⟨by simpa using HA8.o.own,HA8.o.bel (HI7.o.1.alloc _) ω (HI7.o.2.alloc HI7.o.2.size _) (by have:=HI7.o.2.size;simp;omega)⟩
      have HPL:Hid ((xA2 0 l++[fOp,wOp 0 hd,fOp]).length<=1010):=ι (by have:=HJL.o;simp;omega);have HPE2:Hid (zU l=xA2 0 l++[fOp,wOp 0 hd,fOp]++l.map (λx=>(⟨false,x⟩:Mailsack.Op))++[fOp,wOp 0 (xO 64),fOp]):=ι (by unfold zU;rw[HHE.o])
      generalize xA2 0 l++[fOp,wOp 0 hd,fOp]=P0 at HI8 HPL HPE2;clear HA8 HI7 HJL HHE;go_wp2_with fail
      go_loopw [8,97] (λov iv wr=>∃k:Nat,k<=l.length/\iv=.int .i64 k/\Hid (xW 104 3 opF wr (w.heap.size+1) ov (P0++(l.take k).map (λx=>(⟨false,x⟩:Mailsack.Op)))/\ψ w wr)) (λ_ iv _=>l.length- (intOf iv).toNat)
      case atStart=>exact⟨0,Bc _,rfl,HI8⟩
      case round=>
       obtain⟨k,hk,rfl,HI⟩:=hrel;clear HI8
       by_cases hlt:k<l.length
       ·obtain⟨x,hx⟩:∃x,l[k]?=some x:=⟨_,Af hlt⟩;obtain⟨b,off,rfl,hbw,q0,q1⟩:=yJf HWR.o hx;have q0:=(HI.o.2.cell (p:=(θ b (off+k*2))) hbw).trans q0;have q1:=(HI.o.2.cell (p:=(θ b (off+k*2+1))) hbw).trans q1;have HSN:=ι (xJn hx)
        have HKL:Hid (((l.take k).map (λx=>(⟨false,x⟩:Mailsack.Op))).length<=1000):=ι (by have:=Ei k l;rw[Bw];omega);generalize (l.take k).map (λx=>(⟨false,x⟩:Mailsack.Op))=P1 at HI HSN HKL
        have HXA:=ι (Ai (HI.o.1.alloc (.cells #[.int .i64 x.at_,xR x.data] 94)) (HI.o.2.alloc HI.o.2.size (.cells #[.int .i64 x.at_,xR x.data] 94)));have hxb:=xJ wr (.cells #[.int .i64 x.at_,xR x.data] 94);obtain⟨x0,x1⟩:=uQ hxb;clear hx hxb HI
        go_upto_region 25 with fail
        clear q0 q1;generalize wr.alloc (.cells #[.int .i64 x.at_,xR x.data] 94)=w3 at HXA x0 x1⊢
        have HAD:∀v8 w8,xA5 104 3 opF (w3.alloc (.cells #[.bool false,.int .i64 x.at_,xR x.data] 104)) w8 (w.heap.size+1) u8 v8 (P0++P1++[⟨false,x⟩])->Hid (xW 104 3 opF w8 (w.heap.size+1) v8 (P0++(l.take (k+1)).map (λx=>(⟨false,x⟩:Mailsack.Op)))/\ψ w w8):=λv8 w8 h8=>ι ⟨by rw[HSN.o,<-Cy];exact h8.own,h8.bel (HXA.o.1.alloc _) ω (HXA.o.2.alloc HXA.o.2.size _) (by have:=HXA.o.2.size;simp;omega)⟩
        have HAH:=ι HAD;clear HAD
        go_wp2_with (at_builtin;refine uG yFh rfl _ _ rfl rfl rfl (HXA.o.1.alloc _) (RdR.lit (m:=[(⟨false,x⟩:Mailsack.Op)]) xAc _ _ rfl) (by have:=HPL.o;have:=HKL.o;simp only[Aj,Bl,Dq];omega) (by have:=HXA.o.2.size;simp;omega) ?_;intro v8 w8 h8;have HA8:=HAH.o _ _ h8;clear h8)
        exact⟨⟨k+1,ω,by go_num,HA8⟩,by simp[intOf];omega⟩
       ·obtain rfl:k=l.length:=ω;rw[Cf] at HI;have HKL:Hid ((P0++l.map (λx=>(⟨false,x⟩:Mailsack.Op))).length<=2000):=ι (by have:=HPL.o;simp only[Aj,Bw];omega);rw[HPE2.o] at HV
        generalize P0++l.map (λx=>(⟨false,x⟩:Mailsack.Op))=P2 at HI HKL HV;have HI3:=HI;clear HI hlt HPE2 HPL HLN HAL HWR;go_upto_region 27 with fail
        go_wp2_with fail
        refine cM (HWF.o _) λw4 hb=>?_;have HI4:=ι (Ai (HI3.o.1.below hb) (bT HI3.o.2 hb));clear hb HI3 ;have HZZ:=ι (xFb 64 w4 ω);obtain⟨zb,hzb⟩:=eX (xO 64);rw[hzb] at HZZ HV;clear hzb
        have yEv:=ι (λW=>xBn 0 ⟨zb.toArray⟩ W);go_wp2_with fail
        refine cM HZZ.o λw5 hb=>?_;have HI5:=ι (Ai (HI4.o.1.below hb) (bT HI4.o.2 hb));clear hb HI4 HZZ;go_wp2_with fail
        refine cM (yEv.o _) λw6 hb=>?_;have HI6:=ι (Ai (HI5.o.1.below hb) (bT HI5.o.2 hb));clear hb HI5 yEv;go_wp2_with fail
        refine cM (HWF.o _) λw7 hb=>?_;have HI7:=ι (Ai (HI6.o.1.below hb) (bT HI6.o.2 hb));clear hb HI6 HWF
        go_wp2_with (at_builtin;refine uG yFh rfl _ _ rfl rfl rfl (HI7.o.1.alloc _) (RdR.lit (m:=[fOp,wOp 0 zb,fOp]) xAc _ _ rfl) (by have:=HKL.o;simp;omega) (by have:=HI7.o.2.size;simp;omega) ?_;intro v8 w8 h8;have HA8:Hid (xA5 104 3 opF (w7.alloc (.cells #[.bool true,.int .i64 0,.string ⟨#[]⟩,.bool false,.int .i64 0,.string ⟨zb.toArray⟩,.bool true,.int .i64 0,.string ⟨#[]⟩] 104)) w8 (w.heap.size+1) u8 v8 (P2++[fOp,wOp 0 zb,fOp])):=ι h8;clear h8)
        go_ret2;refine⟨v8,by rw[<-HV.o.1];rfl,?_,HA8.o.bel (HI7.o.1.alloc _) ω (HI7.o.2.alloc HI7.o.2.size _) (by have:=HI7.o.2.size;simp;omega)⟩;rw[<-HV.o.2];exact HA8.o.own.rd xAc
theorem xJb (va vb lv:Value) (d:Dk) (l:List Wr) (w:World) (h:RdD w w.heap.size va vb d) (hl:RdW w w.heap.size lv l) (hll:l.length<=100000) (hT:jE w):
  Calls prog 9 #[.agg #[va,vb],lv] w λe w'=>∃ov,e=.returned (.tuple #[ov,.int .i64 (vZ d l)])/\RdR 3 opF w' w'.heap.size ov (if vZ d l=0 then zU l else[])/\ψ w w':=by
 by_cases hs:qO d=false∨l.length=0
 ·refine(yBh va vb lv d l w h hl hs).mono ?_;rintro e w' ⟨rfl,hb⟩;exact⟨_,by rw[xLx hs],by rw[xLx hs,Ag ω];exact RdR.xJj _ _,hb⟩
 ·have h1:qO d=true:=by
   cases e:qO d with
   |true=>rfl
   |false=>exact absurd (.inl e) hs
  exact yG7 va vb lv d l w h hl hll h1 (λe=>hs (.inr e)) hT
theorem xJa {d:Dk} {l:List Wr} (h:vZ d l=0):(zU l).length<=100:=by
 have:l.length<=30:=by
  unfold vZ at h;split at h
  ·omega
  ·split at h
   ·omega
   ·split at h<;>omega
 unfold zU;simp[xId];omega
structure CmM (w:World) (va vb:Value) (D:Dk) (W:World):Prop where
 d:W.heap[w.heap.size]?=some (yI va vb)
 o:W.heap[w.heap.size+1]?=some (yI (.slice none 0 0) (.slice none 0 0))
 rd:RdD W W.heap.size va vb D
 bel:ψ w W
theorem CmM.below {w W W':World} {va vb:Value} {D:Dk} (h:CmM w va vb D W) (hb:ψ W W'):CmM w va vb D W':=
 ⟨xC h.d hb (xH h.d),xC h.o hb (xH h.o),(h.rd.below hb ν).more hb.size,bT h.bel hb⟩
theorem xYm (va vb lv:Value) (d:Dk) (l:List Wr) (w:World) (h:RdD w w.heap.size va vb d) (hl:RdW w w.heap.size lv l) (hll:l.length<=100000) (hc:d.cache.length<=10000) (hT:jE w):
  Calls prog 49 #[.agg #[va,vb],lv] w λe w'=>∃va' vb',e=.returned (.tuple #[.agg #[va',vb'],.int .i64 (vZ d l)])/\RdD w' w'.heap.size va' vb' (xCi d l)/\ψ w w':=by
 obtain⟨A1,c1,A2,c2,rfl,rfl⟩:=yC h;obtain⟨A3,c3,rfl,hc3,hl3⟩:=id hl
 have H0:Hid (CmM w (.slice A1 d.secs.length c1) (.slice A2 d.cache.length c2) d ((w.alloc (yI (.slice A1 d.secs.length c1) (.slice A2 d.cache.length c2))).alloc (yI (.slice none 0 0) (.slice none 0 0)))):=ι (by
  have hb:=(φ w (yI (.slice A1 d.secs.length c1) (.slice A2 d.cache.length c2))).alloc σ (yI (.slice none 0 0) (.slice none 0 0));exact⟨zM _ _ _,zI _ _ _,(h.below hb ν).more hb.size,hb⟩)
 have HP:=ι (xJb _ _ (.slice A3 l.length c3) d l _ H0.o.rd ((hl.below H0.o.bel ν).more H0.o.bel.size) hll (hT.below H0.o.bel ν));have HCV:Hid (xCi d l=if vZ d l=0 then vJ d (zU l) else⟨[],[]⟩):=ι rfl;have HOL:Hid (vZ d l=0->(zU l).length<=100):=ι xJa;have HC:=ι hc
 obtain⟨cm,hcm⟩:=eX (xCi d l);rw[hcm] at HCV⊢;clear h hl hl3 hc3 hc hcm hll
 by_cases h0:vZ d l=0
 ·rw[h0,Ah rfl] at HP;rw[h0,Ah rfl] at HCV;rw[h0];have HOL2:=ι (HOL.o h0);clear h0 HOL;go_enter func49,ntmps49;go_upto_region 1 with fail
  generalize (w.alloc (yI (.slice A1 d.secs.length c1) (.slice A2 d.cache.length c2))).alloc (yI (.slice none 0 0) (.slice none 0 0))=w1 at H0 HP⊢;obtain⟨d0,d1⟩:=uQ H0.o.d;go_wp2_with fail
  refine HP.o.mono ?_;rintro e w2 ⟨ov,rfl,hro,hb⟩;obtain⟨A4,c4,rfl,hc4,ho4⟩:=id hro;have H2:=ι (H0.o.below hb);have HRO:=ι hro;clear hb H0 HP d0 d1 hro ho4 hc4
  have HR:=ι (xSh _ _ (.slice A4 (zU l).length c4) d (zU l) ((zU l).length:Int) w2 H2.o.rd HRO.o (by have:=HC.o;have:=HOL2.o;omega));rw[Cn,Cf] at HR;rw[<-HCV.o] at HR;obtain⟨d0,d1⟩:=uQ H2.o.d;go_upto_region 4 with fail
  go_wp2_with fail
  refine HR.o.mono ?_;rintro e w3 ⟨ua,ub,rfl,hr,hb⟩;obtain⟨A5,c5,A6,c6,rfl,rfl⟩:=yC hr;have H3:=ι (H2.o.below hb);have HRR:=ι hr;clear hr hb H2 HR HRO d0 d1
  have hRD:RdD ((w3.setCell (θ (w.heap.size+1) 0) (.slice A5 cm.secs.length c5)).setCell (θ (w.heap.size+1) 1) (.slice A6 cm.cache.length c6)) w3.heap.size (.slice A5 cm.secs.length c5) (.slice A6 cm.cache.length c6) cm:=by
   have e0:=yD H3.o.o 0 (.slice A5 cm.secs.length c5);simp only[Ba,Bh] at e0;exact RdD.far (RdD.far HRR.o (p:=(θ (w.heap.size+1) 0)) (wQ H3.o.o) _) (p:=(θ (w.heap.size+1) 1)) (wQ e0) _
  have HRD:=ι hRD;clear hRD;obtain⟨o0,y0,f0,o1,y1,f1,HB⟩:=xMk H3.o.o H3.o.bel ω (.slice A5 cm.secs.length c5) (.slice A6 cm.cache.length c6) _ rfl;clear H3 HRR;go_wp2
  refine Ak (v:=.tuple #[.agg #[.slice A5 cm.secs.length c5,.slice A6 cm.cache.length c6],.int .i64 0]) (by simp[results,results49,go_sem,f0,f1]) rfl ?_;exact⟨_,_,rfl,by simpa[size_set] using HRD.o,HB.o⟩
 ·rw[Ag h0] at HP HCV;obtain⟨pe,hpe⟩:=eX (vZ d l);rw[hpe] at HP h0⊢;have h0b:(pe==0)=false:=by simpa using h0
  have h0c:(pe !=0)=true:=by simpa using h0
  clear hpe HOL;go_enter func49,ntmps49;go_upto_region 1 with fail
  generalize (w.alloc (yI (.slice A1 d.secs.length c1) (.slice A2 d.cache.length c2))).alloc (yI (.slice none 0 0) (.slice none 0 0))=w1 at H0 HP⊢;obtain⟨d0,d1⟩:=uQ H0.o.d;go_wp2_with fail
  refine HP.o.mono ?_;rintro e w2 ⟨ov,rfl,hro,hb⟩;have H2:=ι (H0.o.below hb);clear hb H0 HP d0 d1 hro;obtain⟨o0,y0,f0,o1,y1,f1,HB⟩:=xMk H2.o.o H2.o.bel ω (.slice none 0 0) (.slice none 0 0) _ rfl;clear H2;go_wp2
  refine Ak (v:=.tuple #[.agg #[.slice none 0 0,.slice none 0 0],.int .i64 pe]) (by simp[results,results49,go_sem,f0,f1]) rfl ?_;refine⟨_,_,rfl,?_,HB.o⟩;rw[HCV.o];exact⟨⟨_,_,rfl,Bd _,λh=>by simp at h⟩,RdW.xJj _ _,σ,σ⟩
end Go.Proofs.DS
namespace Mailsack
theorem yKp (z:Int):oct (z % 256)=oct z:=by
 unfold oct;rw[Int.emod_emod_of_dvd z (by omega:(256:Int) ∣ 256)]
end Mailsack
namespace Go.Proofs.ST
open Go.RowKit Mailsack MM BB SH SV RK DS
abbrev rW (t:Slot):List Value:=[.bool t.used,.int .i64 t.cls,.int .i64 t.blk,.int .i64 t.size,xR t.name]
theorem zZ (t:Slot):(rW t).length=5:=rfl
theorem sloF_one (x:Slot):∀u∈rW x,u.oneCell'=true:=by
 intro u hu;simp only[rW,De,Dp,Gn] at hu;rcases hu with rfl|rfl|rfl|rfl|rfl<;>rfl
abbrev xKq (t:Slot):Value:=.agg #[.bool t.used,.int .i64 t.cls,.int .i64 t.blk,.int .i64 t.size,xR t.name]
abbrev kQ (t:Slot):Obj:=.cells #[.bool t.used,.int .i64 t.cls,.int .i64 t.blk,.int .i64 t.size,xR t.name] 137
theorem yLe:(prog.info? 137).map (λi=>(i.zero,i.size,i.bytes))=some (some (.agg #[.bool false,.int .i64 0,.int .i64 0,.int .i64 0,.string ⟨#[]⟩]),5,48):=κ
theorem yE0 (l:List Int) (hl:∀x∈l,0<=x/\x<256) (g:Nat) (W:World) (hb:W.heap[g]?=some (.cells (l.map (Value.int .u8)).toArray 5 (0,0))):(convert 96 9 (.slice (some (θ g 0)) l.length l.length)).run prog W=.ok (.string (bsA (l.map oct))) W:=by
 have:=Dl (P:=prog) W 96 9 5 (θ g 0) l.length (l.map oct) underlying96 underlying5 underlying9 (λj hj=>by
  have hj2:j<l.length:=by simpa using hj
  have ha:(⟨g,0,none⟩:Addr).add j=⟨g,j,none⟩:=by unfold Addr.add;split<;>simp_all
  rw[ha,xA hb];have h1:=hl l[j] (List.getElem_mem hj2);have h2:=wW l[j];simp[hj2];omega)
 rw[Bw] at this;exact this
theorem xEb (c:Nat) (w:World):Calls prog 32 #[.int .i64 c] w λe w'=>e=.returned (.int .i64 (vQ c))/\w'=w:=by
 by_cases h:c=0
 ·subst h;go_enter func32,ntmps32;go_wp2;go_ret;exact⟨rfl,rfl⟩
 ·have h1:¬((c:Int)=0):=ω;have h2:((c:Int)==0)=false:=by simpa using h1
  have H:Hid (vQ c=12):=ι (by unfold vQ;rw[Ag h]);clear h;go_enter func32,ntmps32;go_wp2;go_ret;exact⟨by rw[H.o];rfl,rfl⟩
theorem xB9 (c:Nat) (w:World):Calls prog 82 #[.int .i64 c] w λe w'=>e=.returned (.int .i64 (rE c))/\w'=w:=by
 by_cases h:c=0
 ·subst h;go_enter func82,ntmps82;go_wp2;go_ret;exact⟨rfl,rfl⟩
 ·have h1:¬((c:Int)=0):=ω;have h2:((c:Int)==0)=false:=by simpa using h1
  have H:Hid (rE c=1024):=ι (by unfold rE;rw[Ag h]);clear h;go_enter func82,ntmps82;go_wp2;go_ret;exact⟨by rw[H.o];rfl,rfl⟩
theorem xJ4 (c b:Nat) (w:World) (hb:b<=10000):Calls prog 64 #[.int .i64 c,.int .i64 b] w λe w'=>e=.returned (.tuple #[.int .i64 (vN c b),.int .i64 (countP c)])/\w'=w:=by
 by_cases h:c=0
 ·subst h;have H:Hid ((vN 0 b:Nat)=(93:Int)+b*4/\countP 0=4):=ι ⟨by unfold vN;rw[Ah rfl];omega,rfl⟩;go_enter func64,ntmps64;go_wp2;go_ret2;exact⟨by rw[H.o.1,H.o.2];rfl,rfl⟩
 ·have h1:¬((c:Int)=0):=ω;have h2:((c:Int)==0)=false:=by simpa using h1
  have H:Hid ((vN c b:Nat)=(189:Int)+b*16/\countP c=16):=ι ⟨by unfold vN;rw[Ag h];omega,by unfold countP;rw[Ag h]⟩;clear h;go_enter func64,ntmps64;go_wp2;go_ret2;exact⟨by rw[H.o.1,H.o.2];rfl,rfl⟩
theorem xMf (t:Slot) (w:World) (hc:t.cls<=255) (hb:t.blk<=255) (hs:t.size<=65535) (hn:t.name.length<=255):Calls prog 127 #[xKq t] w (pv (xR (tX t)) w):=by
 obtain⟨u,c,b,s,n⟩:=t;simp only at hc hb hs hn;have HB0:=ι (φ w (kQ ⟨u,c,b,s,n⟩));have hbk:=xJ w (kQ ⟨u,c,b,s,n⟩);obtain⟨x0,x1,x2,x3,x4⟩:=xZe hbk;cases u with
 |false=>
  have HP:=ι (λW=>xSs ⟨#[]⟩ 64 W ω (by show 0<=_;omega));clear hbk;have HE:Hid (tX ⟨false,c,b,s,n⟩=xNi (⟨#[]⟩:ByteArray).data.toList 64):=ι rfl;obtain⟨ev,hev⟩:=eX (tX ⟨false,c,b,s,n⟩);rw[hev] at HE⊢;rw[<-HE.o] at HP;clear hev HE;go_enter func127,ntmps127
  go_wp2_with fail
  refine cM (HP.o _) λw1 hb1=>?_;have HB:=ι (bT HB0.o hb1);clear hb1 HB0 HP;go_wp2;go_ret;exact⟨rfl,HB.o⟩
 |true=>
  have m1:(c:Int) % 256=c:=ω;have m2:(b:Int) % 256=b:=ω;have m5:(n.length:Int) % 256=n.length:=ω;clear hbk;obtain⟨ev,hev⟩:=eX (tX ⟨true,c,b,s,n⟩);rw[hev];have HEV:=ι hev;clear hev;go_enter func127,ntmps127;go_upto_region 4 with fail
  have HCV:=ι (yE0 [1,(c:Int),(b:Int),(s:Int) % 256,(s:Int) / 256,(n.length:Int)] (by
   intro x hx;simp only[De,Dp,Gn] at hx
   rcases hx with rfl|rfl|rfl|rfl|rfl|rfl<;>omega) (w.heap.size+1) ((w.alloc (kQ ⟨true,c,b,s,n⟩)).alloc (.cells #[.int .u8 1,.int .u8 c,.int .u8 b,.int .u8 ((s:Int) % 256),.int .u8 ((s:Int) / 256),.int .u8 (n.length:Int)] 5)) (zI _ _ _))
  obtain⟨h6,hh6⟩:=eX (bsA ([1,(c:Int),(b:Int),(s:Int) % 256,(s:Int) / 256,(n.length:Int)].map oct));have hsz:h6.size=6:=by rw[<-hh6,yS];rfl
  rw[hh6] at HCV;have HBB:=ι (HB0.o.alloc HB0.o.size (.cells #[.int .u8 1,.int .u8 c,.int .u8 b,.int .u8 ((s:Int) % 256),.int .u8 ((s:Int) / 256),.int .u8 (n.length:Int)] 5))
  have hb4:=xN (xJ w (kQ ⟨true,c,b,s,n⟩)) (.cells #[.int .u8 1,.int .u8 c,.int .u8 b,.int .u8 ((s:Int) % 256),.int .u8 ((s:Int) / 256),.int .u8 (n.length:Int)] 5);have y4:=xA hb4 4;simp only[gA,gB,gC] at y4;obtain⟨nb,hnb⟩:=eX (⟨n.toArray⟩:ByteArray)
  have hns:nb.size=n.length:=by rw[<-hnb];rfl
  have HP:=ι (λW=>xSs (h6++nb) 64 W ω (by rw[Aw];omega))
  have HE:Hid (xNi (h6++nb).data.toList 64=ev):=ι (by
   rw[<-HEV.o,<-hh6,<-hnb];unfold tX;rw[Ah rfl]
   congr 1
   unfold xX8;rw[Eu];simp[bsA,yKp]
   rfl)
  rw[HE.o] at HP;have nb1:¬(9223372036854775807<h6.size+nb.size):=ω;rw[show xR n=.string nb from by rw[<-hnb]] at y4;have hcv:=HCV.o;clear hh6 HEV HB0 x0 x1 x2 x3 x4 hb4 hns HCV m1 m2 m5 hc hb hs hn HE;simp only[Bl,Dq,Ay,Nat.reduceAdd] at hcv
  generalize (w.alloc (kQ ⟨true,c,b,s,n⟩)).alloc (.cells #[.int .u8 1,.int .u8 c,.int .u8 b,.int .u8 ((s:Int) % 256),.int .u8 ((s:Int) / 256),.int .u8 (n.length:Int)] 5)=w2 at hcv y4 HBB⊢;go_wp2_with fail
  refine cM (HP.o _) λw1 hb1=>?_;have HB:=ι (bT HBB.o hb1);clear hb1 HBB HP hcv y4;go_wp2;go_ret;exact⟨rfl,HB.o⟩
end Go.Proofs.ST
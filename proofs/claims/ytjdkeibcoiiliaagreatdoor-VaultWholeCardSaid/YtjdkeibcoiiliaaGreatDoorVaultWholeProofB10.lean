/- Contracts of functions. Conditions: as stated. -/
import Derived.Test.YtjdkeibcoiiliaaGreatDoorVaultWholeProofB09
open Go.Proofs.Tryz
set_option maxHeartbeats 8000000
set_option maxRecDepth 100000
namespace Mailsack
def xCu (h:List Nat) (i j:Nat):List Nat:=(h.set i (h.getD j 0)).set j (h.getD i 0)
theorem xFj (h:List Nat) (i j:Nat):(xCu h i j).length=h.length:=by simp[xCu]
end Mailsack
namespace Go.Proofs.AL
open Go.RowKit Mailsack MM SV
def xRu (l:List Nat):List Value:=l.map λ(x:Nat)=>Value.int .i64 (x:Int)
def jI (W:World) (g:Nat) (h:List Nat) (rest:List Value):Prop:=W.heap[g]?=some (.cells (xRu h++rest).toArray 3 (0,0))
theorem jI.blk {W:World} {g:Nat} {h:List Nat} {rest:List Value} (hr:jI W g h rest):W.heap[g]?=some (.cells (xRu h++rest).toArray 3 (0,0)):=hr
theorem jI.cell {W:World} {g:Nat} {h:List Nat} {rest:List Value} (hr:jI W g h rest) {i:Nat} (hi:i<h.length):W.cell? (θ g i)=some (.int .i64 ((h.getD i 0:Nat):Int)):=by
 rw[xA hr.blk,Dv,Fz (by simp[xRu];exact hi)];simp[xRu,hi]
theorem jI.free {W:World} {g:Nat} {h:List Nat} {rest:List Value} (hr:jI W g h rest) (i:Nat):W.frozen? (θ g i)=false:=xG hr.blk i
theorem jI.put {W:World} {g:Nat} {h:List Nat} {rest:List Value} (hr:jI W g h rest) {i:Nat} (hi:i<h.length) (x:Nat):jI (W.setCell (θ g i) (.int .i64 (x:Int))) g (h.set i x) rest:=by
 have:=yD hr.blk i (.int .i64 (x:Int));unfold jI;rw[this]
 congr 2
 rw[Ba,List.set_append_left _ _ (by simp[xRu];exact hi)];simp[xRu,Gb]
theorem jI.below {W W':World} {g:Nat} {h:List Nat} {rest:List Value} (hr:jI W g h rest) (hb:ψ W W'):jI W' g h rest:=xC hr.blk hb (xH hr.blk)
theorem jI.drew {W:World} {g:Nat} {h:List Nat} {rest:List Value} (hr:jI W g h rest):jI W.drew g h rest:=hr
theorem jI.far {W:World} {g:Nat} {h:List Nat} {rest:List Value} (hr:jI W g h rest) {p:Addr} (hp:g≠p.block) (u:Value):jI (W.setCell p u) g h rest:=yA hr.blk hp u
theorem xT1 (A:Option Addr) (n c:Nat) (w:World):
  Calls prog 244 #[.slice A n c] w λe w'=>e=.returned (.int .i64 n)/\w'=w:=by
 go_enter func244,ntmps244;go_wp2;go_ret;exact⟨rfl,rfl⟩
theorem yGz (g n c:Nat) (h:List Nat) (rest:List Value) (i j:Nat) (w:World) (hr:jI w g h rest) (hn:n<=h.length) (hi:i<n) (hj:j<n):
  Calls prog 245 #[.slice (some (θ g 0)) n c,.int .i64 i,.int .i64 j] w (pv (.bool (decide (h.getD i 0<h.getD j 0))) w):=by
 have c0:=hr.cell (i:=i) ω;have c1:=hr.cell (i:=j) ω;generalize h.getD i 0=x at c0⊢;generalize h.getD j 0=y at c1⊢;have hii:(i:Int)<(n:Int):=ω;have hjj:(j:Int)<(n:Int):=ω;clear hr hn hi hj;go_enter func245,ntmps245;go_upto_region 1 with fail
 refine RG.xU (λW=>Hid (ψ w W/\W.cell? (θ g i)=some (.int .i64 (x:Int))/\W.cell? (θ g j)=some (.int .i64 (y:Int)))) κ κ (ι ⟨(Aq w.heap.size w).drew,c0,c1⟩) ?_;clear c0 c1;iterate 3 refine RG.dS ?_
 refine RG.dF (λw9 hw9=>hw9.o.2.1) ?_;iterate 3 refine RG.dS ?_
 refine RG.dF (λw9 hw9=>hw9.o.2.2) ?_;iterate 2 refine RG.dS ?_
 refine RG.xX (λw1 hw1=>?_);go_wp2;go_ret;exact⟨rfl,hw1.o.1⟩
theorem yFr (g n c:Nat) (h:List Nat) (rest:List Value) (i j:Nat) (w:World) (hr:jI w g h rest) (hn:n<=h.length) (hi:i<n) (hj:j<n):
  Calls prog 246 #[.slice (some (θ g 0)) n c,.int .i64 i,.int .i64 j] w λe w'=>e=.returned (.tuple #[])/\jI w' g (xCu h i j) rest/\Tn (λk=>k=g) w w':=by
 have HS:Hid (xCu h i j=(h.set i (h.getD j 0)).set j (h.getD i 0)):=ι rfl;have hih:i<h.length:=ω;have hjh:j<h.length:=ω;have HIH:=ι (Ai hih hjh);obtain⟨x,hx⟩:=eX (h.getD i 0);obtain⟨y,hy⟩:=eX (h.getD j 0);rw[hx,hy] at HS;have HX:=ι (Ai hx hy)
 have hii:(i:Int)<(n:Int):=ω;have hjj:(j:Int)<(n:Int):=ω;have H0:Hid (jI w g h rest/\Tn (λk=>k=g) w w):=ι ⟨hr,Tn.refl _ _⟩;clear hr hn hi hj hih hjh hx hy;go_enter func246,ntmps246
 refine RG.zA 16 (λL W=>Hid (jI W g (if L 15 then(if L 13 then h.set i y else h).set j x else(if L 13 then h.set i y else h)) rest/\Tn (λk=>k=g) w W)) (λL L' W h hI=>by rw[<-h 13 δ,<-h 15 δ];exact hI) κ κ rfl (ι ⟨H0.o.1.drew,H0.o.2.drew⟩) ?_;clear H0;iterate 7 refine RG.cS ?_
 apply RG.xS
 ·rfl
 ·rfl
 ·intro L w9 h0 hcl xQ hw9;have e1:=hcl.not 16 (i:=13) h0 κ;have e2:=hcl.not 16 (i:=15) h0 κ;have hs9:=hw9.o.1;rw[e1,e2,Ag (c:=false=true) σ,Ag (c:=false=true) σ] at hs9;have q:=hs9.cell (i:=j) HIH.o.2;rw[HX.o.2] at q;clear e1 e2 hs9;repeat go_step
  refine RG.xE ?_;exact⟨xQ,hw9⟩
 ·rfl
 iterate 3 refine RG.cS ?_
 apply RG.xS
 ·rfl
 ·rfl
 ·intro L w9 h0 hcl xQ hw9;have e1:=hcl.not 16 (i:=13) h0 κ;have e2:=hcl.not 16 (i:=15) h0 κ;have hs9:=hw9.o.1;rw[e1,e2,Ag (c:=false=true) σ,Ag (c:=false=true) σ] at hs9;have q:=hs9.cell (i:=i) HIH.o.1;rw[HX.o.1] at q;clear e1 e2 hs9;repeat go_step
  refine RG.xE ?_;exact⟨xQ,hw9⟩
 ·rfl
 refine RG.cS ?_;apply RG.xS
 ·rfl
 ·rfl
 ·intro L w9 h0 hcl xQ hw9;have e2:=hcl.not 16 (i:=15) h0 κ;obtain⟨hs9,ht9⟩:=hw9.o;rw[h0,e2,Ag (c:=false=true) σ,Ag (c:=false=true) σ] at hs9;have q:=hs9.cell (i:=i) HIH.o.1;rw[HX.o.1] at q;have q1:=hs9.free i
  have hp:Hid (jI (w9.setCell (θ g i) (.int .i64 (y:Int))) g (h.set i y) rest/\Tn (λk=>k=g) w (w9.setCell (θ g i) (.int .i64 (y:Int)))):=ι ⟨hs9.put HIH.o.1 y,ht9.set (p:=θ g i) (.inl rfl) _⟩;have E2:=ι e2;clear hs9 ht9 e2;repeat go_step
  refine RG.xE ?_;refine⟨xQ,?_⟩;show Hid (jI _ g (if L 15=true then _ else(if (true:Bool)=true then h.set i y else h)) rest/\_);rw[E2.o,Ag (c:=false=true) σ,Ah rfl];with_reducible exact hp
 ·rfl
 refine RG.cS ?_;apply RG.xS
 ·rfl
 ·rfl
 ·intro L w9 h0 hcl xQ hw9
  have e1:L 13=true:=by
   have:=xQ.yes 16 (i:=15) (j:=13) σ κ;simpa using this
  obtain⟨hs9,ht9⟩:=hw9.o;rw[h0,e1,Ag (c:=false=true) σ,Ah rfl] at hs9;have q:=hs9.cell (i:=j) (by rw[Bf];exact HIH.o.2);have q1:=hs9.free j
  have hp:Hid (jI (w9.setCell (θ g j) (.int .i64 (x:Int))) g ((h.set i y).set j x) rest/\Tn (λk=>k=g) w (w9.setCell (θ g j) (.int .i64 (x:Int)))):=ι ⟨hs9.put (by rw[Bf];exact HIH.o.2) x,ht9.set (p:=θ g j) (.inl rfl) _⟩;have E1:=ι e1;clear hs9 ht9 e1
  repeat go_step
  refine RG.xE ?_;refine⟨xQ,?_⟩;show Hid (jI _ g (if (true:Bool)=true then(if L 13=true then h.set i y else h).set j x else _) rest/\_);rw[E1.o,Ah rfl,Ah rfl];with_reducible exact hp
 ·rfl
 refine RG.yY (λw9 hw9=>?_);rw[Ah rfl,Ah rfl,<-HS.o] at hw9;go_wp2;refine bodyPost_end (results_none rfl _ _ _) rfl ?_;exact⟨rfl,hw9.o.1,hw9.o.2⟩
abbrev numI (gp:Nat):Value:=.iface 153 (.pointer (some (θ gp 1)))
theorem yGj (gp g n c:Nat) (h:List Nat) (rest:List Value) (w:World) (hc:w.cell? (θ gp 1)=some (.slice (some (θ g 0)) (n+1) c)) (hf:w.frozen? (θ gp 1)=false) (hr:jI w g h rest) (hn:n+1=h.length) (hcc:n+1<=c) (hn2:n<1000000):
  Calls prog 247 #[.pointer (some (θ gp 1))] w λe w'=>e=.returned (.iface 3 (.int .i64 ((h.getD n 0:Nat):Int)))/\w'=w.setCell (θ gp 1) (.slice (some (θ g 0)) n c):=by
 have q:=hr.cell (i:=n) ω;generalize h.getD n 0=x at q⊢;have e1:(((n+1:Nat):Int))=(n:Int)+1:=ω;have e2:(n:Int)+1-1=n:=ω;have e3:(n:Int)<((n+1:Nat):Int):=ω;have e4:(n:Int)<=(c:Int):=ω;have e5:¬((n:Int)<0):=ω;clear hr hn;go_enter func247,ntmps247;go_wp2;go_ret
 exact⟨rfl,rfl⟩
theorem row_of {P:Program} {t:TypeId} {name:String} {f:FuncId} {pr:Bool} (h:((P.info? t).bind λi=>(i.methods.find? (·.name==name)).map λm=>(m.path.toList.length,m.func))=some (0,some (f,pr))):
  ∃i m,P.info? t=some i/\i.methods.find? (·.name==name)=some m/\m.path=#[]/\m.func=some (f,pr):=by
 cases hi:P.info? t with
 |none=>rw[hi] at h;cases h
 |some i=>
  rw[hi] at h;simp only[Ho] at h;cases hm:i.methods.find? (·.name==name) with
  |none=>rw[hm] at h;cases h
  |some m=>
   rw[hm] at h;simp only[Fe,Ez,Prod.mk.injEq] at h
   exact⟨i,m,rfl,hm,by
    have:=Cs h.1;exact Array.toList_eq_nil_iff.1 this,h.2⟩
theorem yL0 {name:String} {f:FuncId} (h:((prog.info? 153).bind λi=>(i.methods.find? (·.name==name)).map λm=>(m.path.toList.length,m.func))=some (0,some (f,false)))
  (n:Nat) (a:Addr) (w:World) (A:Option Addr) (k c:Nat) (hc:w.cell? a=some (.slice A k c)):(method (n+1) 153 (.pointer (some a)) name).run prog w=.ok (f,.slice A k c) w:=by
 obtain⟨i,m,h1,h2,h3,h4⟩:=row_of (P:=prog) h;have hu:=underlying153
 have hl:(loadVar 149 a).run prog w=.ok (.slice A k c) w:=by
  unfold loadVar;simp[go_sem,hc]
 have hw : ∀ t nm,Builtin.ssaWrapNilChk_ #[t] t #[.pointer (some a),strVal "",strVal nm] = pure (.pointer (some a)) := fun _ _ => rfl;unfold method;simp[typeInfo,h1,h2,h3,h4,follow,receiverAt,underlying,hu,Place.get,hw,asAddr,hl]
theorem m_ptr {name:String} {f:FuncId} (h:((prog.info? 153).bind λi=>(i.methods.find? (·.name==name)).map λm=>(m.path.toList.length,m.func))=some (0,some (f,true)))
  (n:Nat) (a:Addr) (w:World):(method (n+1) 153 (.pointer (some a)) name).run prog w=.ok (f,.pointer (some a)) w:=by
 obtain⟨i,m,h1,h2,h3,h4⟩:=row_of (P:=prog) h;have hu:=underlying153;unfold method;simp[typeInfo,h1,h2,h3,h4,follow,receiverAt,underlying,hu,Place.get]
theorem yL1 (n : Nat) (a : Addr) (w : World) (A : Option Addr) (k c : Nat) (hc : w.cell? a = some (.slice A k c)) : (method (n + 1) 153 (.pointer (some a)) "Len").run prog w = .ok (244,.slice A k c) w := yL0 (by kernel_rfl) n a w A k c hc
theorem xV8 (n : Nat) (a : Addr) (w : World) (A : Option Addr) (k c : Nat) (hc : w.cell? a = some (.slice A k c)) : (method (n + 1) 153 (.pointer (some a)) "Less").run prog w = .ok (245,.slice A k c) w := yL0 (by kernel_rfl) n a w A k c hc
theorem xV7 (n : Nat) (a : Addr) (w : World) (A : Option Addr) (k c : Nat) (hc : w.cell? a = some (.slice A k c)) : (method (n + 1) 153 (.pointer (some a)) "Swap").run prog w = .ok (246,.slice A k c) w := yL0 (by kernel_rfl) n a w A k c hc
theorem m_pop (n : Nat) (a : Addr) (w : World) : (method (n + 1) 153 (.pointer (some a)) "Pop").run prog w = .ok (247,.pointer (some a)) w := m_ptr (by kernel_rfl) n a w
theorem yJu {P:Nat->Prop} {a b:World} (h:Tn P a b) {p:Addr} (hp:p.block<a.heap.size) (hn:¬P p.block):b.cell? p=a.cell? p:=by
 unfold World.cell?;rw[h.block _ hp hn]
theorem yAd {P:Nat->Prop} {a b:World} (h:Tn P a b) {p:Addr} (hp:p.block<a.heap.size) (hn:¬P p.block):b.frozen? p=a.frozen? p:=by
 unfold World.frozen?;rw[h.block _ hp hn]
theorem xNx (g N c:Nat) (h:List Nat) (rest:List Value) (a b:Nat) (x y:Int) (w:World) (hr:jI w g h rest) (hN:N=h.length) (hx:x=a) (hy:y=b) (ha:a<N) (hb:b<N):
  Calls prog 245 #[.slice (some (θ g 0)) N c,.int .i64 x,.int .i64 y] w (pv (.bool (decide (h.getD a 0<h.getD b 0))) w):=by
 subst hx hy;exact yGz g N c h rest a b w hr ω ha hb
theorem xN5 (g N c:Nat) (h:List Nat) (rest:List Value) (a b:Nat) (x y:Int) (w:World) (hr:jI w g h rest) (hN:N=h.length) (hx:x=a) (hy:y=b) (ha:a<N) (hb:b<N):
  Calls prog 246 #[.slice (some (θ g 0)) N c,.int .i64 x,.int .i64 y] w λe w'=>e=.returned (.tuple #[])/\jI w' g (xCu h a b) rest/\Tn (λk=>k=g) w w':=by
 subst hx hy;exact yFr g N c h rest a b w hr ω ha hb
structure DwI (w:World) (gp g N c:Nat) (h:List Nat) (rest:List Value) (W:World):Prop where
 row:jI W g h rest
 cell:W.cell? (θ gp 1)=some (.slice (some (θ g 0)) N c)
 len:N=h.length
 tn:Tn (λk=>k=g) w W
 lt:gp<w.heap.size
 ne:gp≠g
theorem DwI.below {w:World} {gp g N c:Nat} {h:List Nat} {rest:List Value} {W W':World} (h1:DwI w gp g N c h rest W) (hb:ψ W W'):DwI w gp g N c h rest W':=
 ⟨h1.row.below hb,(hb.cell (p:=θ gp 1) (Bt h1.lt h1.tn.size)).trans h1.cell,h1.len,h1.tn.call hb,h1.lt,h1.ne⟩
theorem DwI.swap {w:World} {gp g N c:Nat} {h h':List Nat} {rest:List Value} {W W':World} (h1:DwI w gp g N c h rest W) (hr:jI W' g h' rest) (ht:Tn (λk=>k=g) W W') (hl:h'.length=h.length):DwI w gp g N c h' rest W':=
 ⟨hr,(yJu ht (p:=θ gp 1) (Bt h1.lt h1.tn.size) h1.ne).trans h1.cell,by rw[hl];exact h1.len,h1.tn.trans ht,h1.lt,h1.ne⟩
theorem xW4 (gp g N c i0 n:Nat) (h:List Nat) (rest:List Value) (w:World) (hI:DwI w gp g N c h rest w) (hn:n<=N) (hN:N<=1000000) (hi1:i0<=1000000):
  Calls prog 128 #[numI gp,.int .i64 i0,.int .i64 n] w λe w'=>∃b,e=.returned (.bool b)/\DwI w gp g N c (jU h n n i0) rest w':=by
 have HI0:=ι hI;have HD0:Hid (∀h' f i,jU h n n i0=jU h' n f i->jU h n n i0=jU h' n f i):=ι (λ_ _ _ e=>e);clear hI HD0;obtain⟨res,hres⟩:=eX (jU h n n i0);have HR:=ι hres;rw[hres];clear hres;go_enter func128,ntmps128;go_wp2_with fail
 go_loopw [7,8,9,10] (λiv _ _ _ wr=>∃(i f:Nat) (h':List Nat),iv=.int .i64 i/\n<=i+f/\i<=1000000/\Hid (jU h' n f i=res)/\Hid (DwI w gp g N c h' rest wr)) (λiv _ _ _ _=>n- (intOf iv).toNat)
 case atStart=>exact⟨i0,n,h,rfl,ω,hi1,HR,HI0⟩
 case round=>
  obtain⟨i,f,h',rfl,hf,hi,HDn,HI⟩:=hrel;clear HR HI0
  by_cases hb:n<=2*i+1
  ·have hbi:(n:Int)<=2*(i:Int)+1:=ω
   have HE:Hid (res=h'):=ι (by
    rw[<-HDn.o];cases f with
    |zero=>rfl
    |succ f=>unfold jU;rw[Ah hb])
   clear hb hf hn;go_wp2;go_ret;refine⟨_,rfl,?_⟩;rw[HE.o];exact HI.o
  ·have hbi:¬((n:Int)<=2*(i:Int)+1):=ω;have hb0:¬(2*(i:Int)+1<0):=ω;have hiN:i<N:=ω;have HIN:=ι hiN;obtain⟨f,rfl⟩:∃f',f=f'+1:=⟨f-1,ω⟩
   have HDK:Hid (∀j,(if 2*i+2<n/\h'.getD (2*i+2) 0<h'.getD (2*i+1) 0 then 2*i+2 else 2*i+1)=j->(h'.getD j 0<h'.getD i 0->jU (xCu h' i j) n f j=res)/\(¬h'.getD j 0<h'.getD i 0->res=h')):=ι (λj hj=>by
    have:=HDn.o;unfold jU at this;rw[Ag hb] at this;simp only at this;rw[hj] at this;refine⟨λhl=>?_,λhl=>?_⟩
    ·rw[Ah hl] at this;exact this
    ·rw[Ag hl] at this;exact this.symm)
   clear HDn
   by_cases h2:2*i+2<n
   ·have h2i:2*(i:Int)+1+1<(n:Int):=ω;have H2N:Hid (2*i+2<N/\2*i+1<N):=ι ⟨ω,ω⟩;go_wp2_with fail
    rw[xV8 _ _ _ _ _ _ HI.o.cell];go_wp2_with fail
    refine cM (xNx g N c h' rest (2*i+2) (2*i+1) _ _ wr HI.o.row HI.o.len ω ω H2N.o.1 H2N.o.2) λw3 hb3=>?_;have HI3:=ι (HI.o.below hb3);clear HI hb3;have HI:=HI3;clear HI3;generalize w3=wr at HI⊢
    by_cases hl:h'.getD (2*i+2) 0<h'.getD (2*i+1) 0
    ·have HDJ:=ι (HDK.o (2*i+2) (by rw[Ah ⟨h2,hl⟩]));rw[Bq hl];obtain⟨j,hje⟩:=eX (2*i+2);have hj:2*(i:Int)+1+1=(j:Int):=ω;rw[hje] at HDJ;clear hl HDK H2N;have hjN:j<N:=ω;have HJ:=ι hj;have HJN:=ι hjN;clear hj hjN;go_wp2_with fail
     rw[xV8 _ _ _ _ _ _ HI.o.cell];go_wp2_with fail
     refine cM (xNx g N c h' rest j i _ _ wr HI.o.row HI.o.len HJ.o rfl HJN.o HIN.o) λw5 hb5=>?_;have H5:=ι (HI.o.below hb5);clear HI hb5
     by_cases hl2:h'.getD j 0<h'.getD i 0
     ·have HD5:=ι (HDJ.o.1 hl2);rw[Bq hl2];clear hl2 HDJ;go_wp2_with fail
      rw[xV7 _ _ _ _ _ _ H5.o.cell];go_wp2_with fail
      refine(xN5 g N c h' rest i j _ _ w5 H5.o.row H5.o.len rfl HJ.o HIN.o HJN.o).mono ?_;rintro e w6 ⟨rfl,hr6,ht6⟩;have H6:=ι (H5.o.swap hr6 ht6 (xFj _ _ _));clear H5 hr6 ht6;go_wp2;have hj:=HJ.o;exact⟨⟨j,f,xCu h' i j,by congr 1,ω,ω,HD5,H6⟩,by simp[intOf];omega⟩
     ·have HD5:=ι (HDJ.o.2 hl2);rw[Cq hl2];clear hl2 HDJ;go_wp2;go_ret;refine⟨_,rfl,?_⟩;rw[HD5.o];exact H5.o
    ·have HDJ:=ι (HDK.o (2*i+1) (by rw[Ag (λx=>hl x.2)]));rw[Cq hl];obtain⟨j,hje⟩:=eX (2*i+1);have hj:2*(i:Int)+1=(j:Int):=ω;rw[hje] at HDJ;clear hl HDK H2N;have hjN:j<N:=ω;have HJ:=ι hj;have HJN:=ι hjN;clear hj hjN;go_wp2_with fail
     rw[xV8 _ _ _ _ _ _ HI.o.cell];go_wp2_with fail
     refine cM (xNx g N c h' rest j i _ _ wr HI.o.row HI.o.len HJ.o rfl HJN.o HIN.o) λw5 hb5=>?_;have H5:=ι (HI.o.below hb5);clear HI hb5
     by_cases hl2:h'.getD j 0<h'.getD i 0
     ·have HD5:=ι (HDJ.o.1 hl2);rw[Bq hl2];clear hl2 HDJ;go_wp2_with fail
      rw[xV7 _ _ _ _ _ _ H5.o.cell];go_wp2_with fail
      refine(xN5 g N c h' rest i j _ _ w5 H5.o.row H5.o.len rfl HJ.o HIN.o HJN.o).mono ?_;rintro e w6 ⟨rfl,hr6,ht6⟩;have H6:=ι (H5.o.swap hr6 ht6 (xFj _ _ _));clear H5 hr6 ht6;go_wp2;have hj:=HJ.o;exact⟨⟨j,f,xCu h' i j,by congr 1,ω,ω,HD5,H6⟩,by simp[intOf];omega⟩
     ·have HD5:=ι (HDJ.o.2 hl2);rw[Cq hl2];clear hl2 HDJ;go_wp2;go_ret;refine⟨_,rfl,?_⟩;rw[HD5.o];exact H5.o
   ·have h2i:¬(2*(i:Int)+1+1<(n:Int)):=ω;have HDJ:=ι (HDK.o (2*i+1) (by rw[Ag (λx=>h2 x.1)]));obtain⟨j,hje⟩:=eX (2*i+1);have hj:2*(i:Int)+1=(j:Int):=ω;rw[hje] at HDJ;clear HDK;have hjN:j<N:=ω;have HJ:=ι hj;have HJN:=ι hjN;clear hj hjN;go_wp2_with fail
    rw[xV8 _ _ _ _ _ _ HI.o.cell];go_wp2_with fail
    refine cM (xNx g N c h' rest j i _ _ wr HI.o.row HI.o.len HJ.o rfl HJN.o HIN.o) λw5 hb5=>?_;have H5:=ι (HI.o.below hb5);clear HI hb5
    by_cases hl2:h'.getD j 0<h'.getD i 0
    ·have HD5:=ι (HDJ.o.1 hl2);rw[Bq hl2];clear hl2 HDJ;go_wp2_with fail
     rw[xV7 _ _ _ _ _ _ H5.o.cell];go_wp2_with fail
     refine(xN5 g N c h' rest i j _ _ w5 H5.o.row H5.o.len rfl HJ.o HIN.o HJN.o).mono ?_;rintro e w6 ⟨rfl,hr6,ht6⟩;have H6:=ι (H5.o.swap hr6 ht6 (xFj _ _ _));clear H5 hr6 ht6;go_wp2;have hj:=HJ.o;exact⟨⟨j,f,xCu h' i j,by congr 1,ω,ω,HD5,H6⟩,by simp[intOf];omega⟩
    ·have HD5:=ι (HDJ.o.2 hl2);rw[Cq hl2];clear hl2 HDJ;go_wp2;go_ret;refine⟨_,rfl,?_⟩;rw[HD5.o];exact H5.o
end Go.Proofs.AL
namespace Mailsack
theorem yG6 {h:List Nat} (h0:h.length≠0):(jU (xCu h 0 (h.length-1)) (h.length-1) (h.length-1) 0).getD (h.length-1) 0=h.getD 0 0:=by
 have hsw:(xCu h 0 (h.length-1))[h.length-1]?=some (h.getD 0 0):=by
  unfold xCu;rw[Cw (by simp;omega)]
 rw[Aa]
 by_cases h1:h.length=1
 ·have hk:jU (xCu h 0 (h.length-1)) (h.length-1) (h.length-1) 0=xCu h 0 (h.length-1):=by rw[h1];rfl
  rw[hk,hsw]
  rfl
 ·rw[xH0 _ _ _ _ _ ν ω,hsw]
  rfl
theorem pop_eq (h:List Nat):xAb h=(jU (xCu h 0 (h.length-1)) (h.length-1) (h.length-1) 0).dropLast:=rfl
end Mailsack
namespace Go.Proofs.AL
open Go.RowKit Mailsack MM SV
theorem jI.short {W:World} {g:Nat} {h:List Nat} {rest:List Value} (hr:jI W g h rest):jI W g h.dropLast (xRu (h.drop (h.length-1))++rest):=by
 have e:xRu h=xRu h.dropLast++xRu (h.drop (h.length-1)):=by
  unfold xRu;rw[<-Da,List.dropLast_eq_take,List.take_append_drop]
 unfold jI;rw[<-Cy,<-e];exact hr
theorem yHa (gp g N c:Nat) (h:List Nat) (rest:List Value) (w:World) (hI:DwI w gp g N c h rest w) (hN:N<=1000000):
  Calls prog 78 #[numI gp] w λe w'=>e=.returned (.tuple #[])/\DwI w gp g N c (xY7 h) rest w':=by
 have HI0:=ι hI;have HE:Hid (∀k,k=N / 2->xQh h k=xY7 h):=ι (λk hk=>by rw[hk,hI.len];rfl);have HDN:=ι (λ(h':List Nat) (k:Nat) W (hw:DwI W gp g N c h' rest W) (hk:k+1<=N / 2)=>xW4 gp g N c k N h' rest W hw ν hN ω);generalize xY7 h=res at HE⊢;clear hI
 go_enter func78,ntmps78;go_wp2_with fail
 rw[yL1 _ _ _ _ _ _ HI0.o.cell];go_wp2_with (go_at_call 244;refine(xT1 _ _ _ _).mono ?_;rintro e w1 ⟨rfl,rfl⟩)
 go_loopw [3] (λiv wr=>∃(k:Nat) (h':List Nat),iv=.int .i64 ((k:Int)-1)/\k<=N / 2/\Hid (xQh h' k=res)/\Hid (DwI w1 gp g N c h' rest wr)) (λiv _=>(intOf iv+1).toNat)
 case atStart=>exact⟨N / 2,h,by congr 1,Bd _,ι (HE.o _ rfl),HI0⟩
 case round=>
  obtain⟨k,h',rfl,hk,hR,HI⟩:=hrel;clear HI0 HE;cases k with
  |zero=>
   have hr0:Hid (res=h'):=ι hR.o.symm;go_wp2;refine bodyPost_end (results_none rfl _ _ _) rfl ?_;rw[hr0.o];exact⟨rfl,HI.o⟩
  |succ k=>
   have hR2:Hid (xQh (jU h' N N k) k=res):=ι (by rw[<-hR.o];conv=>rhs;unfold xQh;rw[<-HI.o.len]);rw[show((k+1:Nat):Int)-1=(k:Int) by omega];have HD1:=ι (HDN.o h' k wr ⟨HI.o.row,HI.o.cell,HI.o.len,Tn.refl _ _,Bt HI.o.lt HI.o.tn.size,HI.o.ne⟩ hk);clear hR HDN
   go_wp2_with fail
   refine HD1.o.mono ?_;rintro e w2 ⟨b,rfl,hw2⟩;have H2:Hid (DwI w1 gp g N c (jU h' N N k) rest w2):=ι ⟨hw2.row,hw2.cell,hw2.len,HI.o.tn.trans hw2.tn,HI.o.lt,HI.o.ne⟩;clear hw2 HI HD1;go_wp2;exact⟨⟨k,_,by rfl,ω,hR2,H2⟩,by simp[intOf]⟩
theorem yH9 (gp c:Nat) (A:Option Addr) (w:World) (hc:w.cell? (θ gp 1)=some (.slice A 0 c)):
  Calls prog 78 #[numI gp] w λe w'=>e=.returned (.tuple #[])/\w'=w:=by
 go_enter func78,ntmps78;go_wp2_with fail
 rw[yL1 _ _ _ _ _ _ hc];go_wp2_with (go_at_call 244;refine(xT1 _ _ _ _).mono ?_;rintro e w1 ⟨rfl,rfl⟩)
 go_loopw [3] (λiv wr=>iv=.int .i64 (-1)/\wr=w1) (λ_ _=>0)
 case atStart=>exact⟨rfl,rfl⟩
 case round=>
  obtain⟨rfl,rfl⟩:=hrel;go_wp2;refine bodyPost_end (results_none rfl _ _ _) rfl ?_;exact⟨rfl,rfl⟩
theorem yHe (gp g n c:Nat) (h:List Nat) (rest:List Value) (w:World) (hI:DwI w gp g (n+1) c h rest w) (hf:w.frozen? (θ gp 1)=false) (hc:n+1<=c) (hN:n+1<=1000000):
  Calls prog 129 #[numI gp] w λe w'=>e=.returned (.iface 3 (.int .i64 ((h.getD 0 0:Nat):Int)))/\∃W rest',w'=W.setCell (θ gp 1) (.slice (some (θ g 0)) n c)/\Tn (λk=>k=g) w W/\jI W g (xAb h) rest':=by
 have hl:h.length=n+1:=hI.len.symm;have H0:=ι hI;have hlast:=yG6 (h:=h) ω;have hpe:=pop_eq h;rw[hl,show n+1-1=n by omega] at hlast hpe;have HPE:=ι hpe;have HLA:=ι hlast;have HF:=ι (λW (ht:Tn (λk=>k=g) w W)=>(yAd ht (p:=θ gp 1) hI.lt hI.ne).trans hf);clear hpe hlast hI
 go_enter func129,ntmps129;go_wp2_with fail
 rw[yL1 _ _ _ _ _ _ H0.o.cell];go_wp2_with (go_at_call 244;refine(xT1 _ _ _ _).mono ?_;rintro e w1 ⟨rfl,rfl⟩)
 rw[xV7 _ _ _ _ _ _ H0.o.cell];go_wp2_with fail
 refine(xN5 g (n+1) c h rest 0 n _ _ w1 H0.o.row H0.o.len rfl rfl ω ω).mono ?_;rintro e w2 ⟨rfl,hr2,ht2⟩;have H2:=ι (H0.o.swap hr2 ht2 (xFj _ _ _));clear hr2 ht2
 have HDN:=ι (xW4 gp g (n+1) c 0 n (xCu h 0 n) rest w2 ⟨H2.o.row,H2.o.cell,H2.o.len,Tn.refl _ _,Bt H2.o.lt H2.o.tn.size,H2.o.ne⟩ ω ω ω);clear hf;go_wp2_with fail
 refine HDN.o.mono ?_;rintro e w3 ⟨b,rfl,hw3⟩;have HT3:=ι (H2.o.tn.trans hw3.tn);have HPOP:=ι (yGj gp g n c (jU (xCu h 0 n) n n 0) rest w3 hw3.cell (HF.o _ HT3.o) hw3.row hw3.len hc ω);rw[HLA.o] at HPOP;have HSH:=ι hw3.row.short;rw[<-HPE.o] at HSH
 clear hw3 H2 HDN HF HLA HPE hl hN hc;go_wp2_with fail
 rw[m_pop];go_wp2_with fail
 refine HPOP.o.mono ?_;rintro e w4 ⟨rfl,rfl⟩;go_wp2;go_ret;exact⟨rfl,w3,_,rfl,HT3.o,HSH.o⟩
end Go.Proofs.AL
namespace Mailsack
def tkB (n:Nat) (l:List Nat):List Bool:=(List.range n).map λi=>l.contains i
theorem xGj (n:Nat) (l:List Nat):(tkB n l).length=n:=by simp[tkB]
theorem yJv (n:Nat):tkB n []=List.replicate n false:=by
 apply Dt;intro i;simp only[tkB,Cg,Fa]
 by_cases h:i<n
 ·rw[Ah h,Fg h];rfl
 ·rw[Ag h,Bz (by simpa using h)];rfl
theorem xN4 {n:Nat} {l:List Nat} {i:Nat} (h:i<n):(tkB n l)[i]?=some (l.contains i):=by simp[tkB,h]
theorem yFj {n:Nat} {l:List Nat} {k t:Nat} (h:l[k]?=some t):tkB n (l.take (k+1))=(tkB n (l.take k)).set t true:=by
 rw[Cc,h];apply Dt;intro i;rw[Co]
 by_cases hi:i<n
 ·rw[xN4 hi,xN4 hi,xGj]
  by_cases e:t=i
  ·subst e;rw[Ah rfl,Ah hi];simp
  ·rw[Ag e];simp;intro h;exact absurd h.symm e
 ·rw[Bz (by rw[xGj];omega),Bz (by rw[xGj];omega)]
  by_cases e:t=i
  ·subst e;rw[Ah rfl,Ag (by rw[xGj];exact hi)]
  ·rw[Ag e]
def frL (l:List Nat) (k:Nat):List Nat:=(List.range k).filter λi=>!l.contains i
theorem yHj (l:List Nat) (k:Nat):frL l (k+1)=if l.contains k=true then frL l k else frL l k++[k]:=by
 unfold frL;rw[List.range_succ,List.filter_append];cases h:l.contains k<;>simp at h<;>simp[h]
theorem yDb (l:List Nat) (k:Nat):(frL l k).length<=k:=by
 have:=Ev (λi=>!l.contains i) (List.range k);simpa[frL] using this
theorem frL_lt {l:List Nat} {k x:Nat} (h:x∈frL l k):x<k:=by
 have:=(Gv.1 h).1;simpa using this
theorem yHh (n:Nat) (l:List Nat):xBh n l=xY7 (frL l n):=rfl
end Mailsack
namespace Go.Proofs.AL
open Go.RowKit Mailsack MM SV DS BB
def RdN (w:World) (B:Nat) (v:Value) (L:List Nat):Prop:=
 ∃A c,v=.slice A L.length c/\L.length<=c/\(0<L.length->∃b off,A=some (θ b off)/\b<B/\∀j x,L[j]?=some x->w.cell? (θ b (off+j))=some (.int .i64 ((x:Nat):Int)))
def xMv (w:World) (base:Nat) (v:Value) (l:List Nat):Prop:=w.ownsRow base 3 1 v l.length (xRu l)
theorem xMv.nil (w:World) (base:Nat):xMv w base (.slice none 0 0) []:=World.ownsRow_nil w base _ _
theorem xMv.row {w:World} {base:Nat} {v:Value} {l:List Nat} (h:xMv w base v l):w.ownsRow base 3 1 v l.length (xRu l):=h
theorem xMv.of {w:World} {base:Nat} {v:Value} {l:List Nat} {x:Nat} (h:w.ownsRow base 3 1 v (l.length+1) (xRu l++[.int .i64 (x:Int)])):xMv w base v (l++[x]):=by
 unfold xMv xRu;rw[Aj,Da];exact h
theorem xMv.alloc {w:World} {base:Nat} {v:Value} {l:List Nat} (h:xMv w base v l) (o:Obj):xMv (w.alloc o) base v l:=Hw h o
theorem xMv.form {w:World} {base:Nat} {v:Value} {l:List Nat} (h:xMv w base v l):∃A c,v=.slice A l.length c/\l.length<=c:=by
 rcases h.2 with ⟨h1,h2⟩|⟨g,cap,cur,h1,_,_,h2,_⟩
 ·exact⟨none,0,by rw[h1,h2],ω⟩
 ·exact⟨_,_,h1,h2⟩
theorem xMv.row_of {w:World} {base:Nat} {v:Value} {l:List Nat} (h:xMv w base v l):(l=[]/\v=.slice none 0 0)∨∃g c rest,v=.slice (some (θ g 0)) l.length c/\l.length<=c/\jI w g l rest/\base<=g:=by
 rcases h.2 with ⟨h1,h2⟩|⟨g,cap,cur,h1,hb,hg,hnc,_,_,ht⟩
 ·exact .inl ⟨Cs h2,h1⟩
 ·refine .inr ⟨g,cap,cur.toList.drop l.length,h1,hnc,?_,hb⟩;unfold jI;rw[Gr] at ht;rw[<-ht,List.take_append_drop];exact hg
theorem xMv.xCz {w:World} {base:Nat} {v:Value} {l:List Nat} (h:xMv w base v l) {p:Addr} (u:Value) (hne:v.ownBlock≠some p.block):xMv (w.setCell p u) base v l:=by
 refine⟨h.1,?_⟩;rcases h.2 with hn|⟨g,cap,cur,h1,h2,h3,h4⟩
 ·exact .inl hn
 ·exact .inr ⟨g,cap,cur,h1,h2,yA h3 (λe=>hne (by rw[h1,<-e];rfl)) u,h4⟩
theorem yLf:(prog.info? 3).map (λi=>(i.zero,i.size,i.bytes))=some (some (.int .i64 0),1,8):=κ
theorem yKj (z:Int):∀v∈[Value.int .i64 z],v.oneCell'=true:=by simp[Value.oneCell']
abbrev polO (tv fv:Value):Obj:=.cells #[tv,fv] 151
def FreeM (W:World) (lo hi:Nat) (fv:Value) (h:List Nat) (gp gt:Nat):Prop:=
 (h=[]/\∃A c,fv=.slice A 0 c)∨∃g c rest,fv=.slice (some (θ g 0)) h.length c/\h.length<=c/\jI W g h rest/\lo<=g/\g<hi/\g≠gp/\g≠gt
def xBm (W:World) (lo hi gp n:Nat) (h:List Nat):Prop:=
 ∃gt fv bs,lo<=gp/\gp<hi/\lo<=gt/\gt<hi/\gp≠gt/\W.heap[gp]?=some (polO (.slice (some (θ gt 0)) n n) fv)/\W.heap[gt]?=some (.cells ((bs:List Bool).map Value.bool).toArray 4 (0,0))/\bs.length=n/\FreeM W lo hi fv h gp gt/\(∀x∈h,x<n)/\h.length<=n/\n<=256
theorem xBm.kept {W W':World} {lo hi gp n:Nat} {h:List Nat} (hp:xBm W lo hi gp n h) (hk:∀(k:Nat) o,W.heap[k]?=some o->lo<=k->k<hi->W'.heap[k]?=some o):xBm W' lo hi gp n h:=by
 obtain⟨gt,fv,bs,h1,h1',h2,h2',h3,h4,h5,h6,h7,h8⟩:=hp;refine⟨gt,fv,bs,h1,h1',h2,h2',h3,hk _ _ h4 h1 h1',hk _ _ h5 h2 h2',h6,?_,h8⟩;rcases h7 with h7|⟨g,c,rest,k1,k2,k3,k4,k4',k5⟩
 ·exact .inl h7
 ·exact .inr ⟨g,c,rest,k1,k2,hk _ _ k3 k4 k4',k4,k4',k5⟩
theorem xBm.below {W W':World} {lo hi gp n:Nat} {h:List Nat} (hp:xBm W lo hi gp n h) (hb:ψ W W'):xBm W' lo hi gp n h:=hp.kept λ_ _ hk _ _=>xC hk hb (xH hk)
theorem xBm.tn {P:Nat->Prop} {W W':World} {lo hi gp n:Nat} {h:List Nat} (hp:xBm W lo hi gp n h) (ht:Tn P W W') (hP:∀k,lo<=k->k<hi->¬P k):xBm W' lo hi gp n h:=hp.kept λk _ hk h1 h2=>ht.blk hk (hP k h1 h2)
structure NwM (w:World) (n:Nat) (tk:List Bool) (fv:Value) (fl:List Nat) (W:World):Prop where
 tb:W.heap[w.heap.size]?=some (.cells (tk.map Value.bool).toArray 4 (0,0))
 pl:W.heap[w.heap.size+1]?=some (polO (.slice (some (θ w.heap.size 0)) n n) fv)
 own:xMv W w.heap.size fv fl
 ne0:fv.ownBlock≠some w.heap.size
 ne1:fv.ownBlock≠some (w.heap.size+1)
 bel:ψ w W
theorem NwM.put {w:World} {n:Nat} {tk:List Bool} {fv:Value} {fl:List Nat} {W:World} (h:NwM w n tk fv fl W) (i:Nat):NwM w n (tk.set i true) fv fl (W.setCell (θ w.heap.size i) (.bool true)):=
 ⟨by have:=yD h.tb i (.bool true);rw[this];simp[Gb],yA h.pl (p:=θ w.heap.size i) σ _,h.own.xCz (p:=θ w.heap.size i) _ h.ne0,h.ne0,h.ne1,h.bel.setCell (p:=θ w.heap.size i) ν _⟩
theorem NwM.push {w:World} {n:Nat} {tk:List Bool} {fv fv':Value} {fl:List Nat} {W W':World} {o:Obj} {x:Nat} (h:NwM w n tk fv fl W) (hown:W'.ownsRow w.heap.size 3 1 fv' (fl.length+1) (xRu fl++[.int .i64 (x:Int)])) (hg:(W.alloc o).grownBy W' fv.ownBlock) (hloc:fv'.ownBlock=fv.ownBlock∨fv'.ownBlock=some (W.heap.size+1)):
  NwM w n tk fv' (fl++[x]) (W'.setCell (θ (w.heap.size+1) 1) fv'):=by
 have hw:=xH h.pl;have t1:=rC (xN h.tb o) hg (En h.ne0);have t2:=rC (xN h.pl o) hg (En h.ne1);have n0:fv'.ownBlock≠some w.heap.size:=by rcases hloc with e|e<;>rw[e];exact h.ne0;simp;omega
 have n1:fv'.ownBlock≠some (w.heap.size+1):=by rcases hloc with e|e<;>rw[e];exact h.ne1;simp;omega
 have b1:ψ w W':=(h.bel.alloc h.bel.size o).grown hg (by simp;omega) (λk hk=>(Di h.own.row k hk).1);refine⟨yA t1 (p:=(θ (w.heap.size+1) 1)) σ _,?_,(xMv.of hown).xCz (p:=(θ (w.heap.size+1) 1)) _ n1,n0,n1,b1.setCell (p:=(θ (w.heap.size+1) 1)) σ _⟩;have:=yD t2 1 fv'
 simpa using this
theorem NwM.pool {w:World} {n:Nat} {tk:List Bool} {fv:Value} {fl:List Nat} {W:World} (h:NwM w n tk fv fl W) (hl:tk.length=n) (hx:∀x∈fl,x<n) (hf:fl.length<=n) (hn:n<=256) (hne:fl=[]):xBm W w.heap.size W.heap.size (w.heap.size+1) n []:=by
 subst hne;refine⟨w.heap.size,fv,tk,ω,xH h.pl,Bd _,xH h.tb,ω,h.pl,h.tb,hl,.inl ⟨rfl,?_⟩,σ,σ,hn⟩;obtain⟨A,c,e,_⟩:=h.own.form;exact⟨A,c,e⟩
theorem xWi (n:Nat) (tk:List Nat) (tv:Value) (w:World) (hn:n<=256) (ht:RdN w w.heap.size tv tk) (hlt:∀x∈tk,x<n) (htl:tk.length<=1000000):
  Calls prog 31 #[.int .i64 n,tv] w λe w'=>∃gp,e=.returned (.pointer (some (θ gp 0)))/\xBm w' w.heap.size w'.heap.size gp n (xBh n tk)/\ψ w w':=by
 obtain⟨A,c,rfl,hc,hr⟩:=ht;have h0:¬((n:Int)<0):=ω;have h1:¬(256<(n:Int)):=ω;have hmk:=madeB w n ω
 have HI0:Hid (NwM w n (tkB n []) (.slice none 0 0) [] ((w.alloc (.cells (noB n) 4)).alloc (polO (.slice (some (θ w.heap.size 0)) n n) (.slice none 0 0)))):=ι (by
  refine⟨?_,zI _ _ _,xMv.nil _ _,by simp[Value.ownBlock],by simp[Value.ownBlock],(φ w _).alloc σ _⟩;have:=zM w (.cells (noB n) 4) (polO (.slice (some (θ w.heap.size 0)) n n) (.slice none 0 0));rw[this,yJv];simp[noB])
 have HR:=ι hr;have HL:=ι hlt;have HN:=ι hn;clear hr hlt;go_enter func31,ntmps31;go_wp2_with fail
 clear hmk;generalize (w.alloc (.cells (noB n) 4)).alloc (polO (.slice (some (θ w.heap.size 0)) n n) (.slice none 0 0))=w1 at HI0
 go_loopw [22] (λiv wr=>∃k:Nat,k<=tk.length/\iv=.int .i64 k/\Hid (NwM w n (tkB n (tk.take k)) (.slice none 0 0) [] wr)) (λiv _=>tk.length- (intOf iv).toNat)
 case atStart=>exact⟨0,Bc _,rfl,HI0⟩
 case round=>
  obtain⟨k,hk,rfl,HI⟩:=hrel;clear HI0
  by_cases hlt:k<tk.length
  ·obtain⟨x,hx⟩:∃x,tk[k]?=some x:=⟨_,Af hlt⟩;obtain⟨b,off,rfl,hb,hcell⟩:=HR.o ω;have q:=(HI.o.bel.cell (p:=(θ b (off+k))) hb).trans (hcell k x hx);have hxn:=HL.o x (Bb hx);have hx0:¬((x:Int)<0):=ω;have hx1:(x:Int)<(n:Int):=ω
   have hs:=yFj (n:=n) hx;have HI2:=ι (HI.o.put x);rw[<-hs] at HI2;have c0:=xA HI.o.pl 0
   have c1:wr.cell? (θ w.heap.size x)=some (.bool ((tk.take k).contains x)):=by
    rw[xA HI.o.tb,Dv,Cg,xN4 hxn];rfl
   have f1:=xG HI.o.tb x;generalize (tk.take k).contains x=bx at c1;simp only[gA,gC] at c0;clear hcell hx hs HI hxn;go_wp2;exact⟨⟨k+1,ω,by go_num,HI2⟩,by simp[intOf];omega⟩
  ·obtain rfl:k=tk.length:=ω;rw[Cf] at HI;have c0:=xR9 HI.o.pl;clear HR hlt;go_wp2_with fail
   clear c0;obtain⟨i0,hi,hz0,hz1,hz2⟩:=jL yLf
   go_loopw [45] (λiv wx=>∃(k:Nat) (fv:Value),k<=n/\iv=.int .i64 k/\Hid (NwM w n (tkB n tk) fv (frL tk k) wx)) (λiv _=>n- (intOf iv).toNat)
   case atStart=>exact⟨0,_,Bc _,rfl,HI⟩
   case round=>
    obtain⟨k,fv,hk,rfl,HJ⟩:=hrel;clear HI
    by_cases hlt:k<n
    ·have c1:wr.cell? (θ w.heap.size k)=some (.bool (tk.contains k)):=by
      rw[xA HJ.o.tb,Dv,Cg,xN4 hlt];rfl
     have HS:=ι (yHj tk k);cases hb:tk.contains k with
     |true=>
      rw[hb] at c1 HS;rw[Ah rfl] at HS;clear hb;go_wp2;exact⟨⟨k+1,fv,ω,by go_num,by rw[HS.o];exact HJ⟩,by simp[intOf];omega⟩
     |false=>
      rw[hb] at c1 HS;rw[Ag σ] at HS;have hfl:=yDb tk k;have c0:=xA HJ.o.pl 1;have f0:=xG (xN HJ.o.pl (.cells #[.int .i64 (k:Int)] 3)) 1;simp only[gA,gB,gC] at c0;clear hb;generalize frL tk k=fl at HJ HS hfl
      go_wp2_with (at_builtin;refine Fw _ rfl _ _ 149 rfl w.heap.size 3 i0 (.int .i64 0) 1 8 underlying149 hi hz0 hz1 hz2 rfl δ _ _ _ rfl (HJ.o.own.alloc _) (θ wr.heap.size 0) 1 1 [.int .i64 (k:Int)] rfl rfl (cell_one_new _ _ _) (yKj _) δ (by unfold maxLen;omega) ω (by have:=HJ.o.bel.size;simp;omega) (wr.heap.size+1) σ ?_;intro g cap w5 hown hgrow hat hlt5;have HK:=ι (HJ.o.push hown hgrow (loc_of hat));have hb5:=rC (xN HJ.o.pl (.cells #[.int .i64 (k:Int)] 3)) hgrow (En HJ.o.ne1);have y1:=xG hb5 1;have y2:=xA hb5 1;simp only[gA,gB,gC] at y2;clear hown hgrow hat hb5)
      exact⟨⟨k+1,_,ω,by go_num,by rw[HS.o];exact HK⟩,by simp[intOf];omega⟩
    ·obtain rfl:k=n:=ω;have HLN:Hid (∀x∈frL tk k,x<k):=ι (λx hx=>frL_lt hx);have hfl:=yDb tk k;have HFE:=ι (yHh k tk);generalize frL tk k=fl at HJ HLN hfl HFE;have c0:=xA HJ.o.pl 1;simp only[gA,gB,gC] at c0;clear hlt
     rcases HJ.o.own.row_of with ⟨rfl,rfl⟩|⟨g,cc,rest,rfl,hcc,hrow,hbg⟩
     ·have HP:=ι (HJ.o.pool (xGj _ _) σ σ HN.o rfl);go_wp2_with fail
      refine(yH9 _ _ _ wr c0).mono ?_;rintro e w6 ⟨rfl,rfl⟩;go_wp2;go_ret;refine⟨_,rfl,?_,HJ.o.bel⟩;rw[HFE.o];exact HP.o
     ·have hdw:DwI wr (w.heap.size+1) g fl.length cc fl rest wr:=⟨hrow,c0,rfl,Tn.refl _ _,xH HJ.o.pl,λe=>HJ.o.ne1 (by rw[e];rfl)⟩;have HD:=ι (yHa (w.heap.size+1) g fl.length cc fl rest wr hdw ω)
      have HF:Hid (g≠w.heap.size/\g≠w.heap.size+1/\w.heap.size<=g/\fl.length<=cc):=ι ⟨λe=>HJ.o.ne0 (by rw[e];rfl),λe=>HJ.o.ne1 (by rw[e];rfl),hbg,hcc⟩;clear hdw hrow hbg hcc;go_wp2_with fail
      refine HD.o.mono ?_;rintro e w6 ⟨rfl,hd⟩;have H6:=ι hd;clear hd HD;go_wp2;go_ret;obtain⟨f1,f2,f3,f4⟩:=HF.o;have hd:=H6.o;have hpm:=xE8 fl;have hs6:=hd.tn.size;have hs7:=xH HJ.o.pl
      refine⟨_,rfl,⟨w.heap.size,_,tkB k tk,ω,ω,Bd _,ω,ω,?_,?_,xGj _ _,.inr ⟨g,cc,rest,rfl,?_,?_,f3,xH hd.row.blk,f2,f1⟩,?_,?_,HN.o⟩,?_⟩
      ·exact(hd.tn.block _ (xH HJ.o.pl) (En f2)).trans (by have:=HJ.o.pl;rw[this,HFE.o,hpm.length_eq])
      ·exact(hd.tn.block _ (xH HJ.o.tb) (En f1)).trans HJ.o.tb
      ·rw[HFE.o,hpm.length_eq];exact f4
      ·rw[HFE.o];exact hd.row
      ·rw[HFE.o];exact λx hx=>HLN.o x (hpm.mem_iff.1 hx)
      ·rw[HFE.o,hpm.length_eq];exact hfl
      ·exact HJ.o.bel.trans (hd.tn.below (λq hq=>by rw[hq];exact f3) HJ.o.bel.size)
theorem xFi (lo hi gp n:Nat) (w:World) (hp:xBm w lo hi gp n []):
  Calls prog 83 #[.pointer (some (θ gp 0))] w λe w'=>e=.returned (.tuple #[.int .i64 0,.bool false])/\w'=w:=by
 obtain⟨gt,fv,bs,h1,h1',h2,h2',h3,h4,h5,h6,h7,h8,h9,h10⟩:=hp
 have hf:∃A c,fv=.slice A 0 c:=by
  rcases h7 with ⟨_,h⟩|⟨g,c,rest,h,_⟩
  ·exact h
  ·exact⟨_,_,h⟩
 obtain⟨A,c,rfl⟩:=hf;have c1:=xA h4 1;simp only[gA,gB,gC] at c1;clear h1 h2 h3 h4 h5 h6 h7 h8 h9 h10 h1' h2';go_enter func83,ntmps83;go_wp2;go_ret2;exact⟨rfl,rfl⟩
theorem xI1 (lo hi gp n x:Nat) (h:List Nat) (w:World) (hp:xBm w lo hi gp n (x::h)):
  Calls prog 83 #[.pointer (some (θ gp 0))] w λe w'=>e=.returned (.tuple #[.int .i64 x,.bool true])/\xBm w' lo hi gp n (xAb (x::h))/\Tn (λk=>lo<=k/\k<hi) w w':=by
 obtain⟨gt,fv,bs,h1,h1',h2,h2',h3,h4,h5,h6,h7,h8,h9,h10⟩:=hp;rcases h7 with ⟨h7,_⟩|⟨g,c,rest,rfl,k2,k3,k4,k4',k5,k6⟩
 ·cases h7
 have c1:=xA h4 1;simp only[gA,gB,gC] at c1;have hx:=h8 x (Cx ..);have hp0:=ι (yHe gp g h.length c (x::h) rest w ⟨k3,c1,rfl,Tn.refl _ _,xH h4,λe=>k5 e.symm⟩ (xG h4 1) k2 (by simp at h9;omega));have hpl:=xSr (h:=x::h) σ;have hpp:=xI3 (h:=x::h) σ
 have H:=ι (Ai h4 h5);have HM:Hid ((xAb (x::h)).length=h.length/\(∀y∈xAb (x::h),y<n)):=ι ⟨by simpa using hpl,λy hy=>h8 y (hpp.mem_iff.1 (Dm _ hy))⟩
 have HX:Hid (lo<=gp/\gp<hi/\lo<=gt/\gt<hi/\gp≠gt/\bs.length=n/\lo<=g/\g<hi/\g≠gp/\g≠gt/\h.length<=c/\h.length<=n/\n<=256):=ι ⟨h1,h1',h2,h2',h3,h6,k4,k4',k5,k6,by simp at k2;omega,by simp at h9;omega,h10⟩;have hnz:¬((h.length:Int)+1=0):=ω
 have hnz2:((h.length:Int)+1==0)=false:=by simpa using hnz
 have hxn:(x:Int)<(n:Int):=ω;clear h1 h2 h3 h4 h5 h6 h8 h9 h10 h1' h2' k2 k3 k4 k4' k5 k6 hpl hpp hx;go_enter func83,ntmps83;go_wp2_with fail
 refine hp0.o.mono ?_;rintro e w1 ⟨rfl,W,rest',rfl,ht,hrow⟩;obtain⟨x1,x2,x3,x4,x5,x6,x7,x8,x9,x10,x11,x12,x13⟩:=HX.o;have q1:=ht.blk H.o.1 (λe=>x9 e.symm);have q2:=ht.blk H.o.2 (λe=>x10 e.symm);have q3:=yD q1 1 (.slice (some (θ g 0)) h.length c)
 simp only[Ba,Bh,Cm] at q3;have q4:=yA q2 (p:=θ gp 1) (λe=>x5 e.symm) (.slice (some (θ g 0)) h.length c);have q5:=jI.far hrow (p:=θ gp 1) x9 (.slice (some (θ g 0)) h.length c)
 have t1:Tn (λk=>lo<=k/\k<hi) w (W.setCell (θ gp 1) (.slice (some (θ g 0)) h.length c)):=(ht.more (λk hk=>by subst hk;exact⟨x7,x8⟩)).set (p:=θ gp 1) (.inl ⟨x1,x2⟩) _;have HK:=ι (Ai q3 (Ai q4 (Ai q5 t1)))
 clear q1 q2 q3 q4 q5 t1 ht hrow H hp0 c1 x1 x2 x3 x4 x5 x7 x8 x9 x10 x11 x12 x13;generalize W.setCell (θ gp 1) (.slice (some (θ g 0)) h.length c)=w2 at HK⊢;have c0:=xA HK.o.1 0
 have c2:∃b,w2.cell? (θ gt x)=some (.bool b):=by
  rw[xA HK.o.2.1,Dv,Cg,Af ω];exact⟨_,rfl⟩
 obtain⟨b,c2⟩:=c2;have f2:=xG HK.o.2.1 x;simp only[gA,gC] at c0;clear x6;have hta:∀w,(Instr.typeAssert (.iface 3 (.int .i64 (x:Int))) 20 3 true).run prog w=.ok (.tuple #[.int .i64 (x:Int),.bool true]) w:=λ_=>by kernel_rfl
 go_wp2;go_ret2;obtain⟨x1,x2,x3,x4,x5,x6,x7,x8,x9,x10,x11,x12,x13⟩:=HX.o
 refine⟨rfl,⟨gt,_,bs.set x true,x1,x2,x3,x4,x5,yA HK.o.1 (p:=θ gt x) x5 _,?_,by simpa using x6,.inr ⟨g,c,rest',by rw[HM.o.1],by rw[HM.o.1];exact x11,jI.far HK.o.2.2.1 (p:=θ gt x) x10 _,x7,x8,x9,x10⟩,HM.o.2,by rw[HM.o.1];exact x12,x13⟩,HK.o.2.2.2.set (p:=θ gt x) (.inl ⟨x3,x4⟩) _⟩
 have:=yD HK.o.2.1 x (.bool true);rw[this];simp[Gb]
end Go.Proofs.AL
namespace Mailsack
theorem xX1 {l:List Slot} {k c:Nat} {t:Slot} (h:l[k]?=some t):uJ (l.take (k+1)) c=uJ (l.take k) c++(if (t.used&&t.cls==c)=true then[t.blk] else[]):=by
 unfold uJ;rw[Cc,h,List.filter_append,Da];cases hq:(t.used&&t.cls==c) with
 |true=>simp[hq]
 |false=>simp[hq]
theorem xPe (l:List Slot) (c k:Nat):(uJ (l.take k) c).length<=k:=by
 unfold uJ;rw[Bw];have h1:=Ev (λt:Slot=>t.used&&t.cls==c) (l.take k);have h2:=Ei k l;omega
end Mailsack
namespace Go.Proofs.ST
open Go.RowKit Mailsack MM BB SH SV RK DS AL
abbrev natF (n:Nat):List Value:=[.int .i64 (n:Int)]
theorem xNp (n:Nat):(natF n).length=1:=rfl
theorem yGr (x:Nat):∀u∈natF x,u.oneCell'=true:=by
 intro u hu;rw[Bu.1 hu];rfl
theorem xVj:(prog.info? 3).map (λi=>(i.zero,i.size,i.bytes))=some (some (.int .i64 0),1,8):=κ
theorem tyNat:yEr prog 25 3 1 8 natF:=by
 obtain⟨i,hi,hz,hs,hb⟩:=jL xVj;exact⟨underlying25,⟨i,_,hi,hz,hs,hb,rfl⟩,ω,ω,xNp,yGr⟩
theorem rdN_of {w:World} {B:Nat} {v:Value} {l:List Nat} (h:RdR 1 natF w B v l):RdN w B v l:=by
 obtain⟨A,c,h1,h2,h3⟩:=h;refine⟨A,c,h1,h2,λhn=>?_⟩;obtain⟨b,off,h4,h5,h6⟩:=h3 hn;refine⟨b,off,h4,h5,λj x hx=>?_⟩;have:=h6 j x hx 0 _ rfl;rw[Gr,Db] at this;exact this
structure TkS (w:World) (gs gl:Nat) (l:List Slot) (v:Value) (T:List Nat) (W:World):Prop where
 st:W.cell? (θ gs 0)=some (.slice (some (θ gl 0)) 32 32)
 sl:rG 137 rW W gl l
 own:xW 3 1 natF W w.heap.size v T
 bel:ψ w W
theorem xX2 {w W W':World} {gs gl:Nat} {l:List Slot} {v:Value} {T:List Nat} (h:TkS w gs gl l v T W) (hgs:gs<w.heap.size) (hb:ψ W W'):TkS w gs gl l v T W':=
 ⟨(hb.cell (p:=θ gs 0) (Bt hgs h.bel.size)).trans h.st,h.sl.below hb,h.own.below hb,bT h.bel hb⟩
theorem xPf (gs gl c:Nat) (l:List Slot) (w:World) (h1:w.cell? (θ gs 0)=some (.slice (some (θ gl 0)) 32 32)) (h2:rG 137 rW w gl l) (hl:l.length=32) (hgs:gs<w.heap.size):
  Calls prog 33 #[.pointer (some (θ gs 0)),.int .i64 c] w λe w'=>∃v,e=.returned v/\RdN w' w'.heap.size v (uJ l c)/\ψ w w':=by
 have H0:Hid (TkS w gs gl l (.slice none 0 0) (uJ (l.take 0) c) w):=ι ⟨h1,h2,xW.nil _ _,Aq _ _⟩;have HL:=ι (Ai hl hgs);clear h2 hl hgs;go_enter func33,ntmps33;go_wp2_with fail
 clear h1
 go_loopw [5,13] (λtv iv wr=>∃k:Nat,k<=32/\iv=.int .i64 k/\Hid (TkS w gs gl l tv (uJ (l.take k) c) wr)) (λ_ iv _=>32- (intOf iv).toNat)
 case atStart=>exact⟨0,Bc _,rfl,H0⟩
 case round=>
  obtain⟨k,hk,rfl,HI⟩:=hrel;clear H0
  by_cases hlt:k<32
  ·obtain⟨x,hx⟩:∃x,l[k]?=some x:=⟨_,Af (by have:=HL.o.1;omega)⟩;have q0:=HI.o.sl.cell zZ (i:=0) hx rfl;have q1:=HI.o.sl.cell zZ (i:=1) hx rfl;have q2:=HI.o.sl.cell zZ (i:=2) hx rfl;have q3:=HI.o.sl.cell zZ (i:=3) hx rfl
   have q4:=HI.o.sl.cell zZ (i:=4) hx rfl;rw[Db] at q0;have HS:=ι (xX1 (c:=c) hx);have HTL:=ι (xPe l c k);have HA:=ι (xX2 HI.o HL.o.2 ((Aq _ _).alloc ν (kQ x)));have hbx:=xJ wr (kQ x);obtain⟨x0,x1,x2,x3,x4⟩:=xZe hbx;have hbx2:=ι hbx
   generalize uJ (l.take k) c=T at HI HS HTL HA;clear hx hbx HI;go_upto_region 5 with fail
   clear q0 q1 q2 q3 q4;obtain⟨xu,xc,xb,xs,xn⟩:=x;simp only at HS HA x0 x1 x2 x3 x4 hbx2;generalize wr.alloc (.cells #[.bool xu,.int .i64 xc,.int .i64 xb,.int .i64 xs,xR xn] 137)=w2 at HA x0 x1 x2 x3 x4 hbx2⊢
   by_cases hu:xu=true/\xc=c
   ·obtain⟨rfl,rfl⟩:=hu;rw[Ah σ] at HS;go_upto_region 6 with fail
    have hsz:=HA.o.bel.size
    have HAD:Hid (∀v8 w8,xA5 3 1 natF (w2.alloc (.cells #[.int .i64 (xb:Int)] 3)) w8 w.heap.size u5 v8 (T++[xb])->Hid (TkS w gs gl l v8 (uJ (l.take (k+1)) xc) w8)):=ι λv8 w8 h8=>ι (by
     have hlo:=HL.o.2;have h9:=xN HA.o.sl.blk (.cells #[.int .i64 (xb:Int)] 3);refine⟨?_,h8.keep h9 (xW.neT (HA.o.own.alloc _) h9 δ),by rw[HS.o];exact h8.own,h8.bel (HA.o.own.alloc _) ν (HA.o.bel.alloc HA.o.bel.size _) (by simp;omega)⟩
     rw[(h8.bel (HA.o.own.alloc _) ν ((Aq w.heap.size w2).alloc hsz _) (by simp;omega)).cell (p:=θ gs 0) hlo];exact HA.o.st)
    go_wp2_with (at_builtin;refine uG tyNat rfl _ _ rfl rfl rfl (HA.o.own.alloc _) (RdR.lit (m:=[xb]) xNp _ _ rfl) (by have:=HTL.o;simp;omega) (by simp;omega) ?_;intro v8 w8 h8;have HA8:=HAD.o _ _ h8;clear h8)
    exact⟨⟨k+1,ω,by go_num,HA8⟩,by simp[intOf];omega⟩
   ·have hf:(xu&&xc==c)=false:=by
     cases hq:(xu&&xc==c) with
     |false=>rfl
     |true=>simp at hq;exact absurd hq hu
    rw[hf,Ag σ,Dw] at HS;have HA9:Hid (TkS w gs gl l u5 (uJ (l.take (k+1)) c) w2):=ι (by rw[HS.o];exact HA.o);cases xu with
    |false=>
     clear hu hf;go_wp2;exact⟨⟨k+1,ω,by go_num,HA9⟩,by simp[intOf];omega⟩
    |true=>
     have hc:¬((xc:Int)=(c:Int)):=by
      intro e;exact hu ⟨rfl,ω⟩
     have hc2:((xc:Int)==(c:Int))=false:=by simpa using hc
     clear hu hf;go_wp2;exact⟨⟨k+1,ω,by go_num,HA9⟩,by simp[intOf];omega⟩
  ·obtain rfl:k=32:=ω;have HE:Hid (uJ (l.take 32) c=uJ l c):=ι (by rw[Ce (by rw[HL.o.1];omega)]);rw[HE.o] at HI;go_wp2;go_ret;exact⟨_,rfl,rdN_of (HI.o.own.rd xNp),HI.o.bel⟩
end Go.Proofs.ST
namespace Mailsack
theorem yBy {d:Dk} {x:Bs} (h:x∈xAg d):x.length<=24:=by
 obtain⟨t,h1,h2,rfl⟩:=yBx h;obtain⟨i,hi⟩:=List.mem_iff_getElem?.1 h1;rw[jM] at hi;split at hi
 ·obtain⟨s,_,rfl⟩:=Df.1 hi;rcases xKd s with e|⟨_,h3⟩
  ·rw[e] at h2;cases h2
  ·exact h3.n2
 ·cases hi
theorem xSq (s p:Bs):Go.Lib.hasPrefix s p=decide (s.take p.length=p):=by
 unfold Go.Lib.hasPrefix;rw[Bool.eq_iff_iff,List.isPrefixOf_iff_prefix,Be,List.prefix_iff_eq_take];exact⟨λh=>h.symm,λh=>h.symm⟩
theorem xPz {l:List Bs} {k:Nat} {x:Bs} (h:l[k]?=some x) (hd:Bs):(l.take (k+1)).flatMap (numberOf hd)=(l.take k).flatMap (numberOf hd)++numberOf hd x:=by
 rw[Cc,h,List.flatMap_append];simp
theorem xGr (hd:Bs):∀(l:List Bs),(l.flatMap (numberOf hd)).length<=l.length
 |[]=>Bd _
 |x::l=>by
  have ih:=xGr hd l
  have:(numberOf hd x).length<=1:=by
   unfold numberOf;split
   ·split<;>simp
   ·simp
  rw[Cz,Aj,Bl];omega
theorem xSx (d:Dk):(xAg d).length<=1000:=by
 unfold xAg;split
 ·have h1:(Go.Lib.compact (jZ (usedNames (yG (xY d).secs)))).length<=(jZ (usedNames (yG (xY d).secs))).length:=by
   unfold Go.Lib.compact Go.Lib.compactUpTo;rw[Bw];have:=Ev (Go.Lib.keeps (jZ (usedNames (yG (xY d).secs))).toArray) (List.range (jZ (usedNames (yG (xY d).secs))).length);simpa using this
  have h2:(jZ (usedNames (yG (xY d).secs))).length=(usedNames (yG (xY d).secs)).length:=by unfold jZ;exact Gw _
  have h3:(usedNames (yG (xY d).secs)).length<=32:=by
   unfold usedNames;rw[Bw];have:=Ev (λt:Slot=>t.used) (yG (xY d).secs);have h4:(yG (xY d).secs).length<=32:=by unfold yG;simp;omega
   omega
  omega
 ·simp
end Mailsack
namespace Go.Proofs.VA
open Go.RowKit Go.Lib Mailsack MM BB SH SV RK DS Go.Proofs.ST
abbrev xQg (z:Int):List Value:=[.int .i64 z]
theorem xO3 (z:Int):(xQg z).length=1:=rfl
theorem yH8 (x:Int):∀u∈xQg x,u.oneCell'=true:=by
 intro u hu;rw[Bu.1 hu];rfl
theorem tyInt:yEr prog 25 3 1 8 xQg:=by
 obtain⟨i,hi,hz,hs,hb⟩:=jL xVj;exact⟨underlying25,⟨i,_,hi,hz,hs,hb,rfl⟩,ω,ω,xO3,yH8⟩
theorem yAs {w:World} {base:Nat} {v:Value} {xs:List Int} (h:xW 3 1 xQg w base v xs) (hl:xs.length<=1000000):
  Calls prog 57 #[v] w λe w'=>e=.returned (.tuple #[])/\Below base w w'/\RdR 1 xQg w' w'.heap.size v (xEu xs):=by
 have hls:(xEu xs).length=xs.length:=by unfold xEu;exact Gw _
 rcases h.2 with ⟨hv,hn⟩|⟨g,cap,cur,h1,hb,hg,hnc,_,_,htake⟩
 ·have:xs=[]:=Cs hn;subst this;subst hv;refine(Tryz.slices_Sort_int_none none 0 w).mono ?_;rintro e w' ⟨rfl,rfl⟩;exact⟨rfl,Aq _ _,none,0,by simp[xEu],by simp[xEu],λh=>by simp[xEu] at h⟩
 ·subst h1
  have hH:Sort.Holds (Value.int .i64) w g 0 xs.toArray:=λj hj=>⟨by
   have hj2:j<xs.length:=by simpa using hj
   have:=Eh h.row (g:=g) rfl (j*1+0) (.int .i64 (xs.toArray[j]!)) (flat_get xO3 xs j 0 xs[j] _ (Af hj2) (by rw[Gd xs.toArray j (by simpa using hj2)];rfl))
   have hadd:(⟨g,0,none⟩:Addr).add (j*1+0)=⟨g,0+j,none⟩:=by unfold Addr.add;split<;>simp_all
   rw[hadd] at this;exact this,xG hg _⟩
  refine(Tryz.slices_Sort_int g 0 cap xs w hH (xH hg) ω).mono ?_;rintro e w' ⟨rfl,n,os,rfl⟩
  have hH2:=Sort.holds_grow (Value.int .i64) _ os g 0 (xEu xs).toArray (by simpa using xH hg) (Sort.holds_putRow (Value.int .i64) (Sort.ahead w n) g 0 xs.toArray (xEu xs).toArray (Sort.holds_ahead _ _ n _ _ _ hH) (by simpa using hls))
  refine⟨rfl,xKk (Aq _ _) hb (xH hg),_,cap,by rw[hls],by rw[hls];exact hnc,λ_=>⟨g,0,rfl,by have:=xH hg;simp;omega,λj x hx i u hu=>?_⟩⟩;have hi:=(Ar.1 hu).1;obtain rfl:i=0:=by simp at hi;omega
  obtain⟨hj,rfl⟩:=Ar.1 hx;have:=(hH2 j (by simpa using hj)).1;rw[show 0+j*1+0=0+j by omega];refine this.trans ?_;rw[Gd (xEu xs).toArray j (by simpa using hj)];simpa using hu
def FarV (B:Nat) (v:Value):Prop:=∀a n c,v=.slice (some a) n c->B<=a.block
theorem xJh (va vb:Value) (d:Dk) (kd us:ByteArray) (w:World) (h:RdD w w.heap.size va vb d) (hk:kd.size<=100) (hu:us.size<=1000000):
  Calls prog 16 #[.agg #[va,vb],.string kd,.string us] w λe w'=>∃v,e=.returned v/\RdR 1 xQg w' w'.heap.size v (wM d kd.data.toList us.data.toList)/\ψ w w'/\FarV w.heap.size v:=by
 obtain⟨A1,c1,A2,c2,rfl,rfl⟩:=yC h;have HA:=ι (φ w (yI (.slice A1 d.secs.length c1) (.slice A2 d.cache.length c2)));have hD0:=xJ w (yI (.slice A1 d.secs.length c1) (.slice A2 d.cache.length c2));obtain⟨d0,d1⟩:=uQ hD0;clear hD0
 have HNM:=ι (yBz _ _ d _ ((h.below HA.o ν).more HA.o.size));have HNP:Hid (wM d kd.data.toList us.data.toList=xEu ((xAg d).flatMap (numberOf (xHm kd.data.toList us.data.toList)))):=ι rfl;have HNL:=ι (λx (hx:x∈xAg d)=>yBy hx);have HNC:=ι (xSx d)
 obtain⟨np,hnp⟩:=eX (wM d kd.data.toList us.data.toList);rw[hnp] at HNP⊢;obtain⟨hp,hhp⟩:=eX (kd++⟨#[47]⟩++us++⟨#[47]⟩)
 have HHP:Hid (xHm kd.data.toList us.data.toList=hp.data.toList):=ι (by
  rw[<-hhp];simp[xHm,slash,Eu])
 rw[HHP.o] at HNP;have n1:¬(9223372036854775807<kd.size+1):=ω;have n2:¬(9223372036854775807<(kd++⟨#[47]⟩).size+us.size):=by rw[Aw];show ¬(_<kd.size+1+us.size);omega
 have n3:¬(9223372036854775807<(kd++⟨#[47]⟩++us).size+1):=by rw[Aw,Aw];show ¬(_<kd.size+1+us.size+1);omega
 have n4:¬(9223372036854775807<kd.size+1+us.size+1):=ω;generalize xAg d=names at HNM HNP HNL HNC;have HHQ:=ι hhp;clear h hk hu hnp hhp HHP;go_enter func16,ntmps16;go_wp2_with fail
 refine HNM.o.mono ?_;rintro e w1 ⟨v1,rfl,hr1,hb1⟩;have HB1:=ι (bT HA.o hb1);have HR1:=ι hr1;obtain⟨A5,c5,rfl,hc5,hcell⟩:=hr1;have HCL:=ι hcell;clear hb1 hcell hc5 HNM HA d0 d1;go_wp2_with fail
 go_loopw [7,17] (λtv iv wr=>∃k:Nat,k<=names.length/\iv=.int .i64 k/\Hid (xW 3 1 xQg wr w1.heap.size tv ((names.take k).flatMap (numberOf hp.data.toList))/\ψ w1 wr)) (λ_ iv _=>names.length- (intOf iv).toNat)
 case atStart=>exact⟨0,Bc _,rfl,ι ⟨xW.nil _ _,Aq _ _⟩⟩
 case round=>
  obtain⟨k,hk,rfl,HI⟩:=hrel;have hnc:names.length<=1000:=HNC.o
  by_cases hlt:k<names.length
  ·obtain⟨x,hx⟩:∃x,names[k]?=some x:=⟨_,Af hlt⟩;obtain⟨b,off,rfl,hbw,hcs⟩:=HCL.o ω;have q:=(HI.o.2.cell (p:=(θ b (off+k))) hbw).trans (hcs k x hx);have HXL:Hid (x.length<=24):=ι (HNL.o x (Bb hx));have HST:=ι (xPz hx hp.data.toList)
   have HNO:Hid (numberOf hp.data.toList x=if x.take hp.data.toList.length=hp.data.toList then(if rO (x.drop hp.data.toList.length)=true then[(numOf (x.drop hp.data.toList.length):Int)] else[]) else[]):=ι rfl;have HCP:=ι (λW=>Tryz.strings_CutPrefix ⟨x.toArray⟩ hp W)
   rw[show(⟨x.toArray⟩:ByteArray).data.toList=x from rfl] at HCP;have HTR:Hid (trimPrefix x hp.data.toList=if hasPrefix x hp.data.toList=true then x.drop hp.data.toList.length else x):=ι rfl;have HPT:=ι (xSq x hp.data.toList)
   have HTL:Hid (((names.take k).flatMap (numberOf hp.data.toList)).length<=1000):=ι (by have:=xGr hp.data.toList (names.take k);have:=Ei k names;omega);generalize trimPrefix x hp.data.toList=tp at HCP HTR;cases hpf:hasPrefix x hp.data.toList with
   |false=>
    rw[hpf] at HCP HTR HPT;have hne:¬(x.take hp.data.toList.length=hp.data.toList):=of_decide_eq_false HPT.o.symm;rw[Ag hne] at HNO;rw[HNO.o,Dw] at HST;clear hcs hx hpf hne HNO HPT;rw[<-HHQ.o] at HCP
    have HI2:Hid (xW 3 1 xQg wr w1.heap.size u7 ((names.take (k+1)).flatMap (numberOf hp.data.toList))/\ψ w1 wr):=ι (by rw[HST.o];exact HI.o);clear HI HST HTL HTR HXL HNL;go_wp2_with fail
    refine cM (HCP.o _) λw3 hw3=>?_;rw[hw3];clear hw3 w3 q;go_wp2;exact⟨⟨k+1,ω,by go_num,HI2⟩,by simp[intOf];omega⟩
   |true=>
    rw[hpf] at HCP HTR HPT;have hye:x.take hp.data.toList.length=hp.data.toList:=Ej HPT.o.symm;rw[Ah hye] at HNO;rw[Ah rfl] at HTR;rw[<-HTR.o] at HNO;have HPA:=ι (λW=>yBi tp W (by rw[HTR.o,Eb];have:=HXL.o;omega));rw[<-HHQ.o] at HCP
    clear hcs hx hpf hye HPT HTR HXL HNL;go_wp2_with fail
    refine cM (HCP.o _) λw3 hw3=>?_;rw[hw3];clear hw3 w3 q HCP;go_wp2_with fail
    refine(HPA.o _).mono ?_;rintro e w3 ⟨z,rfl,hz,hw3⟩;rw[hw3];clear hw3 w3 HPA;cases hpo:rO tp with
    |false=>
     rw[hpo,Ag σ] at HNO;rw[HNO.o,Dw] at HST;have HI2:Hid (xW 3 1 xQg wr w1.heap.size u7 ((names.take (k+1)).flatMap (numberOf hp.data.toList))/\ψ w1 wr):=ι (by rw[HST.o];exact HI.o);clear hz hpo HI HNO HST HTL;go_wp2
     exact⟨⟨k+1,ω,by go_num,HI2⟩,by simp[intOf];omega⟩
    |true=>
     have hz2:=hz hpo;rw[hpo,Ah rfl,<-hz2] at HNO;rw[HNO.o] at HST;have HO:=ι HI.o;generalize (names.take k).flatMap (numberOf hp.data.toList)=T at HO HST HTL
     have HAD:Hid (∀v8 w8,xA5 3 1 xQg (wr.alloc (.cells #[.int .i64 z] 3)) w8 w1.heap.size u7 v8 (T++[z])->Hid (xW 3 1 xQg w8 w1.heap.size v8 ((names.take (k+1)).flatMap (numberOf hp.data.toList))/\ψ w1 w8)):=ι λv8 w8 h8=>ι ⟨by rw[HST.o];exact h8.own,h8.bel (HO.o.1.alloc _) ν (HO.o.2.alloc HO.o.2.size _) (by have:=HO.o.2.size;simp;omega)⟩
     clear hz hz2 hpo HI HNO;go_wp2_with (at_builtin;refine uG tyInt rfl _ _ rfl rfl rfl (HO.o.1.alloc _) (RdR.lit (m:=[z]) xO3 _ _ rfl) (by have:=HTL.o;simp;omega) (by have:=HO.o.2.size;simp;omega) ?_;intro v8 w8 h8;have HA8:=HAD.o _ _ h8;clear h8)
     exact⟨⟨k+1,ω,by go_num,HA8⟩,by simp[intOf];omega⟩
  ·obtain rfl:k=names.length:=ω;rw[Cf] at HI;have HUL:Hid ((names.flatMap (numberOf hp.data.toList)).length<=1000):=ι (by have:=xGr hp.data.toList names;omega);generalize names.flatMap (numberOf hp.data.toList)=ns at HI HNP HUL
   have HSS:=ι (yAs HI.o.1 (by have:=HUL.o;omega));have HBI:=ι HI.o.2;obtain⟨A6,c6,hu7,_⟩:=HI.o.1.form;subst hu7
   have HFV:Hid (FarV w.heap.size (.slice A6 ns.length c6)):=ι λa n c e=>by
    injection e with e1 _ _;subst e1;have:=(Di HI.o.1.row a.block rfl).1;exact Bg HB1.o.size this
   clear HI hlt hk;go_wp2_with fail
   refine HSS.o.mono ?_;rintro e w4 ⟨rfl,hb4,hr4⟩;have H4:=ι (Ai hr4 (HB1.o.trans ((HBI.o.trans hb4).mono HB1.o.size)));clear hb4 hr4 HSS HBI;go_wp2;go_ret;exact⟨_,rfl,by rw[HNP.o];exact H4.o.1,H4.o.2,HFV.o⟩
theorem xEy (va vb:Value) (d:Dk) (kd us:ByteArray) (w:World) (h:RdD w w.heap.size va vb d) (hk:kd.size<=100) (hu:us.size<=1000000):
  Calls prog 16 #[.agg #[va,vb],.string kd,.string us] w λe w'=>∃v,e=.returned v/\RdR 1 xQg w' w'.heap.size v (wM d kd.data.toList us.data.toList)/\ψ w w':=by
 refine(xJh va vb d kd us w h hk hu).mono ?_;rintro e w' ⟨v,h1,h2,h3,_⟩;exact⟨v,h1,h2,h3⟩
end Go.Proofs.VA
namespace Mailsack
def xDa (n:Nat) (l:List Int):List Bool:=l.foldl (λm k=>if 0<=k/\k<(n:Int) then m.set k.toNat true else m) (List.replicate n false)
def rA (d:Dk) (l:List Int):Dk:=if yP d=true then⟨kD (λi=>(xDa d.cache.length l).getD i false) d.cache d.secs d.cache.length,[]⟩ else d
theorem xY2 {l:List Int} {k:Nat} {z:Int} (n:Nat) (h:l[k]?=some z):xDa n (l.take (k+1))=if 0<=z/\z<(n:Int) then(xDa n (l.take k)).set z.toNat true else xDa n (l.take k):=by
 unfold xDa;rw[Cc,h,Gc]
 rfl
theorem xQd (n:Nat) (l:List Int):(xDa n l).length=n:=by
 unfold xDa
 suffices H:∀(l:List Int) (m:List Bool),m.length=n->(l.foldl (λm k=>if 0<=k/\k<(n:Int) then m.set k.toNat true else m) m).length=n from H l _ σ
 intro l
 induction l with
 |nil=>intro m h;exact h
 |cons k l ih=>
  intro m h;rw[List.foldl_cons];apply ih;split
  ·rw[Bf,h]
  ·exact h
end Mailsack
namespace Go.Proofs.DS
open Go.RowKit Mailsack MM BB SH SV RK Go.Proofs.VA
def kB (l:List Bool):Array Value:=(l.map Value.bool).toArray
theorem yBp (i n kb g:Nat) (m:List Bool) (w:World) (hi:i<n) (hm:m.length=n) (h0:w.heap[kb]?=some (.cells #[.slice (some (θ g 0)) n n] 110)) (h1:w.heap[g]?=some (.cells (kB m) 4)):
  Calls prog 46 #[.int .i64 (i:Int),.pointer (some (θ kb 0))] w (pv (.bool (m.getD i false)) w):=by
 have k0:=xA h0 0;have k1:=xA h1 i
 have hk:(kB m)[i]?=some (.bool (m.getD i false)):=by
  unfold kB;rw[Dv,Cg,Aa,Af ω]
  rfl
 rw[hk] at k1;simp only[gA,gC] at k0;generalize m.getD i false=b at k1⊢;clear h0 h1 hk hm;go_enter func46,ntmps46;go_wp2;go_ret;exact⟨rfl,Aq _ _⟩
structure CrK (w:World) (n:Nat) (m:List Bool) (b:Nat) (d1 d2:Obj) (W:World):Prop where
 m:W.heap[b]?=some (.cells (kB m) 4)
 p:W.heap[b+1]?=some (.cells #[.slice (some (θ b 0)) n n] 110)
 d:W.heap[w.heap.size]?=some d1
 o:W.heap[w.heap.size+1]?=some d2
 bel:ψ w W
theorem xYj (va vb kv:Value) (d:Dk) (l:List Int) (w:World) (h:RdD w w.heap.size va vb d) (hk:RdR 1 xQg w w.heap.size kv l) (hr:yP d=true) (hll:l.length<=100000):
  Calls prog 11 #[.agg #[va,vb],kv] w λe w'=>∃va' vb',e=.returned (.agg #[va',vb'])/\RdD w' w'.heap.size va' vb' (rA d l)/\ψ w w':=by
 obtain⟨A1,c1,rfl,_,_⟩:=h.s;obtain⟨A2,c2,rfl,_,_⟩:=h.c;have t0:=zM w (yI (.slice A1 d.secs.length c1) (.slice A2 d.cache.length c2)) (yI (.slice none 0 0) (.slice none 0 0))
 have t1:=zI w (yI (.slice A1 d.secs.length c1) (.slice A2 d.cache.length c2)) (yI (.slice none 0 0) (.slice none 0 0));have HB0:=ι ((φ w (yI (.slice A1 d.secs.length c1) (.slice A2 d.cache.length c2))).alloc σ (yI (.slice none 0 0) (.slice none 0 0)));have HD:=ι h
 have HRT:=ι (λW (hb:ψ w W)=>qX _ _ d W ((h.below hb ν).more hb.size));have HT0:=ι t0;have HT1:=ι t1;have k0:=xA t0 0;have k1:=xA t0 1;have HR:=ι hr;have hlc:=h.lc
 have HF:Hid (rA d l=⟨kD (λi=>(xDa d.cache.length l).getD i false) d.cache d.secs d.cache.length,[]⟩):=ι (by unfold rA;rw[Ah hr]);obtain⟨A5,c5,rfl,hc5,hcl⟩:=id hk;have HCL:=ι hcl;have HKR:=ι hk;clear hk hcl;rw[hr] at HRT;clear h t0 t1 hr;go_enter func11,ntmps11
 go_wp2_with fail
 refine cM (HRT.o _ HB0.o) λw1 hb1=>?_;have HB1:=ι (bT HB0.o hb1);have yMh:=ι (xC HT0.o hb1 (xH HT0.o));have xZ4:=ι (xC HT1.o hb1 (xH HT1.o));clear HT0 HT1 HB0 hb1 k0 k1 HRT;have k1:=xA yMh.o 1;have hmk:=λW=>madeB W d.cache.length ω
 have z0:=zM w1 (.cells (noB d.cache.length) 4) (.cells #[.slice (some (θ w1.heap.size 0)) d.cache.length d.cache.length] 110);have z1:=zI w1 (.cells (noB d.cache.length) 4) (.cells #[.slice (some (θ w1.heap.size 0)) d.cache.length d.cache.length] 110);have HZ0:=ι z0
 have HZ1:=ι z1;have HB2:=ι ((HB1.o.alloc HB1.o.size (.cells (noB d.cache.length) 4)).alloc (by have:=HB1.o.size;simp;omega) (.cells #[.slice (some (θ w1.heap.size 0)) d.cache.length d.cache.length] 110))
 have HW0:=ι (xN (xN yMh.o (.cells (noB d.cache.length) 4)) (.cells #[.slice (some (θ w1.heap.size 0)) d.cache.length d.cache.length] 110))
 have HW1:=ι (xN (xN xZ4.o (.cells (noB d.cache.length) 4)) (.cells #[.slice (some (θ w1.heap.size 0)) d.cache.length d.cache.length] 110));have HS1:Hid (w.heap.size+2<=w1.heap.size):=ι (by have:=xH xZ4.o;omega);clear z0 z1 yMh xZ4 HB1;go_wp2_with fail
 go_loopw [18] (λiv wr=>∃k:Nat,k<=l.length/\iv=.int .i64 k/\Hid (CrK w d.cache.length (xDa d.cache.length (l.take k)) w1.heap.size (yI (.slice A1 d.secs.length c1) (.slice A2 d.cache.length c2)) (yI (.slice none 0 0) (.slice none 0 0)) wr)) (λiv _=>l.length- (intOf iv).toNat)
 case atStart=>exact⟨0,Bc _,rfl,ι ⟨by
  have:=HZ0.o;rw[show kB (xDa d.cache.length (l.take 0))=noB d.cache.length from by simp[xDa,kB,noB]];exact this,HZ1.o,HW0.o,HW1.o,HB2.o⟩⟩
 case round=>
  obtain⟨k,hkl,rfl,HI⟩:=hrel;clear HZ0 HZ1 HW0 HW1 HB2 hmk k1;have hl2:=HI.o.p;have p0:=xR9 hl2;clear hl2
  by_cases hlt:k<l.length
  ·obtain⟨z,hz⟩:∃z,l[k]?=some z:=⟨_,Af hlt⟩;obtain⟨b5,off,rfl,hbw,hcs⟩:=HCL.o ω;have q:=(HI.o.bel.cell (p:=(θ b5 (off+k))) hbw).trans (by have:=hcs k z hz 0 (.int .i64 z) rfl;simpa using this);have HST:=ι (xY2 d.cache.length hz)
   have HML:=ι (xQd d.cache.length (l.take k));clear hcs hz hbw HCL
   by_cases h0:0<=z
   ·by_cases h1:z<(d.cache.length:Int)
    ·obtain⟨a,rfl⟩:∃a:Nat,z=(a:Int):=⟨z.toNat,ω⟩;rw[Ah ⟨h0,h1⟩,Cn] at HST;have ha:a<d.cache.length:=ω;have c0:=xA HI.o.m a;have y0:=xG HI.o.m a
     have hm:∃b,(kB (xDa d.cache.length (l.take k)))[a]?=some (.bool b):=by
      unfold kB;rw[Dv,Cg,Af (by rw[HML.o];exact ha)];exact⟨_,rfl⟩
     obtain⟨b0,hm⟩:=hm;rw[hm] at c0
     have HI2:Hid (CrK w d.cache.length (xDa d.cache.length (l.take (k+1))) w1.heap.size (yI (.slice A1 d.secs.length c1) (.slice A2 d.cache.length c2)) (yI (.slice none 0 0) (.slice none 0 0)) (wr.setCell (θ w1.heap.size a) (.bool true))):=ι (by
      have hsz:=xH HI.o.o;have hne:w.heap.size+1<w1.heap.size:=by have:=HS1.o;omega
      refine⟨?_,yA HI.o.p (by show _≠w1.heap.size;omega) _,yA HI.o.d (by show _≠w1.heap.size;omega) _,yA HI.o.o (by show _≠w1.heap.size;omega) _,HI.o.bel.setCell (by show w.heap.size<=w1.heap.size;omega) _⟩;have e:=yD HI.o.m a (.bool true);rw[HST.o];unfold kB at e⊢
      rw[Ba] at e;rw[Gb];exact e)
     clear HI HST HML hm;go_wp2;exact⟨⟨k+1,ω,by go_num,HI2⟩,by simp[intOf];omega⟩
    ·rw[Ag (λh=>h1 h.2)] at HST;rw[<-HST.o] at HI;clear HST HML;go_wp2;exact⟨⟨k+1,ω,by go_num,HI⟩,by simp[intOf];omega⟩
   ·rw[Ag (λh=>h0 h.1)] at HST;rw[<-HST.o] at HI;clear HST HML;go_wp2;exact⟨⟨k+1,ω,by go_num,HI⟩,by simp[intOf];omega⟩
  ·obtain rfl:k=l.length:=ω;rw[Cf] at HI
   have HPF:=ι (xJd _ _ d 46 #[.pointer (some (θ (w1.heap.size+1) 0))] (λi=>(xDa d.cache.length l).getD i false) wr ((HD.o.below HI.o.bel ν).more HI.o.bel.size) HR.o (λargs W=>enters_of func46 κ rfl args W) (λi W hi hb=>yBp i d.cache.length (w1.heap.size+1) w1.heap.size (xDa d.cache.length l) W hi (xQd _ _) (xC HI.o.p hb (xH HI.o.p)) (xC HI.o.m hb (xH HI.o.m))))
   obtain⟨k0,k1⟩:=uQ HI.o.d;go_wp2_with fail
   refine HPF.o.mono ?_;rintro e w2 ⟨g,rfl,hs,hg,hb2⟩;have HT2:=ι (xC HI.o.o hb2 (xH HI.o.o));have HS2:=ι hs;have HB3:=ι (bT HI.o.bel hb2);have hgw:w.heap.size+1<g:=by have:=xH HI.o.o;omega
   have HLS:=ι HD.o.ls;clear HPF hs hg hb2 HI k0 k1 HD HR p0 hlt hkl;have j0:=xA HT2.o 0;have j1:=xA HT2.o 1;have y0:=xG HT2.o 0;have y1:=xG HT2.o 1;simp only[gA,gB,gC] at j0 j1;have hB:=yD (yD HT2.o 0 (.slice (some (θ g 0)) d.secs.length d.secs.length)) 1 (.slice none 0 0)
   have f0:=xA hB 0;have f1:=xA hB 1;simp only[Ba,Bh,Cm,gA,gC,gB] at f0 f1;clear hB;go_wp2
   refine Ak (v:=.agg #[.slice (some (θ g 0)) d.secs.length d.secs.length,.slice none 0 0]) (by simp[results,results11,go_sem,f0,f1]) rfl ?_
   have hb:=(HB3.o.setCell (p:=(θ (w.heap.size+1) 0)) σ (.slice (some (θ g 0)) d.secs.length d.secs.length)).setCell (p:=(θ (w.heap.size+1) 1)) σ (.slice none 0 0)
   have hs2:=(HS2.o.far (p:=(θ (w.heap.size+1) 0)) (by simp;omega) (.slice (some (θ g 0)) d.secs.length d.secs.length)).far (p:=(θ (w.heap.size+1) 1)) (by simp;omega) (.slice none 0 0);refine⟨_,_,rfl,?_,hb⟩;rw[HF.o]
   have hpl:=xAv (λi=>(xDa d.cache.length l).getD i false) d.cache d.secs d.cache.length;refine⟨?_,RdW.xJj _ _,?_,σ⟩
   ·have:=hs2.rd d.secs.length ω;rw[hpl] at this;exact this.more hs2.lt
   ·show(kD _ _ _ _).length<=_;rw[hpl];exact HLS.o
end Go.Proofs.DS
namespace Mailsack
def le4 (b:Bs):Int:=(bN b 0:Int)+256*bN b 1+65536*bN b 2+16777216*bN b 3
def xVx (S:List Bs) (i:Nat):Wr:=⟨le4 (S.getD (1+2*i) []),S.getD (2+2*i) []⟩
def xHv (S:List Bs) (i:Nat):Bool:=decide (61<=(xVx S i).at_)&&decide ((xVx S i).at_<S.length)&&(S.getD (1+2*i) []==wN (xVx S i).at_)
def xYd (S:List Bs):Nat:=bN (S.getD 0 []) 1
def xDc (S:List Bs):Bool:=decide (1<=xYd S)&&decide (xYd S<=30)&&(S.getD 0 []==wE (xYd S) ((S.drop 1).take (2*xYd S)).flatten)
def jH (S:List Bs):Option (List Wr):=if xDc S=true/\(List.range (xYd S)).all (xHv S)=true then some ((List.range (xYd S)).map (xVx S)) else none
def xA7 (d:Dk):List Op:=
 if qO d=true then
  (if bN ((xY d).secs.getD 0 []) 0=74 then(match jH (xY d).secs with|some l=>l.map oW++[fOp]|none=>[])++[wOp 0 (xO 64),fOp] else[])
 else[]
def xPt (d:Dk):Dk:=vJ d (xA7 d)
theorem xPw (f:Nat->Bool) (C:List Wr) (S:List Bs):∀k,k<=C.length->∃C':List Wr,C'.Sublist (C.take k)/\kD f C S k=xZ S C'
 |0,_=>⟨[],List.nil_sublist _,rfl⟩
 |k+1,h=>by
  obtain⟨C',h1,h2⟩:=xPw f C S k ω;have e:C.take (k+1)=C.take k++[C[k]]:=by rw[Cc,Af ω];rfl
  rw[e];unfold kD;split
  ·refine⟨C'++[C[k]],h1.append (List.Sublist.refl _),?_⟩;rw[h2,qK];show _=uH _ _;rw[wrD,Aa,Af ω]
   rfl
  ·exact⟨C',h1.trans (List.sublist_append_left _ _),h2⟩
theorem xDn {d:Dk} (h:yP d=true) (l:List Int):∃C':List Wr,C'.Sublist d.cache/\rA d l=⟨xZ d.secs C',[]⟩:=by
 obtain⟨C',h1,h2⟩:=xPw (λi=>(xDa d.cache.length l).getD i false) d.cache d.secs d.cache.length ν;rw[Cf] at h1;exact⟨C',h1,by unfold rA;rw[Ah h,h2]⟩
theorem tY {S:List Bs} {C:List Wr} (h:yP ⟨S,[]⟩=true) (hC:∀x∈C,x.data.length=64):yP ⟨xZ S C,[]⟩=true:=by
 rw[kU] at h⊢;obtain⟨h1,h2,h3,_⟩:=h;exact⟨by rw[uT];exact h1,by rw[uT];exact h2,xKp _ _ h3 hC,σ⟩
theorem yCk:∀(l:List Wr) (k:Nat) (x:Wr),x∈jW k l->1+2*(k:Int)<=x.at_
 |[],_,_,h=>by simp[jW] at h
 |y::l,k,x,h=>by
  simp only[jW,De] at h;rcases h with rfl|rfl|h
  ·exact Int.le_refl _
  ·show 1+2*(k:Int)<=2+2*(k:Int);omega
  ·have:=yCk l (k+1) x h;omega
theorem yIw:∀(l:List Wr) (k:Nat) (S:List Bs),2*(k+l.length)<S.length->∀(i:Nat) (x:Wr),l[i]?=some x->(xZ S (jW k l))[1+2*(k+i)]?=some (wN x.at_)/\(xZ S (jW k l))[2+2*(k+i)]?=some x.data
 |[],_,_,_,_,_,h=>by simp at h
 |y::l,k,S,hS,i,x,h=>by
  simp only[Bl] at hS;show(xZ (uH (uH S ⟨1+2*(k:Int),wN y.at_⟩) ⟨2+2*(k:Int),y.data⟩) (jW (k+1) l))[_]?=_/\(xZ (uH (uH S ⟨1+2*(k:Int),wN y.at_⟩) ⟨2+2*(k:Int),y.data⟩) (jW (k+1) l))[_]?=_;have e1:((1+2*(k:Int))).toNat=1+2*k:=ω;have e2:((2+2*(k:Int))).toNat=2+2*k:=ω
  cases i with
  |zero=>
   simp only[List.getElem?_cons_zero,Ez] at h;subst h;rw[vK _ _ _ (λz hz=>by have:=yCk l (k+1) z hz;omega),vK _ _ _ (λz hz=>by have:=yCk l (k+1) z hz;omega)];unfold uH;simp only[e1,e2,Db]
   constructor
   ·rw[Eo ω,Cw ω]
   ·rw[Cw (by rw[Bf];omega)]
  |succ i=>
   simp only[List.getElem?_cons_succ] at h;have:=yIw l (k+1) (uH (uH S ⟨1+2*(k:Int),wN y.at_⟩) ⟨2+2*(k:Int),y.data⟩) (by simp only[uH,Bf];omega) i x h;rw[show k+(i+1)=k+1+i by omega];exact this
theorem xUq:∀(l:List Wr) (k:Nat) (X:List Bs),(∀(i:Nat) (x:Wr),l[i]?=some x->X[1+2*(k+i)]?=some (wN x.at_)/\X[2+2*(k+i)]?=some x.data)->((X.drop (1+2*k)).take (2*l.length)).flatten=jD l
 |[],_,_,_=>by simp[jD]
 |y::l,k,X,h=>by
  obtain⟨a,b⟩:=h 0 y rfl;rw[Db] at a b;obtain⟨a1,a2⟩:=Ar.1 a;obtain⟨b1,b2⟩:=Ar.1 b
  have ih:=xUq l (k+1) X (λi x hx=>by
   have:=h (i+1) x hx;rw[show k+(i+1)=k+1+i by omega] at this;exact this)
  have e:X.drop (1+2*k)=wN y.at_::y.data::X.drop (1+2*(k+1)):=by
   rw[Dj a1,a2,show 1+2*k+1=2+2*k by omega,Dj b1,b2,show 2+2*k+1=1+2*(k+1) by omega]
  rw[e,Bl,show 2*(l.length+1)=2*l.length+1+1 by omega,Hy,Hy,Fb,Fb,ih];simp[jD,xVw]
theorem yH2 {a:Int} (h0:0<=a) (h1:a<4294967296):le4 (wN a)=a:=by
 have e0:(bN (wN a) 0:Int)=a % 256:=wW a;have e1:(bN (wN a) 1:Int)=a / 256 % 256:=wW _;have e2:(bN (wN a) 2:Int)=a / 65536 % 256:=wW _;have e3:(bN (wN a) 3:Int)=a / 16777216 % 256:=wW _;unfold le4;rw[e0,e1,e2,e3];omega
structure yEs (S:List Bs) (l:List Wr) (X:List Bs):Prop where
 len:X.length=S.length
 r:yP ⟨X,[]⟩=true
 h:X[0]?=some (wE l.length (jD l))
 j:∀(i:Nat) (x:Wr),l[i]?=some x->X[1+2*i]?=some (wN x.at_)/\X[2+2*i]?=some x.data
 o:∀i,61<=i->(∀x∈l,x.at_.toNat≠i)->X[i]?=S[i]?
theorem yEs.write {S X:List Bs} {l C:List Wr} (h:yEs S l X) (hC:∀x∈C,x∈l) (hl:∀x∈l,61<=x.at_/\x.data.length=64) (h30:l.length<=30):yEs S l (xZ X C):=by
 have hn:∀i,i<=60->(xZ X C)[i]?=X[i]?:=λi hi=>vK _ _ _ (λx hx=>by have:=(hl x (hC x hx)).1;omega);refine⟨by rw[uT];exact h.len,tY h.r (λx hx=>(hl x (hC x hx)).2),by rw[hn 0 ω];exact h.h,λi x hx=>?_,λi hi ha=>?_⟩
 ·have hlt:=(Ar.1 hx).1;rw[hn _ ω,hn _ ω];exact h.j i x hx
 ·rw[vK _ _ _ (λx hx=>ha x (hC x hx))];exact h.o i hi ha
theorem xKn:∀(C:List Wr) (A B:List Bs) (i:Nat),A.length=B.length->(∃x∈C,x.at_.toNat=i)->(xZ A C)[i]?=(xZ B C)[i]?
 |[],_,_,_,_,h=>by obtain⟨_,h,_⟩:=h;simp at h
 |y::C,A,B,i,hl,h=>by
  show(xZ (uH A y) C)[i]?=(xZ (uH B y) C)[i]?
  by_cases hy:y.at_.toNat=i
  ·refine xBc C _ _ i (by simp[uH,hl]) ?_;unfold uH;rw[Co,Co,Ah hy,Ah hy,hl]
  ·refine xKn C _ _ i (by simp[uH,hl]) ?_;obtain⟨x,hx,e⟩:=h;rcases De.1 hx with rfl|hx
   ·exact absurd e hy
   ·exact⟨x,hx,e⟩
theorem yEs.last {S X:List Bs} {l:List Wr} (h:yEs S l X) {i:Nat} (hi:61<=i):(xZ X l)[i]?=(xZ S l)[i]?:=by
 by_cases hc:∃x∈l,x.at_.toNat=i
 ·exact xKn l X S i h.len hc
 ·have hc2:∀x∈l,x.at_.toNat≠i:=λx hx e=>hc ⟨x,hx,e⟩;exact xBc l X S i h.len (h.o i hi hc2)
theorem yEs.ents {S X:List Bs} {l:List Wr} (h:yEs S l X) (hl:∀x∈l,61<=x.at_/\x.at_<S.length/\x.data.length=64) (h30:l.length<=30) (h1:1<=l.length):jH X=some l:=by
 have hS:S.length<=1024:=by have:=(kU.1 h.r).2.1;rw[<-h.len];exact this
 have g0:X.getD 0 []=wE l.length (jD l):=by rw[Aa,h.h];rfl
 have gn:xYd X=l.length:=by
  unfold xYd;rw[g0];have:((oct (l.length:Int)).toNat:Int)=(l.length:Int) % 256:=wW _;have e:bN (wE l.length (jD l)) 1=(oct (l.length:Int)).toNat:=rfl;omega
 have gp:((X.drop 1).take (2*l.length)).flatten=jD l:=xUq l 0 X (λi x hx=>by simpa using h.j i x hx)
 have ge:∀(i:Nat) (x:Wr),l[i]?=some x->xVx X i=x/\xHv X i=true:=λi x hx=>by
  obtain⟨q1,q2⟩:=h.j i x hx;obtain⟨p1,p2,_⟩:=hl x (Bb hx);have d1:X.getD (1+2*i) []=wN x.at_:=by rw[Aa,q1];rfl
  have d2:X.getD (2+2*i) []=x.data:=by rw[Aa,q2];rfl
  have e:xVx X i=x:=by
   unfold xVx;rw[d1,d2,yH2 ω ω]
  refine⟨e,?_⟩;unfold xHv;rw[e,d1,h.len];simp[p1,p2]
 unfold jH;rw[Ah]
 ·rw[gn]
  congr 1
  apply Dt;intro i;rw[Cg]
  by_cases hi:i<l.length
  ·rw[Fg hi];simp only[Fe];rw[Af hi,(ge i _ (Af hi)).1]
  ·rw[Bz (by simp;omega),Bz ω]
   rfl
 ·constructor
  ·unfold xDc;rw[gn,gp,g0];simp[h1,h30]
  ·rw[gn];refine Bv.2 (λi hi=>?_);have hi:=El.1 hi;exact(ge i _ (Af hi)).2
theorem xUp {X:List Bs} (h:bN (X.getD 0 []) 0≠74):xPt ⟨X,[]⟩=⟨X,[]⟩:=by
 unfold xPt xA7;rw[kJ rfl,Ag h];split<;>rfl
theorem yEs.mend {S X:List Bs} {l:List Wr} (h:yEs S l X) (hl:∀x∈l,61<=x.at_/\x.at_<S.length/\x.data.length=64) (h30:l.length<=30) (h1:1<=l.length) (hS:61<S.length):xPt ⟨X,[]⟩=⟨uH (xZ X l) ⟨0,xO 64⟩,[]⟩/\yP ⟨uH (xZ X l) ⟨0,xO 64⟩,[]⟩=true:=by
 have hs:qO ⟨X,[]⟩=true:=by
  unfold qO;rw[h.r];simp only[Bool.and_true,Be];rw[h.len];exact hS
 have g0:X.getD 0 []=wE l.length (jD l):=by rw[Aa,h.h];rfl
 have hm:bN (X.getD 0 []) 0=74:=by rw[g0];rfl
 have e:xA7 ⟨X,[]⟩=(l.map oW++[fOp])++([(⟨0,xO 64⟩:Wr)].map oW++[fOp]):=by
  unfold xA7;rw[Ah hs,kJ rfl,Ah hm];simp only;rw[h.ents hl h30 h1]
  rfl
 have f1:∀x∈l,wF x X.length=true:=λx hx=>by
  obtain⟨a1,a2,a3⟩:=hl x hx;exact pY.2 ⟨ω,by rw[h.len];exact a2,a3⟩
 obtain⟨r1,r2⟩:=kT l ⟨X,[]⟩ h.r f1;simp only[Es] at r1 r2
 have f2:∀x∈[(⟨0,xO 64⟩:Wr)],wF x (xZ X l).length=true:=λx hx=>by
  rw[Bu.1 hx,uT,h.len];exact pY.2 ⟨σ,by simp;omega,yR _⟩
 obtain⟨r3,r4⟩:=kT _ ⟨xZ X l,[]⟩ r2 f2;simp only[Es] at r3 r4;unfold xPt;rw[e,rJ,r1];exact⟨r3,r4⟩
theorem stage {C:List Wr} {T:List Bs} (h:yP ⟨T,[]⟩=true) (hC:∀x∈C,wF x T.length=true) (R:List Op) (m:Nat):
  (∃k,vJ ⟨T,[]⟩ ((C.map oW++[fOp]++R).take m)=⟨T,C.take k⟩)∨(∃m',vJ ⟨T,[]⟩ ((C.map oW++[fOp]++R).take m)=vJ ⟨xZ T C,[]⟩ (R.take m')):=by
 by_cases hm:m<=C.length
 ·refine .inl ⟨m,?_⟩;rw[Cy,List.take_append_of_le_length (by simpa using hm),<-List.map_take];have:=(xEv (C.take m) ⟨T,[]⟩ h (λx hx=>hC x (Dc hx))).1;simpa using this
 ·refine .inr ⟨m- (C.length+1),?_⟩;have hl:(C.map oW++[fOp]).length=C.length+1:=σ;rw[List.take_append,Ce (by rw[hl];omega),hl,rJ];have:=(kT C ⟨T,[]⟩ h hC).1;simp only[Es] at this;rw[this]
theorem xC7 {T:List Bs} {C:List Wr} (h:yP ⟨T,[]⟩=true) (hC:∀x∈C,wF x T.length=true):yP ⟨T,C⟩=true:=by
 rw[kU] at h⊢;exact⟨h.1,h.2.1,h.2.2.1,hC⟩
def yEw (S:List Bs) (l:List Wr) (X:List Bs):Prop:=
 (X.length=S.length/\yP ⟨X,[]⟩=true/\X[0]?=S[0]?/\∀i,61<=i->X[i]?=S[i]?)∨yEs S l X∨(X.length=S.length/\yP ⟨X,[]⟩=true/\X[0]?=some (xO 64)/\∀i,61<=i->X[i]?=(xZ S l)[i]?)
theorem yDc {S:List Bs} {l:List Wr} (h:vZ ⟨S,[]⟩ l=0) (m:Nat) (keep:List Int):∃X,rA (vJ ⟨S,[]⟩ ((zU l).take m)) keep=⟨X,[]⟩/\yEw S l X:=by
 obtain⟨h61,hr,h30,hall⟩:=xE4 h;simp only at h61 hall;have hj:=yCj l 0;have hn:=(kU.1 hr).2.1;simp only at hn;have hl:∀x∈l,61<=x.at_/\x.data.length=64:=λx hx=>⟨(hall x hx).1,(hall x hx).2.2⟩
 have e0:zU l=(jW 0 l).map oW++[fOp]++([(⟨0,wE l.length (jD l)⟩:Wr)].map oW++[fOp]++(l.map oW++[fOp]++([(⟨0,xO 64⟩:Wr)].map oW++[fOp]++[]))):=by
  unfold zU;rw[xT4];simp[oW,wOp]
 have j1:∀x∈jW 0 l,1<=x.at_/\x.at_<=60/\x.data.length=64:=λx hx=>by
  obtain⟨a1,a2,a3⟩:=hj x (λy hy=>(hall y hy).2.2) hx;exact⟨a1,ω,a3⟩
 have f1:∀x∈jW 0 l,wF x S.length=true:=λx hx=>by
  obtain⟨a1,a2,a3⟩:=j1 x hx;exact pY.2 ⟨ω,ω,a3⟩
 have pre:∀C:List Wr,(∀x∈C,x∈jW 0 l)->yEw S l (xZ S C):=λC hC=>.inl ⟨uT _ _,tY hr (λx hx=>(j1 x (hC x hx)).2.2),vK _ _ _ (λx hx=>by have:=(j1 x (hC x hx)).1;omega),λi hi=>vK _ _ _ (λx hx=>by have:=(j1 x (hC x hx));omega)⟩;rw[e0];rcases stage hr f1 _ m with ⟨k,q⟩|⟨m1,q⟩
 ·rw[q];obtain⟨C',c1,c2⟩:=xDn (xC7 hr (λx hx=>f1 x (Dc hx)):yP ⟨S,(jW 0 l).take k⟩=true) keep;exact⟨_,c2,pre C' (λx hx=>Dc (c1.subset hx))⟩
 rw[q];clear q;have r1:=tY hr (λx hx=>(j1 x hx).2.2);have l1:=uT (jW 0 l) S
 have f2:∀x∈[(⟨0,wE l.length (jD l)⟩:Wr)],wF x (xZ S (jW 0 l)).length=true:=λx hx=>by
  rw[Bu.1 hx,l1];exact pY.2 ⟨σ,by simp;omega,xJy _ _⟩
 have mid:yEs S l (xZ (xZ S (jW 0 l)) [(⟨0,wE l.length (jD l)⟩:Wr)]):=by
  have hd:∀i,1<=i->(xZ (xZ S (jW 0 l)) [(⟨0,wE l.length (jD l)⟩:Wr)])[i]?=(xZ S (jW 0 l))[i]?:=λi hi=>vK _ _ _ (λx hx=>by rw[Bu.1 hx];simp;omega);refine⟨by rw[uT,l1],tY r1 (λx hx=>by rw[Bu.1 hx];exact xJy _ _),?_,λi x hx=>?_,λi hi _=>?_⟩
  ·show(uH _ _)[0]?=_;unfold uH;exact Cw (by simp only[Int.toNat_zero];rw[l1];omega)
  ·rw[hd _ ω,hd _ ω];have:=yIw l 0 S ω i x hx;simpa using this
  ·rw[hd _ ω];exact vK _ _ _ (λx hx=>by have:=j1 x hx;omega)
 rcases stage r1 f2 _ m1 with ⟨k,q⟩|⟨m2,q⟩
 ·rw[q];obtain⟨C',c1,c2⟩:=xDn (xC7 r1 (λx hx=>f2 x (Dc hx)):yP ⟨xZ S (jW 0 l),[(⟨0,wE l.length (jD l)⟩:Wr)].take k⟩=true) keep;refine⟨_,c2,?_⟩;have c3:=c1.trans (List.take_sublist _ _);rcases List.sublist_cons_iff.1 c3 with c4|⟨r,rfl,c4⟩
  ·rw[Er c4];exact pre (jW 0 l) (λx hx=>hx)
  ·rw[Er c4];exact .inr (.inl mid)
 rw[q];clear q
 have f3:∀x∈l,wF x (xZ (xZ S (jW 0 l)) [(⟨0,wE l.length (jD l)⟩:Wr)]).length=true:=λx hx=>by
  obtain⟨a1,a2,a3⟩:=hall x hx;rw[uT,l1];exact pY.2 ⟨ω,a2,a3⟩
 rcases stage mid.r f3 _ m2 with ⟨k,q⟩|⟨m3,q⟩
 ·rw[q];obtain⟨C',c1,c2⟩:=xDn (xC7 mid.r (λx hx=>f3 x (Dc hx)):yP ⟨xZ (xZ S (jW 0 l)) [(⟨0,wE l.length (jD l)⟩:Wr)],l.take k⟩=true) keep;exact⟨_,c2,.inr (.inl (mid.write (λx hx=>Dc (c1.subset hx)) hl h30))⟩
 rw[q];clear q;have yIu:=mid.write (C:=l) (λx hx=>hx) hl h30
 have f4:∀x∈[(⟨0,xO 64⟩:Wr)],wF x (xZ (xZ (xZ S (jW 0 l)) [(⟨0,wE l.length (jD l)⟩:Wr)]) l).length=true:=λx hx=>by
  rw[Bu.1 hx,yIu.len];exact pY.2 ⟨σ,by simp;omega,yR _⟩
 have post:yEw S l (xZ (xZ (xZ (xZ S (jW 0 l)) [(⟨0,wE l.length (jD l)⟩:Wr)]) l) [(⟨0,xO 64⟩:Wr)]):=by
  refine .inr (.inr ⟨by rw[uT,yIu.len],tY yIu.r (λx hx=>by rw[Bu.1 hx];exact yR _),?_,λi hi=>?_⟩)
  ·show(uH _ _)[0]?=_;unfold uH;exact Cw (by simp only[Int.toNat_zero];rw[yIu.len];omega)
  ·rw[vK _ _ _ (λx hx=>by rw[Bu.1 hx];simp;omega)];exact mid.last hi
 rcases stage yIu.r f4 [] m3 with ⟨k,q⟩|⟨m4,q⟩
 ·rw[q];obtain⟨C',c1,c2⟩:=xDn (xC7 yIu.r (λx hx=>f4 x (Dc hx)):yP ⟨xZ (xZ (xZ S (jW 0 l)) [(⟨0,wE l.length (jD l)⟩:Wr)]) l,[(⟨0,xO 64⟩:Wr)].take k⟩=true) keep;refine⟨_,c2,?_⟩;have c3:=c1.trans (List.take_sublist _ _)
  rcases List.sublist_cons_iff.1 c3 with c4|⟨r,rfl,c4⟩
  ·rw[Er c4];exact .inr (.inl yIu)
  ·rw[Er c4];exact post
 ·rw[q];have hp:yP ⟨xZ (xZ (xZ (xZ S (jW 0 l)) [(⟨0,wE l.length (jD l)⟩:Wr)]) l) [(⟨0,xO 64⟩:Wr)],[]⟩=true:=tY yIu.r (λx hx=>by rw[Bu.1 hx];exact yR _);obtain⟨C',c1,c2⟩:=xDn hp keep;rw[Er c1] at c2;refine⟨_,?_,post⟩;rw[List.take_nil]
  exact c2
theorem xZx {S:List Bs} {l:List Wr} (h:vZ ⟨S,[]⟩ l=0) (h0:bN (S.getD 0 []) 0≠74) (m:Nat) (keep:List Int):
  ∃Y,xPt (rA (vJ ⟨S,[]⟩ ((zU l).take m)) keep)=⟨Y,[]⟩/\yP ⟨Y,[]⟩=true/\Y.length=S.length/\bN (Y.getD 0 []) 0≠74/\((∀i,61<=i->Y[i]?=S[i]?)∨∀i,61<=i->Y[i]?=(xZ S l)[i]?):=by
 obtain⟨X,e,hf⟩:=yDc h m keep;rw[e];obtain⟨h61,hr,h30,hall⟩:=xE4 h;simp only at h61 hall;have hz:bN (xO 64) 0≠74:=δ;rcases hf with ⟨a1,a2,a3,a4⟩|hm|⟨a1,a2,a3,a4⟩
 ·have g:bN (X.getD 0 []) 0≠74:=by rw[Aa,a3,<-Aa];exact h0
  exact⟨X,xUp g,a2,a1,g,.inl a4⟩
 ·have h1:1<=l.length:=by
   unfold vZ at h
   by_cases hh:qO ⟨S,[]⟩=false∨l.length=0
   ·rw[Ah hh] at h;omega
   ·have:¬l.length=0:=λe=>hh (.inr e);omega
  obtain⟨q1,q2⟩:=hm.mend hall h30 h1 h61;refine⟨_,q1,q2,by unfold uH;rw[Bf,uT,hm.len],?_,.inr (λi hi=>?_)⟩
  ·have:(uH (xZ X l) ⟨0,xO 64⟩)[0]?=some (xO 64):=by
    unfold uH;exact Cw (by simp only[Int.toNat_zero];rw[uT,hm.len];omega)
   rw[Aa,this];exact hz
  ·unfold uH;rw[Eo (by simp;omega)];exact hm.last hi
 ·have g:bN (X.getD 0 []) 0≠74:=by rw[Aa,a3];exact hz
  exact⟨X,xUp g,a2,a1,g,.inr a4⟩
theorem xOn {d:Dk} (h:Store d) {l:List Ch} (he:uY d l=0):Inv (zF (stS d) l).1 (xZ (xY d).secs (yX d l))/\(∀n,wT (zF (stS d) l).1.slots (xZ (xY d).secs (yX d l)) n=xF2 (vH d) l n)/\((yX d l).length≠0->vZ d (yX d l)=0):=by
 obtain⟨h1,h2⟩:=h.right;have he':=he;unfold uY at he;rw[Ah h.cont] at he
 have hc2:(zF (stS d) l).2=0:=by
  by_cases hx:(zF (stS d) l).2=0
  ·exact hx
  ·rw[Ag hx] at he;exact absurd he hx
 rw[Ah hc2] at he
 have h30:(zF (stS d) l).1.writes.length<=30:=by
  by_cases hx:30<(zF (stS d) l).1.writes.length
  ·rw[Ah hx] at he;omega
  ·omega
 obtain⟨W,w1,w2,w3,w4⟩:=xT9 l (stS d) _ h.inv hc2;have hw:yX d l=W:=by unfold yX;rw[Ah he',w1];rfl
 have hWl:W.length<=30:=by rw[w1] at h30;simpa[stS] using h30
 rw[hw];refine⟨w2,w3,λh0=>?_⟩;unfold vZ;rw[Ag,Ag,Ag ω]
 ·rw[h1];simp only[Bool.not_eq_false];exact Bv.2 w4
 ·unfold qO;rw[h1,h2];simp;exact λe=>h0 (by simp[e])
theorem yC9 {Y T:List Bs} (hr:yP ⟨Y,[]⟩=true) (hl:Y.length=381) (hu:xFa (yG T)) (hs:∀i,61<=i->Y[i]?=T[i]?):Store ⟨Y,[]⟩/\uZ ⟨Y,[]⟩=yG T/\∀n,vH ⟨Y,[]⟩ n=wT (yG T) T n:=by
 have hfl:xY ⟨Y,[]⟩=⟨Y,[]⟩:=kJ rfl
 have hsl:uZ ⟨Y,[]⟩=yG T:=by
  unfold uZ;rw[hfl];exact xCw hs
 refine⟨⟨?_,by rw[hsl];exact hu⟩,hsl,λn=>?_⟩
 ·unfold wX;simp only;rw[hl,hr]
  rfl
 ·unfold vH;rw[hsl,hfl];unfold wT;split
  ·rfl
  ·congr 1
   refine xCa (λi hi _=>hs i ?_);have:=xG5 (xCx (yG T) (wU (yG T) n)).cls (xCx (yG T) (wU (yG T) n)).blk;omega
structure Calm (d:Dk):Prop where
 store:Store d
 cache:d.cache=[]
 mark:bN (d.secs.getD 0 []) 0≠74
theorem xYi {d:Dk} (h:Calm d) {l:List Ch} (he:uY d l=0) (hne:(yX d l).length≠0) (m:Nat) (keep:List Int):
  Calm (xPt (rA (vJ d ((zU (yX d l)).take m)) keep))/\((uZ (xPt (rA (vJ d ((zU (yX d l)).take m)) keep))=uZ d/\∀n,vH (xPt (rA (vJ d ((zU (yX d l)).take m)) keep)) n=vH d n)∨(uZ (xPt (rA (vJ d ((zU (yX d l)).take m)) keep))=(zF (stS d) l).1.slots/\∀n,vH (xPt (rA (vJ d ((zU (yX d l)).take m)) keep)) n=xF2 (vH d) l n)):=by
 obtain⟨w2,w3,w4⟩:=xOn h.store he;obtain⟨h1,h2⟩:=h.store.right;obtain⟨S,C⟩:=d;obtain rfl:C=[]:=h.cache;have hfl:xY ⟨S,[]⟩=⟨S,[]⟩:=kJ rfl;rw[hfl] at w2 w3;simp only at h1 w2 w3;obtain⟨Y,e,y1,y2,y3,y4⟩:=xZx (w4 hne) h.mark m keep;rw[e];have hY:Y.length=381:=y2.trans h1
 rcases y4 with y4|y4
 ·have hu:xFa (yG S):=by have:=h.store.uniq;unfold uZ at this;rwa [hfl] at this
  obtain⟨q1,q0,q2⟩:=yC9 y1 hY hu y4;refine⟨⟨q1,rfl,y3⟩,.inl ⟨by rw[q0];unfold uZ;rw[hfl],λn=>?_⟩⟩;rw[q2];unfold vH uZ;rw[hfl]
 ·have hu:xFa (yG (xZ S (yX ⟨S,[]⟩ l))):=by rw[w2.slots];exact w2.uniq
  obtain⟨q1,q0,q2⟩:=yC9 y1 hY hu y4;refine⟨⟨q1,rfl,y3⟩,.inr ⟨by rw[q0,w2.slots],λn=>?_⟩⟩;rw[q2,<-w3 n,w2.slots]
theorem xKm {d:Dk} (h:Store d) {l:List Ch} (he:uY d l=0):uZ (vO d l)=(zF (stS d) l).1.slots:=by
 obtain⟨w2,_,w4⟩:=xOn h he;obtain⟨h1,h2⟩:=h.right;rw[<-w2.slots];unfold vO;rw[Ah he]
 by_cases h0:(yX d l).length=0
 ·rw[Ah h0,Cs h0];have hff:xY (xY d)=xY d:=kJ (by rw[xAx h2]);unfold uZ;rw[hff]
  rfl
 ·rw[Ag h0];obtain⟨S',c1,c2,c3,c4,c5⟩:=xH3 (w4 h0);rw[c1];unfold uZ;rw[kJ rfl];exact xCw c5
theorem xH6 {d:Dk} (h:Calm d) {l:List Ch} (he:uY d l=0):Calm (vO d l):=by
 obtain⟨a1,a2,a3⟩:=xGe h.store he;obtain⟨_,_,w4⟩:=xOn h.store he;obtain⟨h1,h2⟩:=h.store.right;refine⟨a2,?_,?_⟩
 all_goals
  unfold vO;rw[Ah he]
  by_cases h0:(yX d l).length=0
  ·rw[Ah h0,kJ h.cache]
   first|exact h.cache|exact h.mark
  ·rw[Ag h0];obtain⟨S',c1,c2,c3,c4,c5⟩:=xH3 (w4 h0)
   first
    |(rw[c1];done)
    |(rw[c1,Aa,c4];done)
    |(rw[c1,Aa,c4];decide)
def xAq (n:Int):Int:=if n<0∨700<n then 0 else if 2+n<=128 then 128 else if 2+n<=256 then 256 else if 2+n<=512 then 512 else 704
end Mailsack
namespace Go.Proofs.SE
open Go.RowKit Mailsack MM BB SH
structure yJ9 (w:World):Prop where
 t:∃t fr,w.heap[1]?=some (.cells #[.int .i64 128,.int .i64 256,.int .i64 512,.int .i64 704] t fr)
theorem yJ9.below {w w':World} {B:Nat} (h:yJ9 w) (hb:Below B w w') (hB:w.heap.size<=B):yJ9 w':=by
 obtain⟨t,fr,h1⟩:=h.t;exact⟨t,fr,xC h1 hb (Bt (xH h1) hB)⟩
theorem xKg (n:Int) (w:World) (hC:yJ9 w):
  Calls prog 125 #[.int .i64 n] w λe w'=>e=.returned (.int .i64 (xAq n))/\w'=w:=by
 by_cases h1:n<0
 ·have HR:Hid (xAq n=0):=ι (by unfold xAq;rw[Ah (.inl h1)]);rw[HR.o];go_enter func125,ntmps125;go_wp2;go_ret;exact⟨rfl,rfl⟩
 ·by_cases h2:700<n
  ·have HR:Hid (xAq n=0):=ι (by unfold xAq;rw[Ah (.inr h2)]);rw[HR.o];go_enter func125,ntmps125;go_wp2;go_ret;exact⟨rfl,rfl⟩
  ·have HR:Hid (xAq n=if 2+n<=128 then 128 else if 2+n<=256 then 256 else if 2+n<=512 then 512 else 704):=ι (by unfold xAq;rw[Ag ω]);obtain⟨c,hc⟩:=eX (xAq n);rw[hc];rw[hc] at HR;clear hc;obtain⟨t,fr,ht⟩:=hC.t
   obtain⟨cs,hcs⟩:∃cs:Array Value,#[.int .i64 128,.int .i64 256,.int .i64 512,.int .i64 704]=cs:=⟨_,rfl⟩;have HI:Hid ((prog.info? 247).map (·.size)=some cs.size):=ι (by rw[<-hcs];kernel_rfl);rw[hcs] at ht;have HT:=ι ht
   have HX:Hid (cs[0]?=some (.int .i64 128)/\cs[1]?=some (.int .i64 256)/\cs[2]?=some (.int .i64 512)/\cs[3]?=some (.int .i64 704)):=ι (by rw[<-hcs];exact⟨rfl,rfl,rfl,rfl⟩);clear hcs;clear ht hC;go_enter func125,ntmps125
   go_wp2_with (refine Ao rfl _ _ rfl 1 rfl _ _ fr _ HT.o underlying247 rfl HI.o ?_)
   go_loopw [12] (λiv W=>∃k:Nat,k<=3/\iv=.int .i64 k/\Hid ((1<=k->128<2+n)/\(2<=k->256<2+n)/\(3<=k->512<2+n))/\W=w) (λiv _=>4- (intOf iv).toNat)
   case atStart=>exact⟨0,ω,rfl,ι ⟨λh=>by omega,λh=>by omega,λh=>by omega⟩,rfl⟩
   case round=>
    obtain⟨k,hk,rfl,hu,rfl⟩:=hrel;have ix:=λ(v:Value) hv=>λW=>kR (P:=prog) underlying247 underlying3 κ cs v k ω hv W;obtain⟨u1,u2,u3⟩:=hu.o
    match k,hk with
    |0,_=>
     have i0:∀W,(Instr.index 247 (.agg cs) (.int .i64 0)).run prog W=.ok (.int .i64 128) W:=ix _ HX.o.1;clear ix u1 u2 u3 hu
     by_cases ht:2+n<=128
     ·have HC:Hid (c=128):=ι (by rw[HR.o,Ah ht]);go_wp2;go_ret;rw[HC.o];exact⟨rfl,rfl⟩
     ·have HN:Hid ((1<=0+1->128<2+n)/\(2<=0+1->256<2+n)/\(3<=0+1->512<2+n)):=ι ⟨λ_=>by omega,λh=>by omega,λh=>by omega⟩;go_wp2;exact⟨⟨0+1,ω,by go_num,HN,trivial⟩,by simp[intOf]⟩
    |1,_=>
     have i0:∀W,(Instr.index 247 (.agg cs) (.int .i64 1)).run prog W=.ok (.int .i64 256) W:=ix _ HX.o.2.1;have u1:=u1 ω;clear ix u2 u3 hu
     by_cases ht:2+n<=256
     ·have HC:Hid (c=256):=ι (by rw[HR.o,Ag ω,Ah ht]);go_wp2;go_ret;rw[HC.o];exact⟨rfl,rfl⟩
     ·have HN:Hid ((1<=1+1->128<2+n)/\(2<=1+1->256<2+n)/\(3<=1+1->512<2+n)):=ι ⟨λ_=>by omega,λ_=>by omega,λh=>by omega⟩;go_wp2;exact⟨⟨1+1,ω,by go_num,HN,trivial⟩,by simp[intOf]⟩
    |2,_=>
     have i0:∀W,(Instr.index 247 (.agg cs) (.int .i64 2)).run prog W=.ok (.int .i64 512) W:=ix _ HX.o.2.2.1;have u2:=u2 ω;clear ix u1 u3 hu
     by_cases ht:2+n<=512
     ·have HC:Hid (c=512):=ι (by rw[HR.o,Ag ω,Ag ω,Ah ht]);go_wp2;go_ret;rw[HC.o];exact⟨rfl,rfl⟩
     ·have HN:Hid ((1<=2+1->128<2+n)/\(2<=2+1->256<2+n)/\(3<=2+1->512<2+n)):=ι ⟨λ_=>by omega,λ_=>by omega,λ_=>by omega⟩;go_wp2;exact⟨⟨2+1,ω,by go_num,HN,trivial⟩,by simp[intOf]⟩
    |3,_=>
     have i0:∀W,(Instr.index 247 (.agg cs) (.int .i64 3)).run prog W=.ok (.int .i64 704) W:=ix _ HX.o.2.2.2;have u3:=u3 ω;clear ix u1 u2 hu;have ht:2+n<=704:=ω;have HC:Hid (c=704):=ι (by rw[HR.o,Ag ω,Ag ω,Ag ω]);go_wp2;go_ret;rw[HC.o];exact⟨rfl,rfl⟩
end Go.Proofs.SE
namespace Mailsack
theorem xDq {n:Nat} (h:n<=700):∃c:Nat,xAq (n:Int)=(c:Int)/\2+n<=c/\c<=704/\128<=c:=by
 unfold xAq;rw[Ag ω];split
 ·exact⟨128,rfl,ω,ω,ω⟩
 ·split
  ·exact⟨256,rfl,ω,ω,ω⟩
  ·split
   ·exact⟨512,rfl,ω,ω,ω⟩
   ·exact⟨704,rfl,ω,ω,ω⟩
def yIm (s:Bs) (c:Nat):Bs:=oct (s.length:Int)::oct ((s.length:Int) / 256)::(s++xO (c-2-s.length))
theorem xNj (s:Bs) {c:Nat} (h:2+s.length<=c):(yIm s c).length=c:=by
 unfold yIm;rw[Bl,Bl,Aj,yR];omega
def xBg (s:ByteArray):ByteArray:=bsA (yIm s.data.toList (xAq s.size).toNat)
theorem xBt {s:ByteArray} (h:s.size<=700):(xBg s).size=(xAq s.size).toNat:=by
 obtain⟨c,hc,h1,-⟩:=xDq h;unfold xBg;rw[yS,xNj];rw[hc,Cn,Cu];exact h1
end Mailsack
namespace Go.Proofs.SE
open Go.RowKit Mailsack MM BB SH SV
theorem yDy {W:World} {g:Nat} {l:Bs} (h:kG W g l) (ty:TypeId) (off dLen dCap:Nat) (s:ByteArray) (h1:s.size<=dLen) (h2:off+s.size<=l.length):
  (Builtin.copy_ #[96,9] ty #[.slice (some (θ g off)) dLen dCap,.string s]).run prog W=.ok (goInt s.size) (W.setRow g (yO (l.take off++s.data.toList++l.drop (off+s.size)))):=by
 have h3:=Lib.run_copy_row_string (P:=prog) W 96 9 ty 5 g off dLen dCap s (yO l) _ underlying96 κ h.blk h1 (by rw[wJ];omega)
 have h4:((yO l).toList.take off++Lib.byteCells s.data.toList++(yO l).toList.drop (off+s.size)).toArray=yO (l.take off++s.data.toList++l.drop (off+s.size)):=by
  simp[yO,Lib.byteCells,List.map_drop,List.map_take]
 rw[h3,h4]
theorem yKd (s:ByteArray) (w:World) (hs:700<s.size) (hC:yJ9 w):
  Calls prog 74 #[.string s] w λe w'=>e=.returned (.tuple #[.string ⟨#[]⟩,.int .i64 4])/\w'=w:=by
 have HK:=ι (xKg (s.size:Int) w hC);rw[show xAq (s.size:Int)=0 by unfold xAq;rw[Ah ω]] at HK;clear hs hC;go_enter func74,ntmps74;go_wp2_with fail
 refine HK.o.mono ?_;rintro e w1 ⟨rfl,rfl⟩;go_wp2;go_ret2;exact⟨rfl,rfl⟩
theorem pad_ok (s:ByteArray) (w:World) (hs:s.size<=700) (hC:yJ9 w):
  Calls prog 74 #[.string s] w (pv (.tuple #[.string (xBg s),.int .i64 0]) w):=by
 have HK:=ι (xKg (s.size:Int) w hC);obtain⟨c,hc,h1,h2,h3⟩:=xDq hs;have hc3:¬(c=2):=ω;have HP:Hid (xBg s=bsA (yIm s.data.toList c)):=ι (by unfold xBg;rw[hc,Cn]);rw[hc] at HK;rw[HP.o];clear HP;have hsl:s.data.toList.length=s.size:=Cu
 have HMK:=ι (λW:World=>made W c c ν ω);have HB0:=ι (Ai (show kG (w.alloc (.cells (yO (xO c)) 5)) w.heap.size (xO c) from xJ _ _) (φ w (.cells (yO (xO c)) 5)));have hc0:((c:Int)==0)=false:=by simp;omega
 have hc1:(0:Int)<(c:Int):=ω;have hc2:(1:Int)<(c:Int):=ω;clear hc hC;go_enter func74,ntmps74;go_wp2_with fail
 refine HK.o.mono ?_;rintro e w1 ⟨rfl,hw1⟩;rw[hw1];clear hw1 w1 HK;have hmk:=HMK.o;go_upto_region 5 with fail
 obtain⟨w1,hw1⟩:=eX (w.alloc (.cells (yO (xO c)) 5));rw[hw1] at HB0;rw[hw1];clear hw1 hmk HMK;have q0:=HB0.o.1.cell (i:=0) (by rw[yR];omega);have q1:=HB0.o.1.cell (i:=1) (by rw[yR];omega);have y0:=HB0.o.1.free 0;have y1:=HB0.o.1.free 1
 generalize (((xO c).getD 0 0).toNat:Int)=a0 at q0;generalize (((xO c).getD 1 0).toNat:Int)=a1 at q1
 have HB2:Hid (kG ((w1.setCell (θ w.heap.size 0) (.int .u8 ((s.size:Int) % 256))).setCell (θ w.heap.size 1) (.int .u8 ((s.size:Int) / 256))) w.heap.size (((xO c).set 0 (oct (s.size:Int))).set 1 (oct ((s.size:Int) / 256)))):=ι (by
  have:=(HB0.o.1.put 0 (s.size:Int)).put 1 ((s.size:Int) / 256);rw[show(s.size:Int) / 256 % 256=(s.size:Int) / 256 by omega] at this;exact this)
 have HW2:=ι ((HB0.o.2.setCell (p:=θ w.heap.size 0) ν (.int .u8 ((s.size:Int) % 256))).setCell (p:=θ w.heap.size 1) ν (.int .u8 ((s.size:Int) / 256)));go_upto_region 6 with fail
 clear q0 q1 y0 y1 HB0;obtain⟨w2,hw2⟩:=eX ((w1.setCell (θ w.heap.size 0) (.int .u8 ((s.size:Int) % 256))).setCell (θ w.heap.size 1) (.int .u8 ((s.size:Int) / 256)));rw[hw2] at HB2 HW2⊢;clear hw2
 have HCP:=ι (yDy HB2.o 3 2 (c-2) (c-2) s ω (by rw[Bf,Bf,yR];omega))
 have HB3:=ι (HB2.o.row (((((xO c).set 0 (oct (s.size:Int))).set 1 (oct ((s.size:Int) / 256))).take 2)++s.data.toList++((((xO c).set 0 (oct (s.size:Int))).set 1 (oct ((s.size:Int) / 256))).drop (2+s.size))))
 have HW3:=ι (Bn HW2.o ν (yO (((((xO c).set 0 (oct (s.size:Int))).set 1 (oct ((s.size:Int) / 256))).take 2)++s.data.toList++((((xO c).set 0 (oct (s.size:Int))).set 1 (oct ((s.size:Int) / 256))).drop (2+s.size)))))
 have HL:Hid ((((((xO c).set 0 (oct (s.size:Int))).set 1 (oct ((s.size:Int) / 256))).take 2)++s.data.toList++((((xO c).set 0 (oct (s.size:Int))).set 1 (oct ((s.size:Int) / 256))).drop (2+s.size)))=yIm s.data.toList c):=ι (by
  obtain⟨m,rfl⟩:∃m,c=m+2:=⟨c-2,ω⟩;unfold yIm xO
  rw[Ff,Ff,Bh,Cm,Bh,hsl,show 2+s.size=s.size+1+1 by omega,Fh,Fh,List.drop_replicate,show m+2-2-s.size=m-s.size by omega]
  rfl)
 rw[HL.o] at HB3 HW3 HCP;refine Bi ?_;iterate 9 go_step
 refine Gi _ rfl _ _ _ _ rfl _ _ rfl rfl HCP.o ?_;clear HCP HB2 HW2 HL;generalize w2.setRow w.heap.size (yO (yIm s.data.toList c))=w3 at HB3 HW3⊢;have ht:=xIt HB3.o c c (by rw[xNj _ ω];exact Bd _)
 rw[Ce (by rw[xNj _ ω];exact Bd _)] at ht;clear HB3;go_wp2;go_ret2;exact⟨rfl,HW3.o⟩
end Go.Proofs.SE
/- Contracts of functions. Conditions: as stated. -/
import Derived.Test.YtjdkeibcoiiliaaGreatDoorVaultWholeProofB07
open Go.Proofs.Tryz
set_option maxHeartbeats 8000000
set_option maxRecDepth 100000
namespace Mailsack
def yF (y:Int) (k:Nat):Int:=if 5<=k then Go.IntKind.u64.wrap (y*19) else y
theorem yF_u {y:Int} (h:U64 y) (k:Nat):U64 (yF y k):=by
 unfold yF;split
 ·exact wrap_u64 _
 ·exact h
def mT (x y:Int) (k:Nat) (s:List Int×List Int):List Int×List Int:=
 (s.1.set k (Go.IntKind.u64.wrap (s.1.getD k 0+Go.IntKind.u64.wrap (x*y / 18446744073709551616+(s.2.getD k 0+x*y % 18446744073709551616) / 18446744073709551616))),s.2.set k ((s.2.getD k 0+x*y % 18446744073709551616) % 18446744073709551616))
def mS (x:Int) (i:Nat) (b:List Int) (s:List Int×List Int):Nat->List Int×List Int
 |0=>s
 |j+1=>mT x (yF (b.getD j 0) (i+j)) (kK (i+j)) (mS x i b s j)
def mI (a b:List Int):Nat->List Int×List Int
 |0=>(List.replicate 5 0,List.replicate 5 0)
 |i+1=>mS (a.getD i 0) i b (mI a b i) 5
def xU3 (s:List Int×List Int):Prop:=s.1.length=5/\s.2.length=5/\yT s.1/\yT s.2
theorem mT_ok (x y:Int) (k:Nat) {s:List Int×List Int} (h:xU3 s):xU3 (mT x y k s):=by
 obtain⟨h1,h2,h3,h4⟩:=h;exact⟨by simp[mT,h1],by simp[mT,h2],h3.set k (wrap_u64 _),h4.set k (xGv _)⟩
theorem yL2 (x:Int) (i:Nat) (b:List Int) {s:List Int×List Int} (h:xU3 s):∀j,xU3 (mS x i b s j)
 |0=>h
 |j+1=>mT_ok _ _ _ (yL2 x i b h j)
theorem yL3 (a b:List Int):∀i,xU3 (mI a b i)
 |0=>⟨by simp[mI],by simp[mI],xCr 5,xCr 5⟩
 |i+1=>yL2 _ _ _ (yL3 a b i) 5
def prC (hi lo:List Int) (k:Nat):Int:=Go.bits .or .u64 (Go.IntKind.u64.wrap (hi.getD k 0*8192)) (lo.getD k 0 / 2251799813685248)
def prA (lo p:List Int) (k:Nat):List Int:=p.set k (Go.IntKind.u64.wrap (p.getD k 0+Go.bits .and .u64 (lo.getD k 0) 2251799813685247))
def prI (hi lo:List Int):Nat->List Int
 |0=>List.replicate 5 0
 |k+1=>if k+1<5 then(prA lo (prI hi lo k) k).set (k+1) (Go.IntKind.u64.wrap ((prA lo (prI hi lo k) k).getD (k+1) 0+prC hi lo k)) else(prA lo (prI hi lo k) k).set 0 (Go.IntKind.u64.wrap ((prA lo (prI hi lo k) k).getD 0 0+Go.IntKind.u64.wrap (19*prC hi lo k)))
theorem yBf (lo p:List Int) (k:Nat):(prA lo p k).length=p.length:=by simp[prA]
theorem yKa (lo:List Int) {p:List Int} (h:yT p) (k:Nat):yT (prA lo p k):=h.set k (wrap_u64 _)
theorem xNg (hi lo:List Int):∀k,(prI hi lo k).length=5
 |0=>by simp[prI]
 |k+1=>by
  rw[prI];split<;>simp[yBf,xNg hi lo k]
theorem yBe (hi lo:List Int):∀k,yT (prI hi lo k)
 |0=>xCr 5
 |k+1=>by
  rw[prI];split
  ·exact(yKa lo (yBe hi lo k) k).set _ (wrap_u64 _)
  ·exact(yKa lo (yBe hi lo k) k).set _ (wrap_u64 _)
def yDj (s:List Int×List Int):List Int:=zQ (prI s.1 s.2 5)
def vP (a b:List Int):List Int:=yDj (mI (zQ a) (zQ b) 5)
theorem zY (a b:List Int):(vP a b).length=5:=rfl
theorem jP (a b:List Int):yT (vP a b):=jO _
end Mailsack
namespace Go.Proofs.FE
open Go.RowKit Mailsack MM BB SH
theorem yC4 (x y:Int) (hx:U64 x) (hy:U64 y) (w:World):
  Calls prog 164 #[.int .u64 x,.int .u64 y] w λe w'=>e=.returned (.tuple #[.int .u64 (x*y / 18446744073709551616),.int .u64 (x*y % 18446744073709551616)])/\w'=w:=by
 obtain⟨x0,x1⟩:=hx;obtain⟨y0,y1⟩:=hy;have h:=Tryz.bits_Mul64 x.toNat y.toNat ω ω w;have e1:((x.toNat:Nat):Int)=x:=ω;have e2:((y.toNat:Nat):Int)=y:=ω
 have e3:((x.toNat*y.toNat / 18446744073709551616:Nat):Int)=x*y / 18446744073709551616:=by rw[Int.natCast_ediv,Int.natCast_mul,e1,e2];rfl
 have e4:((x.toNat*y.toNat % 18446744073709551616:Nat):Int)=x*y % 18446744073709551616:=by rw[Int.natCast_emod,Int.natCast_mul,e1,e2];rfl
 rw[e1,e2,e3,e4] at h;exact h
structure MuM (w:World) (na nb:List Int) (g:Nat) (s:List Int×List Int) (W:World):Prop where
 two:jR w na nb W
 bh:wL 187 W g s.1
 bl:wL 187 W (g+1) s.2
 ge:w.heap.size+3<=g
section
variable {w W W':World} {na nb:List Int} {g:Nat} {s:List Int×List Int}
theorem MuM.below (h:MuM w na nb g s W) (hb:ψ W W'):MuM w na nb g s W':=⟨h.two.below hb,h.bh.below hb,h.bl.below hb,h.ge⟩
theorem jR.far (h:jR w na nb W) {p:Addr} (hp:w.heap.size+3<=p.block) (u:Value):jR w na nb (W.setCell p u):=
 ⟨h.ba.far ω u,h.bb.far ω u,h.bz.far ω u,h.bel.setCell ω u⟩
theorem MuM.lo (h:MuM w na nb g s W) (k:Nat) (x:Int):MuM w na nb g (s.1,s.2.set k x) (W.setCell (θ (g+1) k) (.int .u64 x)):=by
 have hg:=h.ge;exact⟨h.two.far (p:=(θ (g+1) k)) (by simp only[];omega) _,h.bh.far (p:=(θ (g+1) k)) σ _,h.bl.put k x,hg⟩
theorem MuM.hi (h:MuM w na nb g s W) (k:Nat) (x:Int):MuM w na nb g (s.1.set k x,s.2) (W.setCell (θ g k) (.int .u64 x)):=by
 have hg:=h.ge;exact⟨h.two.far (p:=θ g k) (by simp only[];omega) _,h.bh.put k x,h.bl.far (p:=θ g k) σ _,hg⟩
end
structure PrM (w:World) (na nb:List Int) (g:Nat) (s:List Int×List Int) (gp:Nat) (p:List Int) (W:World):Prop where
 mu:MuM w na nb g s W
 bp:wL 188 W gp p
 gt:g+1<gp
section
variable {w W W':World} {na nb:List Int} {g gp:Nat} {s:List Int×List Int} {p:List Int}
theorem PrM.below (h:PrM w na nb g s gp p W) (hb:ψ W W'):PrM w na nb g s gp p W':=⟨h.mu.below hb,h.bp.below hb,h.gt⟩
theorem PrM.drew (h:PrM w na nb g s gp p W):PrM w na nb g s gp p W.drew:=⟨⟨h.mu.two.drew,h.mu.bh,h.mu.bl,h.mu.ge⟩,h.bp,h.gt⟩
theorem PrM.put (h:PrM w na nb g s gp p W) (k:Nat) (x:Int):PrM w na nb g s gp (p.set k x) (W.setCell (θ gp k) (.int .u64 x)):=by
 have hg:=h.mu.ge;have hp:=h.gt;exact⟨⟨h.mu.two.far (p:=θ gp k) (by simp only[];omega) _,h.mu.bh.far (p:=θ gp k) (by simp only[];omega) _,h.mu.bl.far (p:=θ gp k) (by simp only[];omega) _,hg⟩,h.bp.put k x,hp⟩
end
theorem xBw (ax bx:List Int) (w:World) (hl:ax.length=5) (hu:yT ax) (hl2:bx.length=5) (hu2:yT bx):
  Calls prog 123 #[.agg (xI ax),.agg (xI bx)] w (pv (.agg (xI (vP ax bx))) w):=by
 have HNa:=ι (λW=>kI ax W hl hu);have HNb:=ι (λW=>kI bx W hl2 hu2);have HIa:=ι (vW hl);have HIb:=ι (vW hl2);have yIa:=ι (vW (zW ax));have yI9:=ι (vW (zW bx));have HZa:=ι (xCp hl (zW ax));have HZb:=ι (xCp hl2 (zW bx));have hna:=zW ax;have hnb:=zW bx;have hua:=jO ax;have hub:=jO bx
 have H0:=ι (jR.start (w:=w) ax bx);have HR:Hid (∀n,n=5->vP ax bx=yDj (mI (zQ ax) (zQ bx) n)):=ι (λn hn=>by rw[hn];rfl);obtain⟨res,hres⟩:=eX (vP ax bx);have hrl:res.length=5:=by rw[<-hres];rfl
 rw[hres] at HR⊢;clear hres hl hu hl2 hu2;generalize zQ ax=na at HNa yIa HZa hna hua HR;generalize zQ bx=nb at HNb yI9 HZb hnb hub HR;go_enter func123,ntmps123;go_upto_region 1 with fail
 refine(λ(h:∀W3,Hid (jR w ax bx W3)->Code.wp _ _ _ _ W3)=>h _ H0) ?_;clear H0;intro W0 H0;refine RG.zA 6 (λL W=>Hid (jR w (if L 4 then na else ax) (if L 5 then nb else bx) W)) (λL L' W h hI=>by rw[<-h 4 δ,<-h 5 δ];exact hI) κ κ rfl (ι H0.o.drew) ?_;clear H0;apply RG.xS
 ·rfl
 ·rfl
 ·intro L w9 h0 hcl xQ hw9;have e1:=hcl.not 6 (i:=4) h0 κ;have hs9:=hw9.o.ba;rw[e1,Ag σ] at hs9;refine Ao rfl _ _ rfl w.heap.size rfl _ (xI ax) (0,0) _ hs9 underlying188 rfl HIa.o ?_;repeat go_step
  refine RG.xE ?_;exact⟨xQ,hw9⟩
 ·rfl
 apply RG.xS
 ·rfl
 ·rfl
 ·intro L w9 h0 hcl xQ hw9;repeat go_step
  refine(HNa.o _).mono ?_;rintro e w10 ⟨rfl,zO⟩;simp only[];repeat go_step
  refine RG.xE ?_;exact⟨xQ,ι (hw9.o.below zO)⟩
 ·rfl
 apply RG.xS
 ·rfl
 ·rfl
 ·intro L w9 h0 hcl xQ hw9;have e1:=hcl.not 6 (i:=5) h0 κ;have hs9:=hw9.o.bb;rw[e1,Ag σ] at hs9;refine Ao rfl _ _ rfl (w.heap.size+1) rfl _ (xI bx) (0,0) _ hs9 underlying188 rfl HIb.o ?_;repeat go_step
  refine RG.xE ?_;exact⟨xQ,hw9⟩
 ·rfl
 apply RG.xS
 ·rfl
 ·rfl
 ·intro L w9 h0 hcl xQ hw9;repeat go_step
  refine(HNb.o _).mono ?_;rintro e w10 ⟨rfl,zO⟩;simp only[];repeat go_step
  refine RG.xE ?_;exact⟨xQ,ι (hw9.o.below zO)⟩
 ·rfl
 apply RG.xS
 ·rfl
 ·rfl
 ·intro L w9 h0 hcl xQ hw9;have hs9:=hw9.o;rw[h0,Ag σ] at hs9;refine Av rfl _ _ _ rfl w.heap.size (xI na) rfl rfl _ _ hs9.ba yIa.o HZa.o (yM _) ?_;repeat go_step
  refine RG.xE ?_;exact⟨xQ,ι (hs9.rowA na)⟩
 ·rfl
 apply RG.xS
 ·rfl
 ·rfl
 ·intro L w9 h0 hcl xQ hw9;have hs9:=hw9.o;rw[h0,Ag (c:=false=true) σ] at hs9;refine Av rfl _ _ _ rfl (w.heap.size+1) (xI nb) rfl rfl _ _ hs9.bb yI9.o HZb.o (yM _) ?_;repeat go_step
  refine RG.xE ?_;exact⟨xQ,ι (hs9.rowB nb)⟩
 ·rfl
 refine RG.yY (λw9 hw9=>?_);rw[Ah rfl,Ah rfl] at hw9;have HS0:Hid (xU3 (mI na nb 0)):=ι (yL3 na nb 0);have HG:Hid (w.heap.size+3<=w9.heap.size):=ι (by have:=xH hw9.o.bz;omega)
 have H1:Hid (MuM w na nb w9.heap.size (mI na nb 0) ((w9.alloc (.cells (xI (List.replicate 5 0)) 187)).alloc (.cells (xI (List.replicate 5 0)) 187))):=ι ⟨(hw9.o.below (φ w9 (.cells (xI (List.replicate 5 0)) 187))).below ((Aq _ _).alloc ν _),zM _ _ _,zI _ _ _,HG.o⟩
 have HL:=ι (λi=>yL3 na nb i);have HPS:Hid (∀i n,n=5->mI na nb (i+1)=mS (na.getD i 0) i nb (mI na nb i) n):=ι (λi n hn=>by rw[hn];rfl);go_upto_region 3 with fail
 refine(λ(h:∀W3,Hid (MuM w na nb w9.heap.size (mI na nb 0) W3)->Code.wp _ _ _ _ W3)=>h _ H1) ?_;clear H1 HG hw9;generalize w9.heap.size=g;intro W1 H1;refine Bi ?_
 refine Ao rfl _ _ rfl w.heap.size rfl _ (xI na) (0,0) _ H1.o.two.ba underlying188 rfl yIa.o ?_;go_wp2_with fail
 go_loopw [23] (λiv W=>∃i:Nat,i<=5/\iv=.int .i64 i/\Hid (MuM w na nb g (mI na nb i) W)) (λiv _=>5- (intOf iv).toNat)
 case atStart=>exact⟨0,δ,rfl,H1⟩
 case round=>
  clear H1
  rename World=>wi
  obtain⟨i,hi,rfl,hr⟩:=hrel
  by_cases hlt:i<5
  ·have HS:=ι (HPS.o i);have hl0:=HL.o i;obtain⟨x,hx⟩:=eX (na.getD i 0);have ux:=hua i;rw[hx] at ux HS;have ix:=λW=>kR (P:=prog) underlying188 underlying186 κ (xI na) (.int .u64 x) i hlt (by rw[xEa ω,hx]) W;obtain⟨d1,hd1⟩:=eX (mI na nb (i+1))
   rw[hd1] at HS;have HD1:=ι hd1;clear hd1;generalize mI na nb i=d0 at hr hl0 HS;have HT0:Hid (MuM w na nb g (mS x i nb d0 0) wi):=ι hr.o;have HTS:Hid (∀j,mS x i nb d0 (j+1)=mT x (yF (nb.getD j 0) (i+j)) (kK (i+j)) (mS x i nb d0 j)):=ι (λj=>rfl)
   have HTL:Hid (∀j,xU3 (mS x i nb d0 j)):=ι (λj=>yL2 _ _ _ hl0 j);have HX:=ι ux;have HBU:=ι hub;have hrr:=hr;have HUA:=ι hua;clear hr hx ux hl0 hua hub;go_upto_region 6 with fail
   clear ix;refine Bi ?_;refine Ao rfl _ _ rfl (w.heap.size+1) rfl _ (xI nb) (0,0) _ hrr.o.two.bb underlying188 rfl yI9.o ?_;clear hrr;go_wp2_with fail
   go_loopw [28] (λjv W=>∃j:Nat,j<=5/\jv=.int .i64 j/\Hid (MuM w na nb g (mS x i nb d0 j) W)) (λjv _=>5- (intOf jv).toNat)
   case atStart=>exact⟨0,δ,rfl,HT0⟩
   case round=>
    clear HT0
    rename World=>wj
    obtain⟨j,hj,rfl,hr⟩:=hrel
    by_cases hlt2:j<5
    ·have hTS:=HTS.o j;obtain⟨hTL1,hTL2,hTU1,hTU2⟩:=HTL.o j;obtain⟨t1,ht1⟩:=eX (mS x i nb d0 (j+1));rw[ht1] at hTS;have HT1:=ι ht1;clear ht1;generalize mS x i nb d0 j=t0 at hr hTS hTL1 hTL2 hTU1 hTU2;obtain⟨y,hy⟩:=eX (nb.getD j 0);have uy:=HBU.o j
     rw[hy] at uy hTS;have uyf:=yF_u uy (i+j);have ix:=λW=>kR (P:=prog) underlying188 underlying186 κ (xI nb) (.int .u64 y) j hlt2 (by rw[xEa ω,hy]) W;have hK:kK (i+j)<5:=by unfold kK;split<;>omega
     have h1:=hTU1 (kK (i+j));have h2:=hTU2 (kK (i+j));unfold mT at hTS;obtain⟨yy,hyy⟩:=eX (yF y (i+j));rw[hyy] at uyf hTS;obtain⟨x0,x1⟩:=HX.o;obtain⟨y0,y1⟩:=uyf
     have HM:Hid (∀W,Calls prog 164 #[.int .u64 x,.int .u64 yy] W λe w'=>e=.returned (.tuple #[.int .u64 (x*yy / 18446744073709551616),.int .u64 (x*yy % 18446744073709551616)])/\w'=W):=ι (λW=>yC4 x yy ⟨x0,x1⟩ ⟨y0,y1⟩ W);have hpl:=xGv (x*yy)
     have hph:0<=x*yy / 18446744073709551616/\x*yy / 18446744073709551616<18446744073709551616:=by
      have m0:0<=x*yy:=Int.mul_nonneg x0 y0;have m1:x*yy<=18446744073709551615*18446744073709551615:=Int.mul_le_mul ω ω y0 δ;omega
     generalize x*yy / 18446744073709551616=ph at HM hTS hph;generalize x*yy % 18446744073709551616=pl at HM hTS hpl;generalize hk:kK (i+j)=k at hK h1 h2 hTS;have q0:=hr.o.bl.cell (i:=k) ω;have q1:=hr.o.bh.cell (i:=k) ω;have f0:=hr.o.bl.free k;have f1:=hr.o.bh.free k
     obtain⟨l,hlv⟩:=eX (t0.2.getD k 0);obtain⟨hh,hhv⟩:=eX (t0.1.getD k 0);rw[hlv] at q0 h2 hTS;rw[hhv] at q1 h1 hTS;obtain⟨l0,l1⟩:=h2;obtain⟨hh0,hh1⟩:=h1;obtain⟨p0,p1⟩:=hpl;obtain⟨r0,r1⟩:=hph
     have HP:=ι ((hr.o.lo k ((l+pl) % 18446744073709551616)).hi k (IntKind.u64.wrap (hh+IntKind.u64.wrap (ph+(l+pl) / 18446744073709551616))));rw[<-hTS] at HP
     have A1:∀W,(callFunc 171 #[.int .u64 l,.int .u64 pl,.int .u64 0]).run prog W=.ok (.value (.tuple #[.int .u64 ((l+pl) % 18446744073709551616),.int .u64 ((l+pl) / 18446744073709551616)])) W:=λW=>by
      have h:=yMe l pl 0 l0 p0 δ δ W;rw[Int.add_zero] at h;exact h
     have hc0:0<=(l+pl) / 18446744073709551616:=ω;have hc1:(l+pl) / 18446744073709551616<18446744073709551616:=ω;obtain⟨ls0,ls1⟩:=xGv (l+pl);generalize (l+pl) % 18446744073709551616=ls at HP A1 ls0 ls1;generalize (l+pl) / 18446744073709551616=cs at HP A1 hc0 hc1
     clear hTS hr hlv hhv hy l0 l1 hTL1 hTL2 hTU1 hTU2 uy
     by_cases h5:5<=i+j
     ·have hk5:kK (i+j)=i+j-5:=Ah h5;have hy5:yF y (i+j)=IntKind.u64.wrap (y*19):=Ah h5;rw[hyy] at hy5;rw[hk] at hk5;have hii:(i:Int)+(j:Int)=(k:Int)+5:=ω;have h5i:(5:Int)<=(k:Int)+5:=ω;have HY5:=ι hy5.symm;clear hk5 h5 hy5 hk hyy;go_upto_region 13 with fail
      rw[HY5.o];go_wp2_with fail
      refine(HM.o _).mono ?_;rintro e w3 ⟨rfl,rfl⟩;go_wp2;exact⟨⟨j+1,ω,by go_num,by rw[HT1.o];exact HP⟩,by simp[intOf];omega⟩
     ·have hk5:kK (i+j)=i+j:=Ag h5;have hy5:yF y (i+j)=y:=Ag h5;rw[hyy] at hy5;rw[hk] at hk5;have hii:(i:Int)+(j:Int)=(k:Int):=ω;have h5i:¬((5:Int)<=(k:Int)):=ω;subst hy5;clear hk5 h5 hk hyy;go_upto_region 13 with fail
      go_wp2_with fail
      refine(HM.o _).mono ?_;rintro e w3 ⟨rfl,rfl⟩;go_wp2;exact⟨⟨j+1,ω,by go_num,by rw[HT1.o];exact HP⟩,by simp[intOf];omega⟩
    ·have hje:j=5:=ω;have hneg:¬((j:Int)<5):=ω;have HS1:=ι (HS.o j hje);clear hje hlt2 hj HTS HTL HS;go_wp2;exact⟨⟨i+1,ω,by go_num,by rw[HD1.o,HS1.o];exact hr⟩,by simp[intOf];omega⟩
  ·have hie:i=5:=ω;have hneg:¬((i:Int)<5):=ω;have HP:=ι (HR.o i hie);obtain⟨hs1,hs2,hs3,hs4⟩:=HL.o i;generalize mI na nb i=s at hr HP hs1 hs2 hs3 hs4;have HE:Hid (∀n,n=5->res=zQ (prI s.1 s.2 n)):=ι (λn hn=>by rw[hn];exact HP.o);clear HP HPS HR HL hie HNa HNb hua hub
   have H5:Hid (PrM w na nb g s wi.heap.size (prI s.1 s.2 0) (wi.alloc (.cells (xI (List.replicate 5 0)) 188))):=ι ⟨hr.o.below (φ wi _),xJ _ _,xH hr.o.bl⟩;go_upto_region 20 with fail
   refine(λ(h:∀W3,Hid (PrM w na nb g s wi.heap.size (prI s.1 s.2 0) W3)->Code.wp _ _ _ _ W3)=>h _ H5) ?_;clear H5 hr hneg hlt hi;generalize wi.heap.size=gp;intro W5 H5;go_wp2_with fail
   go_loopw [67] (λkv W=>∃k:Nat,k<=5/\kv=.int .i64 k/\Hid (PrM w na nb g s gp (prI s.1 s.2 k) W)) (λkv _=>5- (intOf kv).toNat)
   case atStart=>exact⟨0,δ,rfl,H5⟩
   case round=>
    clear H5
    rename World=>wk
    obtain⟨k,hk,rfl,hr⟩:=hrel
    by_cases hlk:k<5
    ·have hpl:=xNg s.1 s.2 k;have hpu:=yBe s.1 s.2 k;have HC:Hid (prC s.1 s.2 k=bits .or .u64 (IntKind.u64.wrap (s.1.getD k 0*8192)) (s.2.getD k 0 / 2251799813685248)):=ι rfl;obtain⟨h,hh⟩:=eX (s.1.getD k 0);obtain⟨l,hl⟩:=eX (s.2.getD k 0);obtain⟨h0,h1⟩:=hs3 k
     obtain⟨l0,l1⟩:=hs4 k;rw[hh] at h0 h1 HC;rw[hl] at l0 l1 HC;have HA:Hid (prA s.2 (prI s.1 s.2 k) k=(prI s.1 s.2 k).set k (IntKind.u64.wrap ((prI s.1 s.2 k).getD k 0+bits .and .u64 l 2251799813685247))):=ι (by rw[<-hl];rfl);have hal:=yBf s.2 (prI s.1 s.2 k) k
     have hau:=yKa s.2 hpu k
     have HSt:Hid (∀j,j=k+1->prI s.1 s.2 j=if j<5 then(prA s.2 (prI s.1 s.2 k) k).set j (IntKind.u64.wrap ((prA s.2 (prI s.1 s.2 k) k).getD j 0+prC s.1 s.2 k)) else(prA s.2 (prI s.1 s.2 k) k).set 0 (IntKind.u64.wrap ((prA s.2 (prI s.1 s.2 k) k).getD 0 0+IntKind.u64.wrap (19*prC s.1 s.2 k)))):=ι (λj hj=>by rw[hj];rfl)
     obtain⟨c,hc⟩:=eX (prC s.1 s.2 k);rw[hc] at HC HSt;have hcu:U64 c:=by rw[HC.o];exact zP _ _ _
     obtain⟨c0,c1⟩:=hcu;have hcc:=HC.o.symm;obtain⟨pa,hpa⟩:=eX (prA s.2 (prI s.1 s.2 k) k);rw[hpa] at HA hal hau HSt;generalize prI s.1 s.2 k=p0 at hr hpl hpu HA hal;clear hpa hc;obtain⟨x,hx⟩:=eX (p0.getD k 0);obtain⟨x0,x1⟩:=hpu k;rw[hx] at x0 x1 HA
     obtain⟨m,hm⟩:=eX (bits .and .u64 l 2251799813685247);obtain⟨m0,m1⟩:=hm▸zP .and l 2251799813685247;rw[hm] at HA;obtain⟨z,hz⟩:=eX (IntKind.u64.wrap (x+m));rw[hz] at HA;go_upto_region 23 with fail
     refine RG.xU (λW=>Hid (PrM w na nb g s gp p0 W)) κ κ (ι hr.o.drew) ?_
     iterate 10
      apply RG.xL
      ·intro w9 hw9;have q1:=hw9.o.mu.bh.cell (i:=k) ω;have q2:=hw9.o.mu.bl.cell (i:=k) ω;rw[hh] at q1;rw[hl] at q2;repeat go_step
       exact RG.xE hw9
      ·rfl
     refine RG.xX (λw9 hw9=>?_);clear hr;go_upto_region 24 with fail
     refine RG.zA 10 (λL W=>Hid (PrM w na nb g s gp (if L 9 then p0.set k z else p0) W)) (λL L' W h hI=>by rw[<-h 9 δ];exact hI) κ κ rfl (ι hw9.o.drew) ?_;clear hw9;iterate 2 refine RG.cS ?_
     apply RG.xS
     ·rfl
     ·rfl
     ·intro L w9 h0 hcl xQ hw9;have e1:=hcl.not 10 (i:=9) h0 κ;have hs9:=hw9.o;rw[e1,Ag σ] at hs9;have q:=hs9.bp.cell (i:=k) ω;rw[hx] at q;clear e1 hs9;repeat go_step
      refine RG.xE ?_;exact⟨xQ,hw9⟩
     ·rfl
     iterate 2 refine RG.cS ?_
     apply RG.xS
     ·rfl
     ·rfl
     ·intro L w9 h0 hcl xQ hw9;have q2:=hw9.o.mu.bl.cell (i:=k) ω;rw[hl] at q2;repeat go_step
      refine RG.xE ?_;exact⟨xQ,hw9⟩
     ·rfl
     iterate 3 refine RG.cS ?_
     apply RG.xS
     ·rfl
     ·rfl
     ·intro L w9 h0 hcl xQ hw9;have hs9:=hw9.o;rw[h0,Ag σ] at hs9;have q1:=hs9.bp.cell (i:=k) ω;have q2:=hs9.bp.free k;rw[hx] at q1;have hp:Hid (PrM w na nb g s gp (p0.set k z) (w9.setCell (θ gp k) (.int .u64 z))):=ι (hs9.put k z);clear hs9;repeat go_step
      refine RG.xE ?_;refine⟨xQ,?_⟩;show Hid (PrM w na nb g s gp (if (true:Bool)=true then p0.set k z else p0) _);rw[Ah rfl];with_reducible exact hp
     ·rfl
     refine RG.yY (λw9 hw9=>?_);rw[Ah rfl,<-HA.o] at hw9;clear hx hm hz hcc hh hl h0 h1 l0 l1 x0 x1 m0 m1 HA
     by_cases hk1:k+1<5
     ·have HN:=ι (HSt.o (k+1) rfl);rw[Ah hk1] at HN;have hki:(k:Int)+1<5:=ω;have q1:=hw9.o.bp.cell (i:=k+1) ω;have q2:=hw9.o.bp.free (k+1);have hv:=hau (k+1);obtain⟨v,hvv⟩:=eX (pa.getD (k+1) 0);rw[hvv] at q1 hv HN;obtain⟨v0,v1⟩:=hv
      have HF:=ι (hw9.o.put (k+1) (IntKind.u64.wrap (v+c)));rw[<-HN.o] at HF;clear hw9 hk1 hvv HSt HN;go_wp2;exact⟨⟨k+1,ω,by go_num,HF⟩,by simp[intOf];omega⟩
     ·have HN:=ι (HSt.o (k+1) rfl);rw[Ag hk1] at HN;have hki:¬((k:Int)+1<5):=ω;have q1:=hw9.o.bp.cell (i:=0) ω;have q2:=hw9.o.bp.free 0;have hv:=hau 0;obtain⟨v,hvv⟩:=eX (pa.getD 0 0);rw[hvv] at q1 hv HN;obtain⟨v0,v1⟩:=hv
      have HF:=ι (hw9.o.put 0 (IntKind.u64.wrap (v+IntKind.u64.wrap (19*c))));rw[<-HN.o] at HF;clear hw9 hk1 hvv HSt HN;go_wp2;exact⟨⟨k+1,ω,by go_num,HF⟩,by simp[intOf];omega⟩
    ·have hke:k=5:=ω;have HRi:=ι (HE.o k hke);have hxl:=xNg s.1 s.2 k;have hxu:=yBe s.1 s.2 k;generalize prI s.1 s.2 k=xs at hr hxl hxu HRi;have HIx:=ι (vW hxl);have HIr:=ι (vW hrl);have HZr:Hid ((xI (List.replicate 5 0)).size=(xI res).size):=ι (xCp σ hrl)
     have HNx:=ι (λW=>kI xs W hxl hxu);rw[<-HRi.o] at HNx;have hneg:¬((k:Int)<5):=ω;clear HRi hxu hxl hke hlk hk HE;go_upto_region 29 with fail
     refine Bi ?_;refine Ao rfl _ _ rfl gp rfl _ (xI xs) (0,0) _ hr.o.bp underlying188 rfl HIx.o ?_;repeat go_step
     refine cM (HNx.o _) λw7 hb7=>?_;have h7:=(hr.o.below hb7).mu.two;go_wp2_with (refine Av rfl _ _ _ rfl (w.heap.size+1+1) (xI res) rfl rfl _ _ h7.bz HIr.o HZr.o (yM _) ?_)
     refine Ak (Dn rfl _ _ (w.heap.size+1+1) _ _ (0,0) _ rfl (Bp _ _ _ _ _ _ h7.bz) underlying188 rfl HIr.o) rfl ?_;exact⟨rfl,Bn h7.bel ω _⟩
end Go.Proofs.FE
namespace Mailsack
def ovI (n:List Int):Nat->Int
 |0=>Go.IntKind.u64.wrap (n.getD 0 0+19) / 2251799813685248
 |k+1=>Go.IntKind.u64.wrap (n.getD (k+1) 0+ovI n k) / 2251799813685248
theorem yLy (x:Int):0<=Go.IntKind.u64.wrap x / 2251799813685248/\Go.IntKind.u64.wrap x / 2251799813685248<8192:=by
 have ⟨h0,h1⟩:=wrap_u64 x;omega
theorem ovI_lt (n:List Int):∀k,0<=ovI n k/\ovI n k<8192
 |0=>yLy _
 |_+1=>yLy _
def lcI (n:List Int) (o:Int):Nat->List Int×Int
 |0=>(n,19*o)
 |i+1=>((lcI n o i).1.set i (Go.bits .and .u64 (Go.IntKind.u64.wrap ((lcI n o i).1.getD i 0+(lcI n o i).2)) 2251799813685247),Go.IntKind.u64.wrap ((lcI n o i).1.getD i 0+(lcI n o i).2) / 2251799813685248)
theorem xT2 (n:List Int) (o:Int):∀i,(lcI n o i).1.length=n.length
 |0=>rfl
 |i+1=>by simp[lcI,xT2 n o i]
theorem yL6 {n:List Int} (o:Int) (h:yT n):∀i,yT (lcI n o i).1
 |0=>h
 |i+1=>(yL6 o h i).set i (zP _ _ _)
theorem lcI_c (n:List Int) {o:Int} (h0:0<=o) (h1:o<8192):∀i,0<=(lcI n o i).2/\(lcI n o i).2<200000
 |0=>by simp[lcI];omega
 |i+1=>by
  have:=yLy ((lcI n o i).1.getD i 0+(lcI n o i).2);simp only[lcI];omega
def rQ (a:List Int):List Int:=(lcI (zQ a) (ovI (zQ a) 4) 5).1
theorem xF6 (a:List Int):(rQ a).length=5:=by rw[rQ,xT2];rfl
theorem yDk (a:List Int):yT (rQ a):=yL6 _ (jO a) 5
def xF5 (a:List Int) (n:Int):List Int:=vP a [n,0,0,0,0]
def sqI (a:List Int):Nat->List Int
 |0=>a
 |k+1=>vP (sqI a k) (sqI a k)
theorem xIw {a:List Int} (h:a.length=5):∀k,(sqI a k).length=5
 |0=>h
 |_+1=>zY _ _
theorem yK1 {a:List Int} (h:yT a):∀k,yT (sqI a k)
 |0=>h
 |_+1=>jP _ _
end Mailsack
namespace Go.Proofs.FE
open Go.RowKit Mailsack MM BB SH
structure xKt (w:World) (ax:List Int) (W:World):Prop where
 ba:wL 188 W w.heap.size ax
 bz:wL 188 W (w.heap.size+1) (List.replicate 5 0)
 bel:ψ w W
section
variable {w W W':World} {ax:List Int}
theorem xKt.start (ax:List Int):xKt w ax ((w.alloc (.cells (xI ax) 188)).alloc (.cells (xI (List.replicate 5 0)) 188)):=
 ⟨zM _ _ _,zI _ _ _,(φ w _).alloc σ _⟩
theorem xKt.below (h:xKt w ax W) (hb:ψ W W'):xKt w ax W':=⟨h.ba.below hb,h.bz.below hb,bT h.bel hb⟩
theorem xKt.put (h:xKt w ax W) (i:Nat) (x:Int):xKt w (ax.set i x) (W.setCell (θ w.heap.size i) (.int .u64 x)):=
 ⟨h.ba.put i x,h.bz.far (p:=θ w.heap.size i) σ _,h.bel.setCell (p:=θ w.heap.size i) ν _⟩
theorem xKt.row (h:xKt w ax W) (xs:List Int):xKt w xs (W.setRow w.heap.size (xI xs)):=
 ⟨Bp _ _ _ _ _ _ h.ba,(Bj _ _ _ _ ω).trans h.bz,Bn h.bel ν _⟩
end
theorem yAw (ax:List Int) (n:Int) (w:World) (hl:ax.length=5) (hu:yT ax) (hn0:0<=n) (hn1:n<4294967296):
  Calls prog 168 #[.agg (xI ax),.int .u32 n] w (pv (.agg (xI (xF5 ax n))) w):=by
 have HM:Hid (∀W,Calls prog 123 #[.agg (xI ax),.agg #[.int .u64 n,.int .u64 0,.int .u64 0,.int .u64 0,.int .u64 0]] W (pv (.agg (xI (xF5 ax n))) W)):=ι (λW=>xBw ax [n,0,0,0,0] W hl hu rfl (xDs ⟨hn0,ω⟩ ⟨δ,δ⟩ ⟨δ,δ⟩ ⟨δ,δ⟩ ⟨δ,δ⟩))
 have hrl:(xF5 ax n).length=5:=rfl;have HI:=ι (vW hl);have H0:=ι (xKt.start (w:=w) ax);generalize xF5 ax n=res at HM hrl⊢;have HIr:=ι (vW hrl);have HZr:Hid ((xI (List.replicate 5 0)).size=(xI res).size):=ι (xCp σ hrl);clear hl hu;go_enter func168,ntmps168
 go_upto_region 1 with fail
 refine(λ(h:∀W3,Hid (xKt w ax W3)->Code.wp _ _ _ _ W3)=>h _ H0) ?_;clear H0;intro W0 H0;refine Bi ?_;refine Ao rfl _ _ rfl w.heap.size rfl _ (xI ax) (0,0) _ H0.o.ba underlying188 rfl HI.o ?_;repeat go_step
 refine cM (HM.o _) λw7 hb7=>?_;have h7:=H0.o.below hb7;go_wp2_with (refine Av rfl _ _ _ rfl (w.heap.size+1) (xI res) rfl rfl _ _ h7.bz HIr.o HZr.o (yM _) ?_)
 refine Ak (Dn rfl _ _ (w.heap.size+1) _ _ (0,0) _ rfl (Bp _ _ _ _ _ _ h7.bz) underlying188 rfl HIr.o) rfl ?_;exact⟨rfl,Bn h7.bel ω _⟩
theorem xSe (ax:List Int) (n:Nat) (w:World) (hl:ax.length=5) (hu:yT ax) (hn:n<=1000):
  Calls prog 172 #[.agg (xI ax),.int .i64 n] w (pv (.agg (xI (sqI ax n))) w):=by
 have HM:Hid (∀k W,Calls prog 123 #[.agg (xI (sqI ax k)),.agg (xI (sqI ax k))] W (pv (.agg (xI (sqI ax (k+1)))) W)):=ι (λk W=>xBw _ _ W (xIw hl k) (yK1 hu k) (xIw hl k) (yK1 hu k))
 have HI:Hid (∀k,(prog.info? 188).map (·.size)=some (xI (sqI ax k)).size):=ι (λk=>vW (xIw hl k));have HZ:Hid (∀k,(xI (sqI ax k)).size=5):=ι (λk=>by rw[yB,xIw hl k]);have H0:Hid (xKt w (sqI ax 0) _):=ι (xKt.start (w:=w) ax);have HL:=ι hl;clear hl hu
 go_enter func172,ntmps172;go_upto_region 1 with fail
 refine(λ(h:∀W3,Hid (xKt w (sqI ax 0) W3)->Code.wp _ _ _ _ W3)=>h _ H0) ?_;clear H0;intro W0 H0;go_wp2_with fail
 go_loopw [6] (λiv W=>∃k:Nat,k<=n/\iv=.int .i64 k/\Hid (xKt w (sqI ax k) W)) (λiv _=>n- (intOf iv).toNat)
 case atStart=>exact⟨0,Bc _,rfl,H0⟩
 case round=>
  clear H0;obtain⟨k,hk,rfl,hr⟩:=hrel
  by_cases hlt:k<n
  ·have HMk:=ι (HM.o k);have HIk:=ι (HI.o k);have HIn:=ι (HI.o (k+1));have HZk:Hid ((xI (sqI ax k)).size=(xI (sqI ax (k+1))).size):=ι (by rw[HZ.o,HZ.o]);obtain⟨s1,hs1⟩:=eX (sqI ax (k+1));rw[hs1] at HMk HIn HZk;have HS1:=ι hs1;clear hs1
   generalize sqI ax k=s0 at hr HMk HIk HZk;go_upto_region 3 with fail
   refine Bi ?_;refine Ao rfl _ _ rfl w.heap.size rfl _ (xI s0) (0,0) _ hr.o.ba underlying188 rfl HIk.o ?_;refine Ao rfl _ _ rfl w.heap.size rfl _ (xI s0) (0,0) _ hr.o.ba underlying188 rfl HIk.o ?_;repeat go_step
   refine cM (HMk.o _) λw7 hb7=>?_;have h7:=hr.o.below hb7;have h8:=ι (h7.row s1);go_wp2_with (refine Av rfl _ _ _ rfl w.heap.size (xI s1) rfl rfl _ _ h7.ba HIn.o HZk.o (yM _) ?_)
   exact⟨⟨k+1,ω,by go_num,by rw[HS1.o];exact h8⟩,by simp[intOf];omega⟩
  ·have hke:k=n:=ω;subst hke;have HIr:=ι (HI.o k);have HZr:Hid ((xI (List.replicate 5 0)).size=(xI (sqI ax k)).size):=ι (by rw[HZ.o];rfl);clear HM;obtain⟨res,hres⟩:=eX (sqI ax k)
   have HE:Hid (Ending.returned (Value.agg (xI res))=.returned (.agg (xI (sqI ax k)))):=ι (by rw[hres]);rw[hres] at hr HIr HZr;clear hk hlt hres;go_upto_region 5 with fail
   refine Bi ?_;refine Ao rfl _ _ rfl w.heap.size rfl _ (xI res) (0,0) _ hr.o.ba underlying188 rfl HIr.o ?_;refine Av rfl _ _ _ rfl (w.heap.size+1) (xI res) rfl rfl _ _ hr.o.bz HIr.o HZr.o (yM _) ?_;go_wp2
   refine Ak (Dn rfl _ _ (w.heap.size+1) _ _ (0,0) _ rfl (Bp _ _ _ _ _ _ hr.o.bz) underlying188 rfl HIr.o) rfl ?_;exact⟨(by first|rfl|exact HE.o),Bn hr.o.bel ω _⟩
theorem xTg (ax:List Int) (w:World) (hl:ax.length=5) (hu:yT ax):
  Calls prog 169 #[.agg (xI ax)] w (pv (.agg (xI (rQ ax))) w):=by
 have HN:=ι (λW=>kI ax W hl hu);have HIa:=ι (vW hl);have HIn:=ι (vW (zW ax));have HZa:=ι (xCp hl (zW ax));have hnl:=zW ax;have hnu:=jO ax;have H0:=ι (xKt.start (w:=w) ax);have HR:Hid (∀m n,m=4->n=5->rQ ax=(lcI (zQ ax) (ovI (zQ ax) m) n).1):=ι (λm n hm hn=>by rw[hm,hn];rfl)
 obtain⟨res,hres⟩:=eX (rQ ax);rw[hres] at HR⊢;clear hl hu hres;generalize zQ ax=na at HN HIn HZa hnl hnu HR;go_enter func169,ntmps169;go_upto_region 1 with fail
 refine(λ(h:∀W3,Hid (xKt w ax W3)->Code.wp _ _ _ _ W3)=>h _ H0) ?_;clear H0;intro W0 H0;refine Bi ?_;refine Ao rfl _ _ rfl w.heap.size rfl _ (xI ax) (0,0) _ H0.o.ba underlying188 rfl HIa.o ?_;repeat go_step
 refine cM (HN.o _) λw7 hb7=>?_;have h7:=H0.o.below hb7;have H8:=ι (h7.row na);have HV:=ι (λk=>ovI_lt na k);have HV0:Hid (ovI na 0=IntKind.u64.wrap (na.getD 0 0+19) / 2251799813685248):=ι rfl;obtain⟨v,hv⟩:=eX (na.getD 0 0);rw[hv] at HV0
 obtain⟨v0,v1⟩:=hv▸hnu 0;obtain⟨o0,ho0⟩:=eX (ovI na 0);rw[ho0] at HV0;have HO0:=ι ho0;have q0:=H8.o.ba.cell (i:=0) ω;rw[hv] at q0;have HU0:=ι (wrap_u64 (v+19));clear ho0 hv H0 hb7
 go_wp2_with (refine Av rfl _ _ _ rfl w.heap.size (xI na) rfl rfl _ _ h7.ba HIn.o HZa.o (yM _) ?_)
 clear q0 h7;generalize w7.setRow w.heap.size (xI na)=w8 at H8⊢
 go_loopw [3,4] (λov iv W=>∃i k:Nat,i=k+1/\k<=4/\iv=.int .i64 i/\ov=.int .u64 (ovI na k)/\Hid (xKt w na W)) (λ_ iv _=>5- (intOf iv).toNat)
 case atStart=>exact⟨1,0,rfl,δ,rfl,by rw[HO0.o,HV0.o],H8⟩
 case round=>
  obtain⟨i,k,hik,hk,rfl,rfl,hr⟩:=hrel;clear H8;obtain⟨o1,o2⟩:=HV.o k
  by_cases hlt:i<5
  ·have HS:Hid (∀j,j=k+1->ovI na (k+1)=IntKind.u64.wrap (na.getD j 0+ovI na k) / 2251799813685248):=ι (λj hj=>by rw[hj];rfl)
   replace HS:=ι (HS.o i hik)
   obtain⟨s,hs⟩:=eX (ovI na (k+1));rw[hs] at HS;have HSE:=ι hs;have q0:=hr.o.ba.cell (i:=i) ω;obtain⟨x0,x1⟩:=hnu i;generalize ovI na k=o at o1 o2 HS⊢;generalize na.getD i 0=x at q0 x0 x1 HS;have HIK:=ι hik;have HB:=ι (wrap_u64 (x+o));clear hs hik v0 v1;go_wp2
   exact⟨⟨i+1,k+1,by rw[HIK.o],by have:=HIK.o;omega,by go_num,by rw[HSE.o,HS.o],hr⟩,by simp[intOf];omega⟩
  ·have hke:k=4:=ω;have HRk:=ι (λn hn=>HR.o k n hke hn);have HLC:=ι (λi=>lcI_c na o1 o2 i);have HLL:=ι (λi=>xT2 na (ovI na k) i);have HLU:=ι (λi=>yL6 (ovI na k) hnu i);have H9:Hid (xKt w (lcI na (ovI na k) 0).1 wr):=ι hr.o
   have HC0:Hid ((lcI na (ovI na k) 0).2=19*ovI na k):=ι rfl;generalize ovI na k=o at o1 o2 HRk HLC HLL HLU H9 HC0⊢;clear hr hke hk hik v0 v1;go_wp2_with fail
   go_loopw [5,26] (λcv jv W=>∃j:Nat,j<=5/\jv=.int .i64 j/\cv=.int .u64 (lcI na o j).2/\Hid (xKt w (lcI na o j).1 W)) (λ_ jv _=>5- (intOf jv).toNat)
   case atStart=>exact⟨0,δ,rfl,by rw[HC0.o],H9⟩
   case round=>
    rename World=>wj
    obtain⟨j,hj,rfl,rfl,hr⟩:=hrel;clear H9;obtain⟨c1,c2⟩:=HLC.o j;have hll:=HLL.o j;have hlu:=HLU.o j
    by_cases hlt2:j<5
    ·have HS:Hid (lcI na o (j+1)=((lcI na o j).1.set j (bits .and .u64 (IntKind.u64.wrap ((lcI na o j).1.getD j 0+(lcI na o j).2)) 2251799813685247),IntKind.u64.wrap ((lcI na o j).1.getD j 0+(lcI na o j).2) / 2251799813685248)):=ι rfl;obtain⟨s,hs⟩:=eX (lcI na o (j+1))
     rw[hs] at HS;have HSE:=ι hs;generalize (lcI na o j).1=l at hr hll hlu HS;generalize (lcI na o j).2=c at c1 c2 HS⊢;have q0:=hr.o.ba.cell (i:=j) ω;have q1:=hr.o.ba.free j;obtain⟨x0,x1⟩:=hlu j;generalize l.getD j 0=x at q0 x0 x1 HS
     obtain⟨y,hy⟩:=eX (IntKind.u64.wrap (x+c));obtain⟨y0,y1⟩:=hy▸wrap_u64 (x+c);rw[hy] at HS;have HP:=ι (hr.o.put j (bits .and .u64 y 2251799813685247));clear hs hr o1 o2;go_wp2;refine⟨⟨j+1,ω,by go_num,by rw[HSE.o,HS.o],?_⟩,by simp[intOf];omega⟩;rw[HSE.o,HS.o]
     exact HP
    ·have hje:j=5:=ω;have HRj:=ι (HRk.o j hje);have HIr:Hid ((prog.info? 188).map (·.size)=some (xI res).size):=ι (vW (by rw[HRj.o,hll,hnl]));have HZr:Hid ((xI (List.replicate 5 0)).size=(xI res).size):=ι (xCp σ (by rw[HRj.o,hll,hnl]));rw[<-HRj.o] at hr
     have hneg:¬((j:Int)<5):=ω;clear HRj hll hlu hje hj hlt2 HLC HLL HLU HRk HC0 o1 o2;go_upto_region 15 with fail
     refine Bi ?_;refine Ao rfl _ _ rfl w.heap.size rfl _ (xI res) (0,0) _ hr.o.ba underlying188 rfl HIr.o ?_;refine Av rfl _ _ _ rfl (w.heap.size+1) (xI res) rfl rfl _ _ hr.o.bz HIr.o HZr.o (yM _) ?_;go_wp2
     refine Ak (Dn rfl _ _ (w.heap.size+1) _ _ (0,0) _ rfl (Bp _ _ _ _ _ _ hr.o.bz) underlying188 rfl HIr.o) rfl ?_;exact⟨(by first|rfl|exact HE.o),Bn hr.o.bel ω _⟩
end Go.Proofs.FE
namespace Mailsack
theorem yF7 {a b:Int} (ha:U64 a) (hb:U64 b):Go.bits .xor .u64 a (Go.bits .xor .u64 a b)=b:=by
 obtain⟨a0,a1⟩:=ha;obtain⟨b0,b1⟩:=hb;obtain⟨x,rfl⟩:=Ct a0;obtain⟨y,rfl⟩:=Ct b0;have hx:x<18446744073709551616:=ω;have hy:y<18446744073709551616:=ω;have hz:x ^^^y<18446744073709551616:=Nat.xor_lt_two_pow (n:=64) hx hy
 rw[Gj x y hx hy,Gj x (x ^^^y) hx hz,<-Nat.xor_assoc,Nat.xor_self,Nat.zero_xor]
theorem xZi {a b:Int} (ha:U64 a) (hb:U64 b):Go.bits .xor .u64 b (Go.bits .xor .u64 a b)=a:=by
 obtain⟨a0,a1⟩:=ha;obtain⟨b0,b1⟩:=hb;obtain⟨x,rfl⟩:=Ct a0;obtain⟨y,rfl⟩:=Ct b0;have hx:x<18446744073709551616:=ω;have hy:y<18446744073709551616:=ω;have hz:x ^^^y<18446744073709551616:=Nat.xor_lt_two_pow (n:=64) hx hy
 rw[Gj x y hx hy,Gj y (x ^^^y) hy hz,Nat.xor_comm x y,<-Nat.xor_assoc,Nat.xor_self,Nat.zero_xor]
theorem yEk {a:Int} (ha:U64 a):Go.bits .and .u64 a 18446744073709551615=a:=by
 obtain⟨a0,a1⟩:=ha;obtain⟨x,rfl⟩:=Ct a0;have hx:x<18446744073709551616:=ω;have h:=Go.bits_and_u64_nat x 18446744073709551615 hx δ;rw[show((18446744073709551615:Nat):Int)=18446744073709551615 by rfl] at h
 rw[h,show(18446744073709551615:Nat)=2^64-1 by decide,Nat.and_two_pow_sub_one_eq_mod,Dx hx]
theorem yI4 {a:Int} (ha:U64 a):Go.bits .and .u64 a 0=0:=by
 obtain⟨a0,a1⟩:=ha;obtain⟨x,rfl⟩:=Ct a0;have hx:x<18446744073709551616:=ω;have h:=Go.bits_and_u64_nat x 0 hx δ;rw[show((0:Nat):Int)=0 by rfl] at h;rw[h,Nat.and_zero]
 rfl
theorem xU8 {a:Int} (ha:U64 a):Go.bits .xor .u64 a 0=a:=by
 obtain⟨a0,a1⟩:=ha;obtain⟨x,rfl⟩:=Ct a0;have hx:x<18446744073709551616:=ω;have h:=Gj x 0 hx δ;rw[show((0:Nat):Int)=0 by rfl] at h;rw[h,Nat.xor_zero]
def swI (a b:List Int):Nat->List Int
 |0=>a
 |i+1=>(swI a b i).set i (b.getD i 0)
theorem xSb (a b:List Int):∀i,(swI a b i).length=a.length
 |0=>rfl
 |i+1=>by rw[swI,Bf,xSb a b i]
theorem yAm (a b:List Int):∀i j,i<=j->(swI a b i).getD j 0=a.getD j 0
 |0,_,_=>rfl
 |i+1,j,h=>by
  rw[swI,Aa,Co,Ag ω,<-Aa];exact yAm a b i j ω
theorem yAn {a b:List Int} (h:a.length=5) (h2:b.length=5):swI a b 5=b:=by
 obtain⟨x0,x1,x2,x3,x4,rfl⟩:=jX h;obtain⟨y0,y1,y2,y3,y4,rfl⟩:=jX h2
 rfl
end Mailsack
namespace Go.Proofs.FE
open Go.RowKit Mailsack MM BB SH
theorem tJ {P:Program} {fn:Func} {p q:Tmp} {ty:TypeId} (h:fn.results=#[.cell p ty,.cell q ty]) (tmps:Array Value) (w:World) (g k:Nat) (t t':TypeId) (cs ds:Array Value) (fr fr':Nat×Nat) (d:TypeDesc)
  (hp:tmps.getD p undef=.pointer (some (θ g 0))) (hq:tmps.getD q undef=.pointer (some (θ k 0))) (hg:w.heap[g]?=some (.cells cs t fr)) (hk:w.heap[k]?=some (.cells ds t' fr'))
  (hu:P.underlying ty=some d) (hd:(match d with|.struct _|.array _ _=>true|_=>false)=true) (hi:(P.info? ty).map (·.size)=some cs.size) (hi2:(P.info? ty).map (·.size)=some ds.size):
  (results fn tmps).run P w=.ok (.tuple #[.agg cs,.agg ds]) w:=by
 have hp':tmps[p]?.getD undef=.pointer (some (θ g 0)):=by simpa using hp
 have hq':tmps[q]?.getD undef=.pointer (some (θ k 0)):=by simpa using hq
 simp[results,h,hp',hq',asAddr,run_loadVar_row w g t ty cs fr d hg hu hd hi,run_loadVar_row w k t' ty ds fr' d hk hu hd hi2]
structure SwM (w:World) (ax bx rx sx:List Int) (W:World):Prop where
 ba:wL 188 W w.heap.size ax
 bb:wL 188 W (w.heap.size+1) bx
 br:wL 188 W (w.heap.size+2) rx
 bs:wL 188 W (w.heap.size+3) sx
 bel:ψ w W
section
variable {w W W':World} {ax bx rx sx:List Int}
theorem SwM.start (ax bx:List Int):SwM w ax bx (List.replicate 5 0) (List.replicate 5 0) ((((w.alloc (.cells (xI ax) 188)).alloc (.cells (xI bx) 188)).alloc (.cells (xI (List.replicate 5 0)) 188)).alloc (.cells (xI (List.replicate 5 0)) 188)):=by
 have h:=jR.start (w:=w) ax bx;have hz:(((w.alloc (.cells (xI ax) 188)).alloc (.cells (xI bx) 188)).alloc (.cells (xI (List.replicate 5 0)) 188)).heap.size=w.heap.size+3:=σ
 have hn:=xJ (((w.alloc (.cells (xI ax) 188)).alloc (.cells (xI bx) 188)).alloc (.cells (xI (List.replicate 5 0)) 188)) (.cells (xI (List.replicate 5 0)) 188);rw[hz] at hn;exact⟨xN h.ba _,xN h.bb _,xN h.bz _,hn,h.bel.alloc (by rw[hz];omega) _⟩
theorem SwM.drew (h:SwM w ax bx rx sx W):SwM w ax bx rx sx W.drew:=⟨h.ba,h.bb,h.br,h.bs,h.bel.drew⟩
theorem SwM.xAa (h:SwM w ax bx rx sx W) (i:Nat) (x:Int):SwM w (ax.set i x) bx rx sx (W.setCell (θ w.heap.size i) (.int .u64 x)):=
 ⟨h.ba.put i x,h.bb.far (p:=θ w.heap.size i) σ _,h.br.far (p:=θ w.heap.size i) σ _,h.bs.far (p:=θ w.heap.size i) σ _,h.bel.setCell (p:=θ w.heap.size i) ν _⟩
theorem SwM.yEy (h:SwM w ax bx rx sx W) (i:Nat) (x:Int):SwM w ax (bx.set i x) rx sx (W.setCell (θ (w.heap.size+1) i) (.int .u64 x)):=
 ⟨h.ba.far (p:=(θ (w.heap.size+1) i)) σ _,h.bb.put i x,h.br.far (p:=(θ (w.heap.size+1) i)) σ _,h.bs.far (p:=(θ (w.heap.size+1) i)) σ _,h.bel.setCell (p:=(θ (w.heap.size+1) i)) σ _⟩
theorem SwM.rowR (h:SwM w ax bx rx sx W) (xs:List Int):SwM w ax bx xs sx (W.setRow (w.heap.size+2) (xI xs)):=
 ⟨(Bj _ _ _ _ ω).trans h.ba,(Bj _ _ _ _ ω).trans h.bb,Bp _ _ _ _ _ _ h.br,(Bj _ _ _ _ ω).trans h.bs,Bn h.bel ω _⟩
theorem SwM.rowS (h:SwM w ax bx rx sx W) (xs:List Int):SwM w ax bx rx xs (W.setRow (w.heap.size+3) (xI xs)):=
 ⟨(Bj _ _ _ _ ω).trans h.ba,(Bj _ _ _ _ ω).trans h.bb,(Bj _ _ _ _ ω).trans h.br,Bp _ _ _ _ _ _ h.bs,Bn h.bel ω _⟩
end
theorem yFq (ax bx:List Int) (w:World) (hl:ax.length=5) (hu:yT ax) (hl2:bx.length=5) (hu2:yT bx):
  Calls prog 165 #[.agg (xI ax),.agg (xI bx),.bool true] w (pv (.tuple #[.agg (xI bx),.agg (xI ax)]) w):=by
 have H0:Hid (SwM w (swI ax bx 0) (swI bx ax 0) (List.replicate 5 0) (List.replicate 5 0) _):=ι (SwM.start (w:=w) ax bx);have HL:=ι (λi=>xSb ax bx i);have HL2:=ι (λi=>xSb bx ax i)
 have HE:Hid (∀n,n=5->swI ax bx n=bx/\swI bx ax n=ax):=ι (λn hn=>by rw[hn];exact⟨yAn hl hl2,yAn hl2 hl⟩);have HA:=ι (λi=>yAm ax bx i i ν);have HA2:=ι (λi=>yAm bx ax i i ν);go_enter func165,ntmps165;go_upto_region 1 with fail
 refine(λ(h:∀W3,Hid (SwM w (swI ax bx 0) (swI bx ax 0) (List.replicate 5 0) (List.replicate 5 0) W3)->Code.wp _ _ _ _ W3)=>h _ H0) ?_;clear H0;intro W0 H0;go_wp2_with fail
 rw[show bits .xor .u64 IntKind.u64.max 0=18446744073709551615 by decide]
 go_loopw [14] (λiv W=>∃i:Nat,i<=5/\iv=.int .i64 i/\Hid (SwM w (swI ax bx i) (swI bx ax i) (List.replicate 5 0) (List.replicate 5 0) W)) (λiv _=>5- (intOf iv).toNat)
 case atStart=>exact⟨0,δ,rfl,H0⟩
 case round=>
  clear H0;obtain⟨i,hi,rfl,hr⟩:=hrel
  by_cases hlt:i<5
  ·have hll:=HL.o i;have hll2:=HL2.o i;have HPX:=ι (HA.o i);have HQX:=ι (HA2.o i);obtain⟨x0,x1⟩:=hu i;obtain⟨y0,y1⟩:=hu2 i;have HS:Hid (swI ax bx (i+1)=(swI ax bx i).set i (bx.getD i 0)/\swI bx ax (i+1)=(swI bx ax i).set i (ax.getD i 0)):=ι ⟨rfl,rfl⟩
   obtain⟨s1,hs1⟩:=eX (swI ax bx (i+1));obtain⟨s2,hs2⟩:=eX (swI bx ax (i+1));rw[hs1,hs2] at HS;have HS0:=HS;have HS1:=ι hs1;have HS2:=ι hs2;clear hs1 hs2;generalize swI ax bx i=p at hr hll HS HS0 HPX;generalize swI bx ax i=q at hr hll2 HS HS0 HQX
   generalize ax.getD i 0=x at x0 x1 HS HS0 HPX;generalize bx.getD i 0=y at y0 y1 HS HS0 HQX;obtain⟨d,hd⟩:=eX (bits .and .u64 (bits .xor .u64 x y) 18446744073709551615);have hd1:bits .xor .u64 x d=y:=by rw[<-hd,yEk (zP _ _ _)];exact yF7 ⟨x0,x1⟩ ⟨y0,y1⟩
   have hd2:bits .xor .u64 y d=x:=by rw[<-hd,yEk (zP _ _ _)];exact xZi ⟨x0,x1⟩ ⟨y0,y1⟩
   obtain⟨d0,d3⟩:=hd▸zP .and (bits .xor .u64 x y) 18446744073709551615;have hpl:=hll.trans hl;have hql:=hll2.trans hl2;clear HS;go_upto_region 7 with fail
   refine RG.xU (λW=>Hid (SwM w p q (List.replicate 5 0) (List.replicate 5 0) W)) κ κ (ι hr.o.drew) ?_
   iterate 10
    apply RG.xL
    ·intro w9 hw9;have q1:=hw9.o.ba.cell (i:=i) ω;have q2:=hw9.o.bb.cell (i:=i) ω;rw[HPX.o] at q1;rw[HQX.o] at q2;repeat go_step
     exact RG.xE hw9
    ·rfl
   refine RG.xX (λw9 hw9=>?_);have HP:=ι ((hw9.o.xAa i y).yEy i x);rw[<-HS0.o.1,<-HS0.o.2] at HP;have q0:=hw9.o.ba.cell (i:=i) ω;have q1:=hw9.o.bb.cell (i:=i) ω;rw[HPX.o] at q0;rw[HQX.o] at q1;have f0:=hw9.o.ba.free i;have f1:=hw9.o.bb.free i;clear hw9 hr;go_wp2
   exact⟨⟨i+1,ω,by go_num,by rw[HS1.o,HS2.o];exact HP⟩,by simp[intOf];omega⟩
  ·have hie:i=5:=ω;obtain⟨e1,e2⟩:=HE.o i hie;rw[e1,e2] at hr;have HIa:=ι (vW hl2);have HIb:=ι (vW hl);have HZa:Hid ((xI (List.replicate 5 0)).size=(xI bx).size):=ι (xCp σ hl2);have HZb:Hid ((xI (List.replicate 5 0)).size=(xI ax).size):=ι (xCp σ hl)
   clear HA HA2 HL HL2 HE hie e1 e2 hu hu2 hl hl2;go_upto_region 11 with fail
   refine RG.zA 4 (λL W=>Hid (SwM w bx ax (if L 2 then bx else List.replicate 5 0) (if L 3 then ax else List.replicate 5 0) W)) (λL L' W h hI=>by rw[<-h 2 δ,<-h 3 δ];exact hI) κ κ rfl (ι hr.o.drew) ?_;clear hr;apply RG.xS
   ·rfl
   ·rfl
   ·intro L w9 h0 hcl xQ hw9;refine Ao rfl _ _ rfl w.heap.size rfl _ (xI bx) (0,0) _ hw9.o.ba underlying188 rfl HIa.o ?_;repeat go_step
    refine RG.xE ?_;exact⟨xQ,hw9⟩
   ·rfl
   apply RG.xS
   ·rfl
   ·rfl
   ·intro L w9 h0 hcl xQ hw9;refine Ao rfl _ _ rfl (w.heap.size+1) rfl _ (xI ax) (0,0) _ hw9.o.bb underlying188 rfl HIb.o ?_;repeat go_step
    refine RG.xE ?_;exact⟨xQ,hw9⟩
   ·rfl
   apply RG.xS
   ·rfl
   ·rfl
   ·intro L w9 h0 hcl xQ hw9;have hs9:=hw9.o;rw[h0,Ag σ] at hs9;refine Av rfl _ _ _ rfl (w.heap.size+2) (xI bx) rfl rfl _ _ hs9.br HIa.o HZa.o (yM _) ?_;repeat go_step
    refine RG.xE ?_;exact⟨xQ,ι (hs9.rowR bx)⟩
   ·rfl
   apply RG.xS
   ·rfl
   ·rfl
   ·intro L w9 h0 hcl xQ hw9;have hs9:=hw9.o;rw[h0,Ag (c:=false=true) σ] at hs9;refine Av rfl _ _ _ rfl (w.heap.size+3) (xI ax) rfl rfl _ _ hs9.bs HIb.o HZb.o (yM _) ?_;repeat go_step
    refine RG.xE ?_;exact⟨xQ,ι (hs9.rowS ax)⟩
   ·rfl
   refine RG.yY (λw9 hw9=>?_);rw[Ah rfl,Ah rfl] at hw9;go_wp2;refine Ak (tJ rfl _ _ (w.heap.size+2) (w.heap.size+3) _ _ _ _ (0,0) (0,0) _ rfl rfl hw9.o.br hw9.o.bs underlying188 rfl HIa.o HIb.o) rfl ?_;exact⟨rfl,hw9.o.bel⟩
theorem set_self {l:List Int} {i:Nat} {x:Int} (h:i<l.length) (hx:l.getD i 0=x):l.set i x=l:=by
 rw[<-hx,Aa,Af h];exact List.set_getElem_self h
theorem yJx (ax bx:List Int) (w:World) (hl:ax.length=5) (hu:yT ax) (hl2:bx.length=5) (hu2:yT bx):
  Calls prog 165 #[.agg (xI ax),.agg (xI bx),.bool false] w (pv (.tuple #[.agg (xI ax),.agg (xI bx)]) w):=by
 have H0:=ι (SwM.start (w:=w) ax bx);go_enter func165,ntmps165;go_upto_region 1 with fail
 refine(λ(h:∀W3,Hid (SwM w ax bx (List.replicate 5 0) (List.replicate 5 0) W3)->Code.wp _ _ _ _ W3)=>h _ H0) ?_;clear H0;intro W0 H0;go_wp2_with fail
 go_loopw [14] (λiv W=>∃i:Nat,i<=5/\iv=.int .i64 i/\Hid (SwM w ax bx (List.replicate 5 0) (List.replicate 5 0) W)) (λiv _=>5- (intOf iv).toNat)
 case atStart=>exact⟨0,δ,rfl,H0⟩
 case round=>
  clear H0;obtain⟨i,hi,rfl,hr⟩:=hrel
  by_cases hlt:i<5
  ·obtain⟨x,hx⟩:=eX (ax.getD i 0);obtain⟨y,hy⟩:=eX (bx.getD i 0);obtain⟨x0,x1⟩:=hx▸hu i;obtain⟨y0,y1⟩:=hy▸hu2 i;have HSX:=ι (set_self ω hx);have HSY:=ι (set_self ω hy);have HPX:=ι hx;have HQX:=ι hy;have hd:bits .and .u64 (bits .xor .u64 x y) 0=0:=yI4 (zP _ _ _)
   have hd1:bits .xor .u64 x 0=x:=xU8 ⟨x0,x1⟩;have hd2:bits .xor .u64 y 0=y:=xU8 ⟨y0,y1⟩;clear hx hy;go_upto_region 7 with fail
   refine RG.xU (λW=>Hid (SwM w ax bx (List.replicate 5 0) (List.replicate 5 0) W)) κ κ (ι hr.o.drew) ?_
   iterate 10
    apply RG.xL
    ·intro w9 hw9;have q1:=hw9.o.ba.cell (i:=i) ω;have q2:=hw9.o.bb.cell (i:=i) ω;rw[HPX.o] at q1;rw[HQX.o] at q2;repeat go_step
     exact RG.xE hw9
    ·rfl
   refine RG.xX (λw9 hw9=>?_);have HP:=ι ((hw9.o.xAa i x).yEy i y);rw[HSX.o,HSY.o] at HP;have q0:=hw9.o.ba.cell (i:=i) ω;have q1:=hw9.o.bb.cell (i:=i) ω;rw[HPX.o] at q0;rw[HQX.o] at q1;have f0:=hw9.o.ba.free i;have f1:=hw9.o.bb.free i;clear hw9 hr;go_wp2
   exact⟨⟨i+1,ω,by go_num,HP⟩,by simp[intOf];omega⟩
  ·have hie:i=5:=ω;have HIa:=ι (vW hl);have HIb:=ι (vW hl2);have HZa:Hid ((xI (List.replicate 5 0)).size=(xI ax).size):=ι (xCp σ hl);have HZb:Hid ((xI (List.replicate 5 0)).size=(xI bx).size):=ι (xCp σ hl2);clear hie hu hu2 hl hl2;go_upto_region 11 with fail
   refine RG.zA 4 (λL W=>Hid (SwM w ax bx (if L 2 then ax else List.replicate 5 0) (if L 3 then bx else List.replicate 5 0) W)) (λL L' W h hI=>by rw[<-h 2 δ,<-h 3 δ];exact hI) κ κ rfl (ι hr.o.drew) ?_;clear hr;apply RG.xS
   ·rfl
   ·rfl
   ·intro L w9 h0 hcl xQ hw9;refine Ao rfl _ _ rfl w.heap.size rfl _ (xI ax) (0,0) _ hw9.o.ba underlying188 rfl HIa.o ?_;repeat go_step
    refine RG.xE ?_;exact⟨xQ,hw9⟩
   ·rfl
   apply RG.xS
   ·rfl
   ·rfl
   ·intro L w9 h0 hcl xQ hw9;refine Ao rfl _ _ rfl (w.heap.size+1) rfl _ (xI bx) (0,0) _ hw9.o.bb underlying188 rfl HIb.o ?_;repeat go_step
    refine RG.xE ?_;exact⟨xQ,hw9⟩
   ·rfl
   apply RG.xS
   ·rfl
   ·rfl
   ·intro L w9 h0 hcl xQ hw9;have hs9:=hw9.o;rw[h0,Ag σ] at hs9;refine Av rfl _ _ _ rfl (w.heap.size+2) (xI ax) rfl rfl _ _ hs9.br HIa.o HZa.o (yM _) ?_;repeat go_step
    refine RG.xE ?_;exact⟨xQ,ι (hs9.rowR ax)⟩
   ·rfl
   apply RG.xS
   ·rfl
   ·rfl
   ·intro L w9 h0 hcl xQ hw9;have hs9:=hw9.o;rw[h0,Ag (c:=false=true) σ] at hs9;refine Av rfl _ _ _ rfl (w.heap.size+3) (xI bx) rfl rfl _ _ hs9.bs HIb.o HZb.o (yM _) ?_;repeat go_step
    refine RG.xE ?_;exact⟨xQ,ι (hs9.rowS bx)⟩
   ·rfl
   refine RG.yY (λw9 hw9=>?_);rw[Ah rfl,Ah rfl] at hw9;go_wp2;refine Ak (tJ rfl _ _ (w.heap.size+2) (w.heap.size+3) _ _ _ _ (0,0) (0,0) _ rfl rfl hw9.o.br hw9.o.bs underlying188 rfl HIa.o HIb.o) rfl ?_;exact⟨rfl,hw9.o.bel⟩
end Go.Proofs.FE
namespace Mailsack
def xAt (l:List Int):List Int:=[Go.bits .or .u64 (l.getD 0 0) (Go.IntKind.u64.wrap (l.getD 1 0*2251799813685248)),Go.bits .or .u64 (l.getD 1 0 / 8192) (Go.IntKind.u64.wrap (l.getD 2 0*274877906944)),Go.bits .or .u64 (l.getD 2 0 / 67108864) (Go.IntKind.u64.wrap (l.getD 3 0*33554432)),Go.bits .or .u64 (l.getD 3 0 / 549755813888) (Go.IntKind.u64.wrap (l.getD 4 0*4096))]
theorem xU9 (l:List Int):yT (xAt l):=by
 intro i
 match i with
 |0=>unfold xAt;simp only[Cj];exact zP _ _ _
 |1=>unfold xAt;simp only[Cj,Cr];exact zP _ _ _
 |2=>unfold xAt;simp only[Cj,Cr];exact zP _ _ _
 |3=>unfold xAt;simp only[Cj,Cr];exact zP _ _ _
 |n+4=>
  rw[Aa,Bz (by simp[xAt])];exact⟨δ,δ⟩
def xL3 (ws:List Int):Nat->Bs
 |0=>xO 32
 |i+1=>(xL3 ws i).set i (oct (ws.getD (i / 8) 0 / 2^(8*(i % 8))))
theorem xI4 (ws:List Int):∀i,(xL3 ws i).length=32
 |0=>yR 32
 |i+1=>by rw[xL3,Bf,xI4 ws i]
def jY (a:List Int):ByteArray:=bsA (xL3 (xAt (rQ a)) 32)
theorem xQt (a:List Int):(jY a).size=32:=by rw[jY,yS,xI4]
def wI (s:ByteArray):Nat->List Int
 |0=>List.replicate 4 0
 |i+1=>(wI s i).set (i / 8) (Go.bits .or .u64 ((wI s i).getD (i / 8) 0) (Go.IntKind.u64.wrap (yU s i*2^(8*(i % 8)))))
theorem xUa (s:ByteArray):∀i,(wI s i).length=4
 |0=>by simp[wI]
 |i+1=>by rw[wI,Bf,xUa s i]
theorem wI_u (s:ByteArray):∀i,yT (wI s i)
 |0=>xCr 4
 |i+1=>(wI_u s i).set _ (zP _ _ _)
def xV9 (w:List Int):List Int:=[Go.bits .and .u64 (w.getD 0 0) 2251799813685247,Go.bits .and .u64 (Go.bits .or .u64 (w.getD 0 0 / 2251799813685248) (Go.IntKind.u64.wrap (w.getD 1 0*8192))) 2251799813685247,Go.bits .and .u64 (Go.bits .or .u64 (w.getD 1 0 / 274877906944) (Go.IntKind.u64.wrap (w.getD 2 0*67108864))) 2251799813685247,Go.bits .and .u64 (Go.bits .or .u64 (w.getD 2 0 / 33554432) (Go.IntKind.u64.wrap (w.getD 3 0*549755813888))) 2251799813685247,Go.bits .and .u64 (w.getD 3 0 / 4096) 2251799813685247]
def xTh (s:ByteArray):List Int:=xV9 (wI s 32)
theorem xOf (s:ByteArray):(xTh s).length=5:=rfl
theorem yGy (w:List Int):yT (xV9 w):=xDs (zP _ _ _) (zP _ _ _) (zP _ _ _) (zP _ _ _) (zP _ _ _)
theorem yDi (s:ByteArray):yT (xTh s):=yGy _
theorem xTb {ws:List Int} (h:ws.length=4):∃a b c d,ws=[a,b,c,d]:=by
 match ws,h with
 |[a,b,c,d],_=>exact⟨a,b,c,d,rfl⟩
end Mailsack
namespace Go.Proofs.FE
open Go.RowKit Mailsack MM BB SH
structure ByM (w:World) (ax:List Int) (W:World):Prop where
 ba:wL 188 W w.heap.size ax
 bel:ψ w W
structure ByL (w:World) (g:Nat) (ws:List Int) (l:Bs) (W:World):Prop where
 bw:wL 241 W g ws
 bo:W.heap[g+1]?=some (.cells (yO l) 228 (0,0))
 bel:ψ w W
 ge:w.heap.size<=g
theorem ByL.put {w W:World} {g:Nat} {ws:List Int} {l:Bs} (h:ByL w g ws l W) (i:Nat) (z:Int):ByL w g ws (l.set i (oct z)) (W.setCell (θ (g+1) i) (.int .u8 (z % 256))):=by
 have hg:=h.ge;have h2:=yD h.bo i (.int .u8 (z % 256));rw[xG7] at h2;exact⟨h.bw.far (p:=(θ (g+1) i)) σ _,h2,h.bel.setCell (p:=(θ (g+1) i)) (by simp only[];omega) _,hg⟩
theorem yE9 (ax:List Int) (w:World) (hl:ax.length=5) (hu:yT ax):
  Calls prog 122 #[.agg (xI ax)] w (pv (.string (jY ax)) w):=by
 have HN:=ι (λW=>xTg ax W hl hu);have HIa:=ι (vW hl);have HIn:=ι (vW (xF6 ax));have HZa:=ι (xCp hl (xF6 ax));have hnl:=xF6 ax;have hnu:=yDk ax;have H0:Hid (ByM w ax (w.alloc (.cells (xI ax) 188))):=ι ⟨xJ _ _,φ w _⟩
 have HR:Hid (∀n,n=32->jY ax=bsA (xL3 (xAt (rQ ax)) n)):=ι (λn hn=>by rw[hn];rfl);generalize jY ax=res at HR⊢;generalize rQ ax=na at HN HIn HZa hnl hnu HR;clear hl hu;go_enter func122,ntmps122;go_upto_region 1 with fail
 refine(λ(h:∀W3,Hid (ByM w ax W3)->Code.wp _ _ _ _ W3)=>h _ H0) ?_;clear H0;intro W0 H0;refine Bi ?_;refine Ao rfl _ _ rfl w.heap.size rfl _ (xI ax) (0,0) _ H0.o.ba underlying188 rfl HIa.o ?_;repeat go_step
 refine cM (HN.o _) λw7 hb7=>?_;have h7:ByM w ax w7:=⟨H0.o.ba.below hb7,bT H0.o.bel hb7⟩;have H8:Hid (ByM w na (w7.setRow w.heap.size (xI na))):=ι ⟨Bp _ _ _ _ _ _ h7.ba,Bn h7.bel ν _⟩;clear H0 hb7
 obtain⟨a,b,c,d,e,rfl⟩:=jX hnl;have ha:=hnu 0;have hb:=hnu 1;have hc:=hnu 2;have hd:=hnu 3;have he:=hnu 4;simp only[Cj,Cr] at ha hb hc hd he;obtain⟨a0,a1⟩:=ha;obtain⟨b0,b1⟩:=hb;obtain⟨c0,c1⟩:=hc;obtain⟨d0,d1⟩:=hd;obtain⟨e0,e1⟩:=he
 have q0:(w7.setRow w.heap.size (xI [a,b,c,d,e])).cell? (θ w.heap.size 0)=some (.int .u64 a):=H8.o.ba.cell (i:=0) σ;have q1:(w7.setRow w.heap.size (xI [a,b,c,d,e])).cell? (θ w.heap.size 1)=some (.int .u64 b):=H8.o.ba.cell (i:=1) σ
 have q2:(w7.setRow w.heap.size (xI [a,b,c,d,e])).cell? (θ w.heap.size 2)=some (.int .u64 c):=H8.o.ba.cell (i:=2) σ;have q3:(w7.setRow w.heap.size (xI [a,b,c,d,e])).cell? (θ w.heap.size 3)=some (.int .u64 d):=H8.o.ba.cell (i:=3) σ
 have q4:(w7.setRow w.heap.size (xI [a,b,c,d,e])).cell? (θ w.heap.size 4)=some (.int .u64 e):=H8.o.ba.cell (i:=4) σ;clear hnu hnl HN;generalize hrow:xI [a,b,c,d,e]=row at*
 go_wp2_with (refine Av rfl _ _ _ rfl w.heap.size row rfl rfl _ _ h7.ba HIn.o HZa.o (by rw[<-hrow];exact yM _) ?_)
 clear q0 q1 q2 q3 q4 HIn HZa HIa;have hz:(w7.setRow w.heap.size row).heap.size=w7.heap.size:=setRow_size _ _ _;have h1:=xN (xJ (w7.setRow w.heap.size row) (.cells (xI (xAt [a,b,c,d,e])) 241)) (.cells (yO (xO 32)) 228)
 have h2:=xJ ((w7.setRow w.heap.size row).alloc (.cells (xI (xAt [a,b,c,d,e])) 241)) (.cells (yO (xO 32)) 228);rw[wY] at h2;rw[hz] at h1 h2
 refine(λ(h:∀W3,Hid (ByL w w7.heap.size (xAt [a,b,c,d,e]) (xO 32) W3)->Code.wp _ _ _ _ W3)=>h _ (ι ⟨h1,h2,(H8.o.bel.alloc (by rw[hz];exact h7.bel.size) _).alloc (by rw[wY,hz];have:=h7.bel.size;omega) _,h7.bel.size⟩)) ?_;clear H8 h7 hz h1 h2 hrow;have hwu:=xU9 [a,b,c,d,e]
 have hwl:(xAt [a,b,c,d,e]).length=4:=rfl;generalize xAt [a,b,c,d,e]=ws at hwu hwl HR⊢;generalize w7.heap.size=g;clear a0 a1 b0 b1 c0 c1 d0 d1 e0 e1;intro W1 H1;have H2:Hid (ByL w g ws (xL3 ws 0) W1):=H1;clear H1;have HL:=ι (λi=>xI4 ws i)
 go_loopw [36] (λiv W=>∃i:Nat,i<=32/\iv=.int .i64 i/\Hid (ByL w g ws (xL3 ws i) W)) (λiv _=>32- (intOf iv).toNat)
 case atStart=>exact⟨0,δ,rfl,H2⟩
 case round=>
  clear H2;obtain⟨i,hi,rfl,hr⟩:=hrel
  by_cases hlt:i<32
  ·have HS:Hid (∀q r,q=i / 8->r=i % 8->xL3 ws (i+1)=(xL3 ws i).set i (oct (ws.getD q 0 / 2^(8*r)))):=ι (λq r hq hr=>by rw[hq,hr];rfl);have hll:=HL.o i;obtain⟨q,hq⟩:∃q,q=i / 8:=⟨_,rfl⟩;obtain⟨r,hrr⟩:∃r,r=i % 8:=⟨_,rfl⟩
   replace HS:=ι (HS.o q r hq hrr)
   have hq4:q<4:=ω;have hr8:r<8:=ω;have hiq:(i:Int) / 8=(q:Int):=ω;have hir:(i:Int) % 8=(r:Int):=ω;obtain⟨s1,hs1⟩:=eX (xL3 ws (i+1));rw[hs1] at HS;have HS1:=ι hs1;clear hs1 hq hrr;generalize xL3 ws i=l at hr hll HS;obtain⟨x0,x1⟩:=hwu q;have q0:=hr.o.bw.cell (i:=q) ω
   generalize ws.getD q 0=x at q0 x0 x1 HS;have q1:=xA hr.o.bo i;rw[xAp ω] at q1;have q2:=xG hr.o.bo i;generalize ((l.getD i 0).toNat:Int)=old at q1;have HP:=ι (hr.o.put i (x / 2^(8*r)));rw[<-HS.o] at HP;clear hr HS;go_wp2
   exact⟨⟨i+1,ω,by go_num,by rw[HS1.o];exact HP⟩,by simp[intOf];omega⟩
  ·have hie:i=32:=ω;have HRi:=ι (HR.o i hie);have HT:=xFg (t:=228) hr.o.bo 32 32 (HL.o i);have hneg:¬((i:Int)<32):=ω;clear HR HL hie hlt hi;generalize xL3 ws i=l at hr HRi HT;go_wp2;go_ret;rw[HRi.o];exact⟨rfl,hr.o.bel⟩
structure OfM (w:World) (ws:List Int) (W:World):Prop where
 bz:wL 188 W w.heap.size (List.replicate 5 0)
 bw:wL 241 W (w.heap.size+1) ws
 bel:ψ w W
theorem OfM.drew {w W:World} {ws:List Int} (h:OfM w ws W):OfM w ws W.drew:=⟨h.bz,h.bw,h.bel.drew⟩
theorem OfM.put {w W:World} {ws:List Int} (h:OfM w ws W) (i:Nat) (x:Int):OfM w (ws.set i x) (W.setCell (θ (w.heap.size+1) i) (.int .u64 x)):=
 ⟨h.bz.far (p:=(θ (w.heap.size+1) i)) σ _,h.bw.put i x,h.bel.setCell (p:=(θ (w.heap.size+1) i)) σ _⟩
theorem of_bad (s:ByteArray) (w:World) (hs:s.size≠32):
  Calls prog 119 #[.string s] w (pv (.tuple #[.agg (xI (List.replicate 5 0)),.bool false]) w):=by
 have hsi:(s.size:Int)≠32:=ω;have hsb:((s.size:Int)!=32)=true:=by simp;omega
 clear hs;go_enter func119,ntmps119;go_wp2;refine Ak (SH.results_cell_tmp rfl _ _ w.heap.size _ _ (0,0) _ rfl (xJ _ _) underlying188 rfl (show(prog.info? 188).map (·.size)=some 5 by kernel_rfl)) rfl ?_;exact⟨rfl,φ w _⟩
theorem of_any (s:ByteArray) (w:World) (hs:s.size=32):
  Calls prog 119 #[.string s] w (pv (.tuple #[.agg (xI (xTh s)),.bool true]) w):=by
 have hsi:(s.size:Int)=32:=ω;have H0:Hid (OfM w (wI s 0) ((w.alloc (.cells (xI (List.replicate 5 0)) 188)).alloc (.cells (xI (List.replicate 4 0)) 241))):=ι ⟨zM _ _ _,zI _ _ _,(φ w _).alloc σ _⟩;have HR:Hid (∀n,n=32->xTh s=xV9 (wI s n)):=ι (λn hn=>by rw[hn];rfl)
 have HL:=ι (λi=>xUa s i);have HU:=ι (λi=>wI_u s i);obtain⟨res,hres⟩:=eX (xTh s);have hrl:res.length=5:=by rw[<-hres];rfl
 rw[hres] at HR⊢;have HS:=ι hs;clear hres hs;go_enter func119,ntmps119;go_upto_region 4 with fail
 refine(λ(h:∀W3,Hid (OfM w (wI s 0) W3)->Code.wp _ _ _ _ W3)=>h _ H0) ?_;clear H0;intro W0 H0;go_wp2_with fail
 go_loopw [12] (λiv W=>∃i:Nat,i<=32/\iv=.int .i64 i/\Hid (OfM w (wI s i) W)) (λiv _=>32- (intOf iv).toNat)
 case atStart=>exact⟨0,δ,rfl,H0⟩
 case round=>
  clear H0;obtain⟨i,hi,rfl,hr⟩:=hrel
  by_cases hlt:i<32
  ·have HSt:Hid (∀q r,q=i / 8->r=i % 8->wI s (i+1)=(wI s i).set q (bits .or .u64 ((wI s i).getD q 0) (IntKind.u64.wrap (yU s i*2^(8*r))))):=ι (λq r hq hr=>by rw[hq,hr];rfl);have hll:=HL.o i;obtain⟨q,hq⟩:∃q,q=i / 8:=⟨_,rfl⟩;obtain⟨r,hrr⟩:∃r,r=i % 8:=⟨_,rfl⟩
   replace HSt:=ι (HSt.o q r hq hrr)
   have hq4:q<4:=ω;have hr8:r<8:=ω;have hiq:(i:Int) / 8=(q:Int):=ω;have hir:(i:Int) % 8=(r:Int):=ω;obtain⟨s1,hs1⟩:=eX (wI s (i+1));rw[hs1] at HSt;have HS1:=ι hs1;have hu:=HU.o i q;have ix:=λw=>zN (P:=prog) underlying9 s (i:Int) i rfl (by rw[HS.o];exact hlt) w
   obtain⟨b0,b1⟩:=zD s i;clear hs1 hq hrr;generalize wI s i=l at hr hll hu HSt;obtain⟨x,hx⟩:=eX (l.getD q 0);rw[hx] at hu HSt;obtain⟨x0,x1⟩:=hu;have HX:=ι hx;generalize yU s i=b at ix b0 b1 HSt;obtain⟨z,hz⟩:=eX (bits .or .u64 x (IntKind.u64.wrap (b*2^(8*r))))
   rw[hz] at HSt;have HZ:=ι hz;clear hx;go_upto_region 7 with fail
   refine RG.zA 15 (λL W=>Hid (OfM w (if L 14 then l.set q z else l) W)) (λL L' W h hI=>by rw[<-h 14 δ];exact hI) κ κ rfl (ι hr.o.drew) ?_;iterate 3 refine RG.cS ?_
   apply RG.xS
   ·rfl
   ·rfl
   ·intro L w9 h0 hcl xQ hw9;have e1:=hcl.not 15 (i:=14) h0 κ;have hs9:=hw9.o;rw[e1,Ag σ] at hs9;have q:=hs9.bw.cell (i:=q) ω;rw[HX.o] at q;clear e1 hs9;repeat go_step
    refine RG.xE ?_;exact⟨xQ,hw9⟩
   ·rfl
   iterate 10 refine RG.cS ?_
   apply RG.xS
   ·rfl
   ·rfl
   ·intro L w9 h0 hcl xQ hw9;have hs9:=hw9.o;rw[h0,Ag σ] at hs9;have q1:=hs9.bw.cell (i:=q) ω;have q2:=hs9.bw.free q;rw[HX.o] at q1;have hp:Hid (OfM w (l.set q z) (w9.setCell (θ (w.heap.size+1) q) (.int .u64 z))):=ι (hs9.put q z);clear hs9;repeat go_step
    refine RG.xE ?_;refine⟨xQ,?_⟩;show Hid (OfM w (if (true:Bool)=true then l.set q z else l) _);rw[Ah rfl];with_reducible exact hp
   ·rfl
   refine RG.yY (λw9 hw9=>?_);rw[Ah rfl,<-HSt.o] at hw9;clear hr;go_wp2;exact⟨⟨i+1,ω,by go_num,by rw[HS1.o];exact hw9⟩,by simp[intOf];omega⟩
  ·have hie:i=32:=ω;have HRi:=ι (HR.o i hie);obtain⟨a,b,c,d,habcd⟩:=xTb (HL.o i);have hu:=HU.o i;rw[habcd] at hr HRi hu;have ha:=hu 0;have hb:=hu 1;have hc:=hu 2;have hd:=hu 3;simp only[Cj,Cr] at ha hb hc hd;obtain⟨a0,a1⟩:=ha;obtain⟨b0,b1⟩:=hb
   obtain⟨c0,c1⟩:=hc;obtain⟨d0,d1⟩:=hd;have q0:wr.cell? (θ (w.heap.size+1) 0)=some (.int .u64 a):=hr.o.bw.cell (i:=0) σ;have q1:wr.cell? (θ (w.heap.size+1) 1)=some (.int .u64 b):=hr.o.bw.cell (i:=1) σ
   have q2:wr.cell? (θ (w.heap.size+1) 2)=some (.int .u64 c):=hr.o.bw.cell (i:=2) σ;have q3:wr.cell? (θ (w.heap.size+1) 3)=some (.int .u64 d):=hr.o.bw.cell (i:=3) σ;have hneg:¬((i:Int)<32):=ω;have HBZ:=ι hr.o.bz;have HBE:=ι hr.o.bel;clear HR HL HU hu habcd hr hie hlt hi
   go_wp2_with (refine Av rfl _ _ _ rfl w.heap.size _ rfl rfl _ _ HBZ.o (show(prog.info? 188).map (·.size)=some 5 by kernel_rfl) rfl (by simp[Value.oneCell']) ?_)
   refine Ak (SH.results_cell_tmp rfl _ _ w.heap.size _ _ (0,0) _ rfl (Bp _ _ _ _ _ _ HBZ.o) underlying188 rfl (show(prog.info? 188).map (·.size)=some 5 by kernel_rfl)) rfl ?_;rw[HRi.o];exact⟨rfl,Bn HBE.o ν _⟩
def Bag (w:World) (B:List (Nat×TypeId×List Int)) (W:World):Prop:=ψ w W/\∀g t ws,(g,t,ws)∈B->w.heap.size<=g/\wL t W g ws
section
variable {w W W':World} {B:List (Nat×TypeId×List Int)}
theorem Bag.get (h:Bag w B W) {g:Nat} {t:TypeId} {ws:List Int} (hm:(g,t,ws)∈B):wL t W g ws:=(h.2 g t ws hm).2
theorem Bag.lt (h:Bag w B W) {g:Nat} {t:TypeId} {ws:List Int} (hm:(g,t,ws)∈B):g<W.heap.size:=xH (h.get hm).blk
theorem Bag.below (h:Bag w B W) (hb:ψ W W'):Bag w B W':=⟨bT h.1 hb,λg t ws hm=>⟨(h.2 g t ws hm).1,(h.2 g t ws hm).2.below hb⟩⟩
theorem Bag.drew (h:Bag w B W):Bag w B W.drew:=⟨h.1.drew,h.2⟩
theorem Bag.alloc (h:Bag w B W) (o:Obj):Bag w B (W.alloc o):=h.below ((Aq _ W).alloc ν o)
theorem Bag.cons (h:Bag w B W) {g:Nat} {t:TypeId} {ws:List Int} (hg:w.heap.size<=g) (hb:wL t W g ws):Bag w ((g,t,ws)::B) W:=
 ⟨h.1,λg' t' ws' hm=>by
  rcases De.1 hm with e|e
  ·injection e with e1 e2;injection e2 with e2 e3;subst e1 e2 e3;exact⟨hg,hb⟩
  ·exact h.2 g' t' ws' e⟩
theorem Bag.new (h:Bag w B W) (t:TypeId) (ws:List Int):Bag w ((W.heap.size,t,ws)::B) (W.alloc (.cells (xI ws) t)):=(h.alloc _).cons h.1.size (xJ _ _)
theorem Bag.far (h:Bag w B W) {g:Nat} (hg:w.heap.size<=g) (hf:∀g' t ws,(g',t,ws)∈B->g'≠g) (cs:Array Value):Bag w B (W.setRow g cs):=
 ⟨Bn h.1 hg _,λg' t ws hm=>⟨(h.2 g' t ws hm).1,(Bj _ _ _ _ (hf g' t ws hm)).trans (h.get hm)⟩⟩
end
def J1 (w:World) (B:List (Nat×TypeId×List Int)) (n s:Nat) (t:TypeId) (zs v:List Int) (L:Nat->Bool) (α:RG.Pl) (W:World):Prop:=
 Bag w B W/\(L n=true->(∀g t ws,(g,t,ws)∈B->g≠α n)/\w.heap.size<=α n/\wL t W (α n) (if L s=true then v else zs))
section
variable {w W W':World} {B:List (Nat×TypeId×List Int)} {n s:Nat} {t:TypeId} {zs v:List Int} {L:Nat->Bool} {α:RG.Pl}
theorem J1.congr {L':Nat->Bool} {α':RG.Pl} (hn:L n=L' n) (hs:L s=L' s) (ha:L n=true->α n=α' n) (h:J1 w B n s t zs v L α W):J1 w B n s t zs v L' α' W:=
 ⟨h.1,λh1=>by rw[<-hn] at h1;rw[<-hs,<-ha h1];exact h.2 h1⟩
theorem J1.start (h:Bag w B W):J1 w B n s t zs v (λ_=>false) α W.drew:=⟨h.drew,λh=>by cases h⟩
theorem J1.below (h:J1 w B n s t zs v L α W) (hb:ψ W W'):J1 w B n s t zs v L α W':=⟨h.1.below hb,λh1=>⟨(h.2 h1).1,(h.2 h1).2.1,(h.2 h1).2.2.below hb⟩⟩
theorem J1.new (h:J1 w B n s t zs v L α W) (hs:L s=false) (hns:s≠n):J1 w B n s t zs v (λj=>j==n||L j) (RG.rM α n W.heap.size) (W.alloc (.cells (xI zs) t)):=by
 refine⟨h.1.alloc _,λ_=>?_⟩;rw[RG.xBs];refine⟨λg t ws hm e=>?_,h.1.1.size,?_⟩
 ·have:=h.1.lt hm;omega
 ·rw[Ag (by simp[hs,hns])];exact xJ _ _
theorem J1.fill (h:J1 w B n s t zs v L α W) (hn:L n=true):J1 w B n s t zs v (λj=>j==s||L j) α (W.setRow (α n) (xI v)):=by
 obtain⟨h1,h2,h3⟩:=h.2 hn;refine⟨h.1.far h2 h1 _,λ_=>⟨h1,h2,?_⟩⟩;rw[Ah σ];exact Bp _ _ _ _ _ _ h3
theorem J1.done (h:J1 w B n s t zs v (λ_=>true) α W):Bag w ((α n,t,v)::B) W:=by
 obtain⟨h1,h2,h3⟩:=h.2 rfl;rw[Ah rfl] at h3;exact h.1.cons h2 h3
end
section
variable {md:Region.Mode} {ops:Array Oper} {E N:List Nat} {J:(Nat->Bool)->RG.Pl->World->Prop} {K:RG.Pl->Act->Prop} {a A:RG.Pl->Act} {v:Value} {i:Nat} {o:Oper} {os:List Oper}
theorem aL (h2:RG.vR prog ops md E N J K os (i+1) A) (hi:N.contains i=false:=by rfl) (he:E.contains i=false:=by rfl) (h:∀α L w,L i=false->RG.closed ops md L->RG.closed ops md (λj=>j==i||L j)->J L α w->wpList prog ops (RG.Only (J L α) (A α)) [o] (a α) w:=by
 intro α L w9 h0 hcl xQ hw9
 first
 |refine Ao rfl _ _ rfl _ rfl _ _ (0,0) _ (FE.Bag.get (FE.J1.bag hw9.o) (by repeat (first|exact List.Mem.head _|apply List.Mem.tail))) underlying188 rfl (Go.RowKit.Hid.o (by with_reducible assumption)) ?_
 |refine Ao rfl _ _ rfl _ rfl _ _ (0,0) _ (FE.Bag.get (FE.J1.bag hw9.o.1) (by repeat (first|exact List.Mem.head _|apply List.Mem.tail))) underlying188 rfl (Go.RowKit.Hid.o (by with_reducible assumption)) ?_
 repeat go_step
 exact RG.xE hw9) (hd:∀α,A α=(a α).put o.dst v:=by intro α;rfl):RG.vR prog ops md E N J K (o::os) i a:=RG.pK hi he h hd h2
theorem aC (h2:RG.vR prog ops md E N J K os (i+1) A) (hi:N.contains i=false:=by rfl) (he:E.contains i=false:=by rfl) (h:∀α L w,L i=false->RG.closed ops md L->RG.closed ops md (λj=>j==i||L j)->J L α w->wpList prog ops (RG.Only (J L α) (A α)) [o] (a α) w:=by
 intro α L w9 h0 hcl xQ hw9;repeat go_step
 refine RG.callH (by with_reducible assumption) ?_;rintro e w10 ⟨rfl,zO⟩;simp only[];repeat go_step
 refine RG.xE ?_;exact ι (hw9.o.below zO)) (hd:∀α,A α=(a α).put o.dst v:=by intro α;rfl):RG.vR prog ops md E N J K (o::os) i a:=RG.pK hi he h hd h2
theorem aN {A:Nat->RG.Pl->Act} (c s:Nat) (h2:RG.vR prog ops md E N J K os (i+1) (λα=>A (α i) α)) (hi:N.contains i=true:=by rfl) (hk:(RG.xBj ops md c s).contains i=true:=by kernel_rfl) (h:∀α L w b,b=w.heap.size->L i=false->L s=false->J L α w->wpList prog ops (RG.Only (J (λj=>j==i||L j) (RG.rM α i b)) (A b α)) [o] (a α) w:=by
 intro α L w9 b hb h0 e5 hw9;repeat go_step
 rw[<-hb];refine RG.xE ?_;rw[hb]
 first
 |exact ι (hw9.o.new e5 δ)
 |exact ι (hw9.o.rP e5 δ δ δ)
 |exact ι (hw9.o.newB e5 δ δ δ)) (hd:∀b α,A b α=(a α).put o.dst (RG.ptr b):=by intro b α;rfl):RG.vR prog ops md E N J K (o::os) i a:=
 RG.xS1 hi (λα L w b hb h0 hc hj=>h α L w b hb h0 (hc.not c h0 hk) hj) hd h2
theorem aT (c n:Nat) (h2:RG.vR prog ops md E N J K os (i+1) A) (hi:N.contains i=false:=by rfl) (he:E.contains i=true:=by rfl) (hk:(RG.xBj ops md c i).contains n=true:=by kernel_rfl) (hne:n≠i:=by decide) (h:∀α L w,L i=false->L n=true->J L α w->wpList prog ops (RG.Only (J (λj=>j==i||L j) α) (A α)) [o] (a α) w:=by
 intro α L w9 h0 e4 hw9
 first
 |(obtain⟨h1,h2,h3⟩:=hw9.o.2 e4
   rw[Ag (by simp[h0])] at h3;refine Av rfl _ _ _ rfl _ _ rfl rfl _ _ h3 (Go.RowKit.Hid.o (by with_reducible assumption)) (Go.RowKit.Hid.o (by with_reducible assumption)) (yM _) ?_;repeat go_step
   refine RG.xE ?_;exact ι (hw9.o.fill e4))
 |(obtain⟨h1,h2,h3⟩:=hw9.o.1.2 e4
   rw[Ag (by simp[h0])] at h3;refine Av rfl _ _ _ rfl _ _ rfl rfl _ _ h3 (Go.RowKit.Hid.o (by with_reducible assumption)) (Go.RowKit.Hid.o (by with_reducible assumption)) (yM _) ?_;repeat go_step
   refine RG.xE ?_;exact ι (hw9.o.fillA e4 δ δ))
 |(obtain⟨h1,h2,h3⟩:=hw9.o.2.1.2 e4
   rw[Ag (by simp[h0])] at h3;refine Av rfl _ _ _ rfl _ _ rfl rfl _ _ h3 (Go.RowKit.Hid.o (by with_reducible assumption)) (Go.RowKit.Hid.o (by with_reducible assumption)) (yM _) ?_;repeat go_step
   refine RG.xE ?_;exact ι (hw9.o.fillB e4 δ δ))) (hd:∀α,A α=(a α).put o.dst undef:=by intro α;rfl):RG.vR prog ops md E N J K (o::os) i a:=
 RG.xN1 hi he (λα L w h0 hc hc2 hj=>h α L w h0 (by have:=hc2.yes c (i:=i) σ (j:=n) hk;simpa[hne] using this) hj) hd h2
theorem J1.bag {w W:World} {B:List (Nat×TypeId×List Int)} {n s:Nat} {t:TypeId} {zs v:List Int} {L:Nat->Bool} {α:RG.Pl} (h:J1 w B n s t zs v L α W):Bag w B W:=h.1
theorem xYg {id:Nat} {l:List Oper} {a:Act} {W0 w:World} {Q:Exit->Act->World->Prop} {B:List (Nat×TypeId×List Int)} (n s:Nat) (t:TypeId) (zs v:List Int) (H0:Hid (Bag w B W0))
  (h:RG.vR prog l.toArray .any [s] [n] (λL α W=>Hid (J1 w B n s t zs v L α W)) (λα a=>∀w9,Hid (J1 w B n s t zs v (λ_=>true) α w9)->Q .normal a w9) l 0 (λ_=>a)) (hm:prog.follows .mixedOrders=true:=by kernel_rfl) (hf:RG.fits .any l.toArray=true:=by kernel_rfl) (hE:(([s]++[n]).all λe=>decide (e<l.length))=true:=by kernel_rfl):
  (Code.region id l.toArray true).wp prog Q a W0:=
 RG.rR [s] [n] (λL α W=>Hid (J1 w B n s t zs v L α W)) (λL L' α α' W hl ha h=>ι (J1.congr (hl n σ) (hl s σ) (ha n σ) h.o)) hm hf hE (ι (J1.start H0.o)) h
end
end Go.Proofs.FE
namespace Mailsack
def yE5 (l:Bs):Bs:=((l.set 0 (oct (Go.bits .and .u8 ((l.getD 0 0).toNat:Int) 248))).set 31 (oct (Go.bits .and .u8 ((l.getD 31 0).toNat:Int) 127))).set 31 (oct (Go.bits .or .u8 (Go.bits .and .u8 ((l.getD 31 0).toNat:Int) 127) 64))
def xAh (s:ByteArray):ByteArray:=bsA (yE5 s.data.toList)
theorem xYq (l:Bs):(yE5 l).length=l.length:=by simp[yE5]
theorem xTs (s:ByteArray):(xAh s).size=s.size:=by rw[xAh,yS,xYq];rfl
def xHw:ByteArray:=bsA ((xO 32).set 0 9)
theorem xYw:xHw.size=32:=by rw[xHw,yS];rfl
end Mailsack
namespace Go.Proofs.FE
open Go.RowKit Mailsack MM BB SH
section
variable {P:Program}
theorem xHr (w:World) (b off:Nat) (ty:TypeId) (cs:Array Value) (d:TypeDesc) (hc:∀j v,cs.toList[j]?=some v->w.cell? (θ b (off+j))=some v)
  (hu:P.underlying ty=some d) (hd:(match d with|.struct _|.array _ _=>true|_=>false)=true) (hi:(P.info? ty).map (·.size)=some cs.size):
  (loadVar ty (θ b off)).run P w=.ok (.agg cs) w:=by
 have hl:(loadCells (θ b off) cs.toList.length).run P w=.ok cs.toList.toArray w:=
  run_loadCells_list (P:=P) w (θ b off) cs.toList (λj v hv=>by
   have hadd:(⟨b,off,none⟩:Addr).add j=⟨b,off+j,none⟩:=by unfold Addr.add;split<;>simp_all
   rw[hadd];exact hc j v hv)
 cases hq:P.info? ty with
 |none=>simp[hq] at hi
 |some i=>
  have hs:i.size=cs.size:=by simpa[hq] using hi
  have hagg:(isAgg ty).run P w=.ok true w:=by
   unfold isAgg;rw[Gu,run_underlying hu w];cases d<;>simp_all
  simp only[Cu,Array.toArray_toList] at hl;simp[loadVar,Gu,hagg,sizeOf,typeInfo,hq,hs,hl]
theorem vG {ops:Array Oper} {rest:List Oper} {o:Oper} {a:Act} {w:World} {Q:Exit->Act->World->Prop} (hgd:o.guard=none) (ty:TypeId) (x:Operand) (ho:o.op=.load ty x)
  (b off:Nat) (hx:a.eval x=.pointer (some (θ b off))) (cs:Array Value) (d:TypeDesc) (hc:∀j v,cs.toList[j]?=some v->w.cell? (θ b (off+j))=some v)
  (hu:P.underlying ty=some d) (hd:(match d with|.struct _|.array _ _=>true|_=>false)=true) (hi:(P.info? ty).map (·.size)=some cs.size)
  (h:wpList P ops Q rest (a.put o.dst (.agg cs)) w):wpList P ops Q (o::rest) a w:=
 Hr hgd λ_ hK=>by
  unfold Oper.wp execOp;simp only[ho,hx,Instr.loadAt,Instr.sureAddr,Gu,Sem.run_pure,Gy,xHr w b off ty cs d hc hu hd hi];exact hK _ _ h
theorem xGn (w:World) (g o:Nat) (t ty:TypeId) (old cells:Array Value) (hg:w.heap[g]?=some (.cells old t (0,0))) (hi:(P.info? ty).map (·.size)=some cells.size)
  (ho:o+cells.size<=old.size) (h1:cells.all (·.oneCell')=true):
  (storeVar ty (θ g o) (.agg cells)).run P w=.ok () (w.setRow g (old.toList.take o++cells.toList++old.toList.drop (o+cells.size)).toArray):=by
 have:=run_storeCells_at P g o t cells.toList 0 old w hg (by simp;omega) (λv hv=>(Ep.1 h1) v (by simpa using hv));cases hq:P.info? ty with
 |none=>simp[hq] at hi
 |some i=>
  have hs:cells.size=i.size:=by simp[hq] at hi;omega
  simp[storeVar,sizeOf,typeInfo,hq,Value.cells,hs,this]
theorem qC {ops:Array Oper} {rest:List Oper} {o:Oper} {a:Act} {w:World} {Q:Exit->Act->World->Prop} (hgd:o.guard=none) (ty:TypeId) (x y:Operand) (ho:o.op=.store ty x y)
  (g off:Nat) (cells:Array Value) (hx:a.eval x=.pointer (some (θ g off))) (hy:a.eval y=.agg cells)
  (t:TypeId) (old:Array Value) (hg:w.heap[g]?=some (.cells old t (0,0))) (hi:(P.info? ty).map (·.size)=some cells.size)
  (hold:off+cells.size<=old.size) (h1:cells.all (·.oneCell')=true) (new:Array Value) (hn:(old.toList.take off++cells.toList++old.toList.drop (off+cells.size)).toArray=new)
  (h:wpList P ops Q rest (a.put o.dst undef) (w.setRow g new)):wpList P ops Q (o::rest) a w:=
 Hr hgd λ_ hK=>by
  subst hn;unfold Oper.wp execOp;simp only[ho,hx,hy,Instr.storeAt,Instr.sureAddr,Gu,Sem.run_pure,Gy,xGn w g off t ty old cells hg hi hold h1];exact hK _ _ h
end
theorem xBx (l:List Int):(xI l).toList=l.map λx=>Value.int .u64 x:=by simp[xI]
theorem xG0 {t:TypeId} {W:World} {g:Nat} {x z:List Int} (h:wL t W g (x++z)):∀j v,(xI x).toList[j]?=some v->W.cell? (θ g (0+j))=some v:=by
 intro j v hv;rw[xBx] at hv;rw[Ay,xA h.blk];simp only[xI,Da,gA]
 rw[Fz (by
  have:=(Ar.1 hv).1;exact this)]
 exact hv
theorem xFz {t:TypeId} {W:World} {g:Nat} {x z:List Int} (h:wL t W g (x++z)) (hx:x.length=5):∀j v,(xI z).toList[j]?=some v->W.cell? (θ g (5+j))=some v:=by
 intro j v hv;rw[xBx] at hv;rw[xA h.blk];simp only[xI,Da,gA];rw[Fv (by simp[hx])];simpa[hx] using hv
theorem yBa (x z x':List Int) (hx:x.length=5) (hx':x'.length=5):((xI (x++z)).toList.take 0++(xI x').toList++(xI (x++z)).toList.drop (0+(xI x').size)).toArray=xI (x'++z):=by
 rw[yB,hx',xBx,xBx];simp only[List.take_zero,Es,xI,Da];rw[List.drop_append_of_le_length (by simp[hx]),List.drop_of_length_le (by simp[hx])];simp
theorem yB9 (x z z':List Int) (hx:x.length=5) (hz:z.length=5) (hz':z'.length=5):((xI (x++z)).toList.take 5++(xI z').toList++(xI (x++z)).toList.drop (5+(xI z').size)).toArray=xI (x++z'):=by
 rw[yB,hz',xBx,xBx];simp only[xI,Da];rw[List.take_append_of_le_length (by simp[hx]),Ce (by simp[hx]),List.drop_of_length_le (by simp[hx,hz])];simp
theorem yHb {x z:List Int} (h:x.length=5) (h2:z.length=5):(prog.info? 192).map (·.size)=some (xI (x++z)).size:=by rw[yB,Aj,h,h2];kernel_rfl
theorem xWf (w:World):Calls prog 106 #[] w (pv (.string xHw) w):=by
 have HB:Hid (ψ w (w.alloc (.cells (yO ((xO 32).set 0 9)) 228))):=ι (φ w _);have HT:=xFg (t:=228) (xJ w (.cells (yO ((xO 32).set 0 9)) 228)) 32 32 rfl;go_enter func106,ntmps106;go_upto_region 3 with fail
 refine(λ(h:∀W3,Hid (ψ w W3/\(convert 96 9 (.slice (some (θ w.heap.size 0)) 32 32)).run prog W3=.ok (.string xHw) W3)->Code.wp _ _ _ _ W3)=>h _ (ι ⟨HB.o,HT⟩)) ?_;clear HB HT;intro W3 H3;have ht:=H3.o.2;go_wp2;go_ret;exact⟨rfl,H3.o.1⟩
theorem yE3 (s:ByteArray) (w:World) (hs:s.size≠32):
  Calls prog 118 #[.string s] w λe w'=>e=.returned (.tuple #[.string ⟨#[]⟩,.bool false])/\w'=w:=by
 have hsi:(s.size:Int)≠32:=ω;have hsb:((s.size:Int)!=32)=true:=by simp;omega
 clear hs;go_enter func118,ntmps118;go_wp2;go_ret2;exact⟨rfl,rfl⟩
theorem xGb (s:ByteArray) (w:World) (hs:s.size=32):
  Calls prog 118 #[.string s] w (pv (.tuple #[.string (xAh s),.bool true]) w):=by
 have hsi:(s.size:Int)=32:=ω;have xTa:=λW=>Lib.run_convert_string_bytes (P:=prog) W 9 96 5 s underlying9 underlying96 underlying5
 have H0:Hid (PaI w w.heap.size s.data.toList (Lib.bytesWorld w 5 s)):=ι ⟨xRw.start w s,(Aq w.heap.size w).trans ⟨rfl,rfl,rfl,by rw[Lib.bytesWorld_size];omega,λk hk=>Lib.bytesWorld_at_old _ _ _ k hk⟩,Bd _,by rw[Lib.bytesWorld_size];omega⟩
 have HR:Hid (xAh s=bsA (((s.data.toList.set 0 (oct (bits .and .u8 ((s.data.toList.getD 0 0).toNat:Int) 248))).set 31 (oct (bits .and .u8 ((s.data.toList.getD 31 0).toNat:Int) 127))).set 31 (oct (bits .or .u8 (bits .and .u8 ((s.data.toList.getD 31 0).toNat:Int) 127) 64)))):=ι rfl
 have hll:s.data.toList.length=32:=by simpa using hs
 obtain⟨res,hres⟩:=eX (xAh s);rw[hres] at HR⊢;clear hres;go_enter func118,ntmps118;go_upto_region 4 with fail
 have hcap:32<=grownCap w 32 0 5:=grownCap_ge _ _ _ _;generalize grownCap w 32 0 5=cap at hcap⊢;generalize Lib.bytesWorld w 5 s=W0 at H0⊢;generalize s.data.toList=l at H0 HR hll;clear xTa hs hsi;have q0:=H0.o.o.cell 0 ω;have f0:=H0.o.o.free 0 ω;have u0:=(l.getD 0 0).toNat_lt
 have u1:=(l.getD 31 0).toNat_lt;have hz0:=xDr .and ((l.getD 0 0).toNat:Int) 248;have H1:=ι (H0.o.put (p:=0) ω hz0.1 hz0.2)
 have hx31:(l.set 0 (oct (bits .and .u8 ((l.getD 0 0).toNat:Int) 248))).getD 31 0=l.getD 31 0:=by rw[Aa,Co,Ag δ,<-Aa]
 have hl1:(l.set 0 (oct (bits .and .u8 ((l.getD 0 0).toNat:Int) 248))).length=32:=by rw[Bf,hll]
 generalize l.set 0 (oct (bits .and .u8 ((l.getD 0 0).toNat:Int) 248))=l1 at H1 HR hx31 hl1;obtain⟨a,ha⟩:=eX (((l.getD 0 0).toNat:Int));obtain⟨b,hb⟩:=eX (((l.getD 31 0).toNat:Int));have a0:0<=a:=ω;have a1:a<256:=ω;have b0:0<=b:=ω;have b1:b<256:=ω
 rw[ha] at q0 H1;rw[hb] at HR;have HB:=ι hb;have HX:=ι hx31;have HL1:=ι hl1;clear hz0 u0 u1 H0 ha hb hx31 hl1 hll;go_upto_region 5 with fail
 clear q0 f0;refine(λ(h:∀W3,Hid (PaI w w.heap.size l1 W3)->Code.wp _ _ _ _ W3)=>h _ H1) ?_;clear H1;intro W1 H1;have q0:=H1.o.o.cell 31 (by rw[HL1.o];decide);rw[HX.o,HB.o] at q0;have f0:=H1.o.o.free 31 (by rw[HL1.o];decide);have hz1:=xDr .and b 127
 have H2:=ι (H1.o.put (p:=31) (by rw[HL1.o];decide) hz1.1 hz1.2);obtain⟨c,hc⟩:=eX (bits .and .u8 b 127);rw[hc] at H2 HR hz1
 have HE:Hid ((((l1.set 31 (oct c)).getD 31 0).toNat:Int)=c):=ι (by
  rw[Aa,Co,Ah rfl,Ah (by rw[HL1.o];decide)];simp only[Hq];rw[wW];omega)
 have hl2:(l1.set 31 (oct c)).length=32:=by rw[Bf,HL1.o]
 generalize l1.set 31 (oct c)=l2 at H2 HR HE hl2;have HL2:=ι hl2;obtain⟨c0,c1⟩:=hz1;clear hl2 H1;go_upto_region 6 with fail
 clear q0 f0 hc;refine(λ(h:∀W3,Hid (PaI w w.heap.size l2 W3)->Code.wp _ _ _ _ W3)=>h _ H2) ?_;clear H2;intro W2 H2;have q0:=H2.o.o.cell 31 (by rw[HL2.o];decide);rw[HE.o] at q0;have f0:=H2.o.o.free 31 (by rw[HL2.o];decide);have hz2:=xDr .or c 64
 have H3:=ι (H2.o.put (p:=31) (by rw[HL2.o];decide) hz2.1 hz2.2);have hl3:(l2.set 31 (oct (bits .or .u8 c 64))).length=32:=by rw[Bf,HL2.o]
 generalize l2.set 31 (oct (bits .or .u8 c 64))=l3 at H3 HR hl3;have ht:=H3.o.o.text 32 cap hl3;rw[<-HR.o] at ht;clear H2 hz2 hl3;go_wp2;go_ret2;exact⟨rfl,H3.o.bel⟩
end Go.Proofs.FE
namespace Go.Proofs.FE
open Go.RowKit Mailsack MM BB SH
theorem xMe (ax bx:List Int) (yes:Bool) (w:World) (hl:ax.length=5) (hu:yT ax) (hl2:bx.length=5) (hu2:yT bx):
  Calls prog 165 #[.agg (xI ax),.agg (xI bx),.bool yes] w (pv (.tuple #[.agg (xI (if yes then bx else ax)),.agg (xI (if yes then ax else bx))]) w):=by
 cases yes
 ·exact yJx ax bx w hl hu hl2 hu2
 ·exact yFq ax bx w hl hu hl2 hu2
structure FoM (t:TypeId) (w:World) (ax bx rx sx:List Int) (W:World):Prop where
 ba:wL t W w.heap.size ax
 bb:wL t W (w.heap.size+1) bx
 br:wL t W (w.heap.size+2) rx
 bs:wL t W (w.heap.size+3) sx
 bel:ψ w W
section
variable {t:TypeId} {w W W':World} {ax bx rx sx:List Int}
theorem FoM.start (ax bx rx sx:List Int):FoM t w ax bx rx sx ((((w.alloc (.cells (xI ax) t)).alloc (.cells (xI bx) t)).alloc (.cells (xI rx) t)).alloc (.cells (xI sx) t)):=by
 have h1:=zM w (.cells (xI ax) t) (.cells (xI bx) t);have h2:=zI w (.cells (xI ax) t) (.cells (xI bx) t);have h3:=xJ ((w.alloc (.cells (xI ax) t)).alloc (.cells (xI bx) t)) (.cells (xI rx) t)
 have h4:=xJ (((w.alloc (.cells (xI ax) t)).alloc (.cells (xI bx) t)).alloc (.cells (xI rx) t)) (.cells (xI sx) t);simp only[wY] at h3 h4;exact⟨xN (xN h1 _) _,xN (xN h2 _) _,xN h3 _,h4,(((φ w _).alloc σ _).alloc (by simp;omega) _).alloc (by simp;omega) _⟩
theorem FoM.drew (h:FoM t w ax bx rx sx W):FoM t w ax bx rx sx W.drew:=⟨h.ba,h.bb,h.br,h.bs,h.bel.drew⟩
theorem FoM.below (h:FoM t w ax bx rx sx W) (hb:ψ W W'):FoM t w ax bx rx sx W':=⟨h.ba.below hb,h.bb.below hb,h.br.below hb,h.bs.below hb,bT h.bel hb⟩
theorem FoM.rowA (h:FoM t w ax bx rx sx W) (xs:List Int):FoM t w xs bx rx sx (W.setRow w.heap.size (xI xs)):=
 ⟨Bp _ _ _ _ _ _ h.ba,(Bj _ _ _ _ ω).trans h.bb,(Bj _ _ _ _ ω).trans h.br,(Bj _ _ _ _ ω).trans h.bs,Bn h.bel ω _⟩
theorem FoM.rowB (h:FoM t w ax bx rx sx W) (xs:List Int):FoM t w ax xs rx sx (W.setRow (w.heap.size+1) (xI xs)):=
 ⟨(Bj _ _ _ _ ω).trans h.ba,Bp _ _ _ _ _ _ h.bb,(Bj _ _ _ _ ω).trans h.br,(Bj _ _ _ _ ω).trans h.bs,Bn h.bel ω _⟩
theorem FoM.rowR (h:FoM t w ax bx rx sx W) (xs:List Int):FoM t w ax bx xs sx (W.setRow (w.heap.size+2) (xI xs)):=
 ⟨(Bj _ _ _ _ ω).trans h.ba,(Bj _ _ _ _ ω).trans h.bb,Bp _ _ _ _ _ _ h.br,(Bj _ _ _ _ ω).trans h.bs,Bn h.bel ω _⟩
theorem FoM.rowS (h:FoM t w ax bx rx sx W) (xs:List Int):FoM t w ax bx rx xs (W.setRow (w.heap.size+3) (xI xs)):=
 ⟨(Bj _ _ _ _ ω).trans h.ba,(Bj _ _ _ _ ω).trans h.bb,(Bj _ _ _ _ ω).trans h.br,Bp _ _ _ _ _ _ h.bs,Bn h.bel ω _⟩
end
theorem xQ7 (x1 z1 x2 z2:List Int) (yes:Bool) (w:World) (lx1:x1.length=5) (ux1:yT x1) (lz1:z1.length=5) (uz1:yT z1) (lx2:x2.length=5) (ux2:yT x2) (lz2:z2.length=5) (uz2:yT z2):
  Calls prog 120 #[.agg (xI (x1++z1)),.agg (xI (x2++z2)),.bool yes] w (pv (.tuple #[.agg (xI (if yes then x2++z2 else x1++z1)),.agg (xI (if yes then x1++z1 else x2++z2))]) w):=by
 have HX:=ι (λW=>xMe x1 x2 yes W lx1 ux1 lx2 ux2);have HZ:=ι (λW=>xMe z1 z2 yes W lz1 uz1 lz2 uz2)
 have HA:Hid ((if yes then x2++z2 else x1++z1)=(if yes then x2 else x1)++(if yes then z2 else z1)/\(if yes then x1++z1 else x2++z2)=(if yes then x1 else x2)++(if yes then z1 else z2)):=ι (by cases yes<;>exact⟨rfl,rfl⟩);rw[HA.o.1,HA.o.2];clear HA
 have la:(if yes then x2 else x1).length=5:=by cases yes<;>assumption
 have lb:(if yes then x1 else x2).length=5:=by cases yes<;>assumption
 have lc:(if yes then z2 else z1).length=5:=by cases yes<;>assumption
 have ld:(if yes then z1 else z2).length=5:=by cases yes<;>assumption
 generalize (if yes then x2 else x1)=a at HX la⊢;generalize (if yes then x1 else x2)=b at HX lb⊢;generalize (if yes then z2 else z1)=c at HZ lc⊢;generalize (if yes then z1 else z2)=d at HZ ld⊢
 have H0:=ι (FoM.start (w:=w) (t:=192) (x1++z1) (x2++z2) (List.replicate 10 0) (List.replicate 10 0));have I1:=ι (vW lx1);have I2:=ι (vW lx2);have I3:=ι (vW lz1);have I4:=ι (vW lz2);have Ia:=ι (vW la);have Ib:=ι (vW lb);have Ic:=ι (vW lc);have Id:=ι (vW ld)
 have HL:=ι (Ai (Ai lx1 (Ai lx2 (Ai lz1 lz2))) (Ai la (Ai lb (Ai lc ld))));clear ux1 uz1 ux2 uz2 lx1 lz1 lx2 lz2 la lb lc ld;go_enter func120,ntmps120;go_upto_region 1 with fail
 refine(λ(h:∀W3,Hid (FoM 192 w (x1++z1) (x2++z2) (List.replicate 10 0) (List.replicate 10 0) W3)->Code.wp _ _ _ _ W3)=>h _ H0) ?_;clear H0;intro W0 H0;obtain⟨⟨lx1,lx2,lz1,lz2⟩,la,lb,lc,ld⟩:=HL.o;refine Bi ?_;iterate 3 go_step
 refine vG rfl _ _ rfl w.heap.size 0 rfl (xI x1) _ (xG0 H0.o.ba) underlying188 rfl I1.o ?_;iterate 3 go_step
 refine vG rfl _ _ rfl (w.heap.size+1) 0 rfl (xI x2) _ (xG0 H0.o.bb) underlying188 rfl I2.o ?_;repeat go_step
 refine cM (HX.o _) λw1 hb1=>?_;have H1:=ι (H0.o.below hb1);clear H0 hb1;simp only[]
 rename ∀(a:Act) (w:World),wpList _ _ _ _ a w->_=>hk
 refine hk _ _ ?_;clear hk;iterate 12 go_step
 refine qC rfl _ _ _ rfl w.heap.size 0 (xI a) rfl rfl _ _ H1.o.ba Ia.o (by rw[yB,yB,Aj,la,lx1,lz1];decide) (yM _) _ (yBa x1 z1 a lx1 la) ?_;have H2:=ι (H1.o.rowA (a++z1))
 refine(λ(h:∀W3,Hid (FoM 192 w (a++z1) (x2++z2) (List.replicate 10 0) (List.replicate 10 0) W3)->wpList _ _ _ _ _ W3)=>h _ H2) ?_;clear H1 H2;intro W2 H2;iterate 3 go_step
 refine qC rfl _ _ _ rfl (w.heap.size+1) 0 (xI b) rfl rfl _ _ H2.o.bb Ib.o (by rw[yB,yB,Aj,lb,lx2,lz2];decide) (yM _) _ (yBa x2 z2 b lx2 lb) ?_;have H3:=ι (H2.o.rowB (b++z2));go_upto_region 2 with fail
 refine(λ(h:∀W3,Hid (FoM 192 w (a++z1) (b++z2) (List.replicate 10 0) (List.replicate 10 0) W3)->Code.wp _ _ _ _ W3)=>h _ H3) ?_;clear H2 H3;intro W3 H3;refine Bi ?_;iterate 3 go_step
 refine vG rfl _ _ rfl w.heap.size 5 rfl (xI z1) _ (xFz H3.o.ba la) underlying188 rfl I3.o ?_;iterate 3 go_step
 refine vG rfl _ _ rfl (w.heap.size+1) 5 rfl (xI z2) _ (xFz H3.o.bb lb) underlying188 rfl I4.o ?_;repeat go_step
 refine cM (HZ.o _) λw1 hb1=>?_;have H4:=ι (H3.o.below hb1);clear H3 hb1;simp only[]
 rename ∀(a:Act) (w:World),wpList _ _ _ _ a w->_=>hk
 refine hk _ _ ?_;clear hk;iterate 12 go_step
 refine qC rfl _ _ _ rfl w.heap.size 5 (xI c) rfl rfl _ _ H4.o.ba Ic.o (by rw[yB,yB,Aj,la,lc,lz1];decide) (yM _) _ (yB9 a z1 c la lz1 lc) ?_;have H5:=ι (H4.o.rowA (a++c))
 refine(λ(h:∀W3,Hid (FoM 192 w (a++c) (b++z2) (List.replicate 10 0) (List.replicate 10 0) W3)->wpList _ _ _ _ _ W3)=>h _ H5) ?_;clear H4 H5;intro W2 H5;iterate 3 go_step
 refine qC rfl _ _ _ rfl (w.heap.size+1) 5 (xI d) rfl rfl _ _ H5.o.bb Id.o (by rw[yB,yB,Aj,lb,ld,lz2];decide) (yM _) _ (yB9 b z2 d lb lz2 ld) ?_;have H6:=ι (H5.o.rowB (b++d));go_upto_region 3 with fail
 refine(λ(h:∀W3,Hid (FoM 192 w (a++c) (b++d) (List.replicate 10 0) (List.replicate 10 0) W3)->Code.wp _ _ _ _ W3)=>h _ H6) ?_;clear H5 H6;intro W6 H6;have IA:=ι (yHb la lc);have IB:=ι (yHb lb ld)
 have ZA:Hid ((xI (List.replicate 10 0)).size=(xI (a++c)).size):=ι (by rw[yB,yB,Aj,la,lc];rfl);have ZB:Hid ((xI (List.replicate 10 0)).size=(xI (b++d)).size):=ι (by rw[yB,yB,Aj,lb,ld];rfl)
 clear HX HZ I1 I2 I3 I4 Ia Ib Ic Id lx1 lx2 lz1 lz2 la lb lc ld HL;generalize hra:a++c=ra at H6 IA ZA⊢;generalize hrb:b++d=rb at H6 IB ZB⊢;have HE:=ι (Ai hra hrb);clear hra hrb
 refine RG.zA 4 (λL W=>Hid (FoM 192 w ra rb (if L 2 then ra else List.replicate 10 0) (if L 3 then rb else List.replicate 10 0) W)) (λL L' W h hI=>by rw[<-h 2 δ,<-h 3 δ];exact hI) κ κ rfl (ι H6.o.drew) ?_;clear H6;apply RG.xS
 ·rfl
 ·rfl
 ·intro L w9 h0 hcl xQ hw9;refine Ao rfl _ _ rfl w.heap.size rfl _ (xI ra) (0,0) _ hw9.o.ba underlying192 rfl IA.o ?_;repeat go_step
  refine RG.xE ?_;exact⟨xQ,hw9⟩
 ·rfl
 apply RG.xS
 ·rfl
 ·rfl
 ·intro L w9 h0 hcl xQ hw9;refine Ao rfl _ _ rfl (w.heap.size+1) rfl _ (xI rb) (0,0) _ hw9.o.bb underlying192 rfl IB.o ?_;repeat go_step
  refine RG.xE ?_;exact⟨xQ,hw9⟩
 ·rfl
 apply RG.xS
 ·rfl
 ·rfl
 ·intro L w9 h0 hcl xQ hw9;have hs9:=hw9.o;rw[h0,Ag σ] at hs9;refine Av rfl _ _ _ rfl (w.heap.size+2) (xI ra) rfl rfl _ _ hs9.br IA.o ZA.o (yM _) ?_;repeat go_step
  refine RG.xE ?_;exact⟨xQ,ι (hs9.rowR ra)⟩
 ·rfl
 apply RG.xS
 ·rfl
 ·rfl
 ·intro L w9 h0 hcl xQ hw9;have hs9:=hw9.o;rw[h0,Ag (c:=false=true) σ] at hs9;refine Av rfl _ _ _ rfl (w.heap.size+3) (xI rb) rfl rfl _ _ hs9.bs IB.o ZB.o (yM _) ?_;repeat go_step
  refine RG.xE ?_;exact⟨xQ,ι (hs9.rowS rb)⟩
 ·rfl
 refine RG.yY (λw9 hw9=>?_);rw[Ah rfl,Ah rfl] at hw9;go_wp2;refine Ak (tJ rfl _ _ (w.heap.size+2) (w.heap.size+3) _ _ _ _ (0,0) (0,0) _ rfl rfl hw9.o.br hw9.o.bs underlying192 rfl IA.o IB.o) rfl ?_;rw[HE.o.1,HE.o.2];exact⟨rfl,hw9.o.bel⟩
end Go.Proofs.FE
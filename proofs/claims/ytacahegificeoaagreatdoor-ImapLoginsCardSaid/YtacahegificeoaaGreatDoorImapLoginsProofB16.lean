/- Contracts of functions. Conditions: as stated. -/
import Derived.Test.YtacahegificeoaaGreatDoorImapLoginsProofB15
set_option maxHeartbeats 8000000
set_option maxRecDepth 100000
namespace Mailsack
def yF (y:Int) (k:Nat):Int:=if 5<=k then Go.IntKind.u64.wrap (y*19) else y
theorem yF_u {y:Int} (h:U64 y) (k:Nat):U64 (yF y k):=by
 unfold yF;split
 ·exact wrap_u64 _
 ·exact h
def mT (x y:Int) (k:Nat) (s:List Int×List Int):List Int×List Int:=
 (s.1.set k (Go.IntKind.u64.wrap (s.1.getD k 0+Go.IntKind.u64.wrap (x*y / 18446744073709551616+(s.2.getD k 0+x*y % 18446744073709551616) / 18446744073709551616))),s.2.set k ((s.2.getD k 0+x*y % 18446744073709551616) % 18446744073709551616))
def mS (x:Int) (i:Nat) (b:List Int) (s:List Int×List Int):Nat->List Int×List Int
 |0=>s
 |j+1=>mT x (yF (b.getD j 0) (i+j)) (kK (i+j)) (mS x i b s j)
def mI (a b:List Int):Nat->List Int×List Int
 |0=>(List.replicate 5 0,List.replicate 5 0)
 |i+1=>mS (a.getD i 0) i b (mI a b i) 5
def xOy (s:List Int×List Int):Prop:=s.1.length=5/\s.2.length=5/\yV s.1/\yV s.2
theorem mT_ok (x y:Int) (k:Nat) {s:List Int×List Int} (h:xOy s):xOy (mT x y k s):=by
 obtain⟨h1,h2,h3,h4⟩:=h;exact⟨by simp[mT,h1],by simp[mT,h2],h3.set k (wrap_u64 _),h4.set k (xDt _)⟩
theorem yE5 (x:Int) (i:Nat) (b:List Int) {s:List Int×List Int} (h:xOy s):∀j,xOy (mS x i b s j)
 |0=>h
 |j+1=>mT_ok _ _ _ (yE5 x i b h j)
theorem yE6 (a b:List Int):∀i,xOy (mI a b i)
 |0=>⟨by simp[mI],by simp[mI],xBy 5,xBy 5⟩
 |i+1=>yE5 _ _ _ (yE6 a b i) 5
def prC (hi lo:List Int) (k:Nat):Int:=Go.bits .or .u64 (Go.IntKind.u64.wrap (hi.getD k 0*8192)) (lo.getD k 0 / 2251799813685248)
def prA (lo p:List Int) (k:Nat):List Int:=p.set k (Go.IntKind.u64.wrap (p.getD k 0+Go.bits .and .u64 (lo.getD k 0) 2251799813685247))
def prI (hi lo:List Int):Nat->List Int
 |0=>List.replicate 5 0
 |k+1=>if k+1<5 then(prA lo (prI hi lo k) k).set (k+1) (Go.IntKind.u64.wrap ((prA lo (prI hi lo k) k).getD (k+1) 0+prC hi lo k)) else(prA lo (prI hi lo k) k).set 0 (Go.IntKind.u64.wrap ((prA lo (prI hi lo k) k).getD 0 0+Go.IntKind.u64.wrap (19*prC hi lo k)))
theorem xVs (lo p:List Int) (k:Nat):(prA lo p k).length=p.length:=by simp[prA]
theorem yDn (lo:List Int) {p:List Int} (h:yV p) (k:Nat):yV (prA lo p k):=h.set k (wrap_u64 _)
theorem xNn (hi lo:List Int):∀k,(prI hi lo k).length=5
 |0=>by simp[prI]
 |k+1=>by
  rw[prI];split<;>simp[xVs,xNn hi lo k]
theorem yA3 (hi lo:List Int):∀k,yV (prI hi lo k)
 |0=>xBy 5
 |k+1=>by
  rw[prI];split
  ·exact(yDn lo (yA3 hi lo k) k).set _ (wrap_u64 _)
  ·exact(yDn lo (yA3 hi lo k) k).set _ (wrap_u64 _)
def yCi (s:List Int×List Int):List Int:=zN (prI s.1 s.2 5)
def uR (a b:List Int):List Int:=yCi (mI (zN a) (zN b) 5)
theorem vE (a b:List Int):(uR a b).length=5:=rfl
theorem qY (a b:List Int):yV (uR a b):=wT _
end Mailsack
namespace Go.Proofs.FE
open Go.RowKit Mailsack MM BB SH
theorem xW9 (x y:Int) (hx:U64 x) (hy:U64 y) (w:World):
  Calls Tryz.prog 251 #[.int .u64 x,.int .u64 y] w λe w'=>e=.returned (.tuple #[.int .u64 (x*y / 18446744073709551616),.int .u64 (x*y % 18446744073709551616)])/\w'=w:=by
 obtain⟨x0,x1⟩:=hx;obtain⟨y0,y1⟩:=hy;have h:=Tryz.bits_Mul64 x.toNat y.toNat ω ω w;have e1:((x.toNat:Nat):Int)=x:=by omega
 have e2:((y.toNat:Nat):Int)=y:=by omega
 have e3:((x.toNat*y.toNat / 18446744073709551616:Nat):Int)=x*y / 18446744073709551616:=by rw[Int.natCast_ediv,Int.natCast_mul,e1,e2];rfl
 have e4:((x.toNat*y.toNat % 18446744073709551616:Nat):Int)=x*y % 18446744073709551616:=by rw[Int.natCast_emod,Int.natCast_mul,e1,e2];rfl
 rw[e1,e2,e3,e4] at h;exact h
structure MuM (w:World) (na nb:List Int) (g:Nat) (s:List Int×List Int) (W:World):Prop where
 two:vT w na nb W
 bh:uU 239 W g s.1
 bl:uU 239 W (g+1) s.2
 ge:w.heap.size+3<=g
section
variable {w W W':World} {na nb:List Int} {g:Nat} {s:List Int×List Int}
theorem MuM.below (h:MuM w na nb g s W) (hb:Below W.heap.size W W'):MuM w na nb g s W':=⟨h.two.below hb,h.bh.below hb,h.bl.below hb,h.ge⟩
theorem vT.far (h:vT w na nb W) {p:Addr} (hp:w.heap.size+3<=p.block) (u:Value):vT w na nb (W.setCell p u):=
 ⟨h.ba.far ω u,h.bb.far ω u,h.bz.far ω u,h.bel.setCell ω u⟩
theorem MuM.lo (h:MuM w na nb g s W) (k:Nat) (x:Int):MuM w na nb g (s.1,s.2.set k x) (W.setCell ⟨g+1,k,none⟩ (.int .u64 x)):=by
 have hg:=h.ge;exact⟨h.two.far (p:=⟨g+1,k,none⟩) (by simp only[];omega) _,h.bh.far (p:=⟨g+1,k,none⟩) σ _,h.bl.put k x,hg⟩
theorem MuM.hi (h:MuM w na nb g s W) (k:Nat) (x:Int):MuM w na nb g (s.1.set k x,s.2) (W.setCell ⟨g,k,none⟩ (.int .u64 x)):=by
 have hg:=h.ge;exact⟨h.two.far (p:=⟨g,k,none⟩) (by simp only[];omega) _,h.bh.put k x,h.bl.far (p:=⟨g,k,none⟩) σ _,hg⟩
end
structure PrM (w:World) (na nb:List Int) (g:Nat) (s:List Int×List Int) (gp:Nat) (p:List Int) (W:World):Prop where
 mu:MuM w na nb g s W
 bp:uU 240 W gp p
 gt:g+1<gp
section
variable {w W W':World} {na nb:List Int} {g gp:Nat} {s:List Int×List Int} {p:List Int}
theorem PrM.below (h:PrM w na nb g s gp p W) (hb:Below W.heap.size W W'):PrM w na nb g s gp p W':=⟨h.mu.below hb,h.bp.below hb,h.gt⟩
theorem PrM.drew (h:PrM w na nb g s gp p W):PrM w na nb g s gp p W.drew:=⟨⟨h.mu.two.drew,h.mu.bh,h.mu.bl,h.mu.ge⟩,h.bp,h.gt⟩
theorem PrM.put (h:PrM w na nb g s gp p W) (k:Nat) (x:Int):PrM w na nb g s gp (p.set k x) (W.setCell ⟨gp,k,none⟩ (.int .u64 x)):=by
 have hg:=h.mu.ge;have hp:=h.gt;exact⟨⟨h.mu.two.far (p:=⟨gp,k,none⟩) (by simp only[];omega) _,h.mu.bh.far (p:=⟨gp,k,none⟩) (by simp only[];omega) _,h.mu.bl.far (p:=⟨gp,k,none⟩) (by simp only[];omega) _,hg⟩,h.bp.put k x,hp⟩
end
theorem rH (ax bx:List Int) (w:World) (hl:ax.length=5) (hu:yV ax) (hl2:bx.length=5) (hu2:yV bx):
  Calls Tryz.prog 174 #[.agg (xH ax),.agg (xH bx)] w λe w'=>e=.returned (.agg (xH (uR ax bx)))/\Below w.heap.size w w':=by
 have HNa:=ι (λW=>wJ ax W hl hu);have HNb:=ι (λW=>wJ bx W hl2 hu2);have HIa:=ι (uF hl);have HIb:=ι (uF hl2);have yBz:=ι (uF (zK ax));have yBy:=ι (uF (zK bx));have HZa:=ι (xAf hl (zK ax));have HZb:=ι (xAf hl2 (zK bx));have hna:=zK ax;have hnb:=zK bx;have hua:=wT ax;have hub:=wT bx
 have H0:=ι (vT.start (w:=w) ax bx);have HR:Hid (∀n,n=5->uR ax bx=yCi (mI (zN ax) (zN bx) n)):=ι (λn hn=>by rw[hn];rfl);obtain⟨res,hres⟩:∃x,uR ax bx=x:=⟨_,rfl⟩;have hrl:res.length=5:=by rw[<-hres];rfl
 rw[hres] at HR⊢;clear hres hl hu hl2 hu2;generalize zN ax=na at HNa yBz HZa hna hua HR;generalize zN bx=nb at HNb yBy HZb hnb hub HR;go_enter Tryz.func174,Tryz.ntmps174;go_upto_region 1 with fail
 refine(λ(h:∀W3,Hid (vT w ax bx W3)->Code.wp _ _ _ _ W3)=>h _ H0) ?_;clear H0;intro W0 H0;refine RG.yT 6 (λL W=>Hid (vT w (if L 4 then na else ax) (if L 5 then nb else bx) W)) (λL L' W h hI=>by rw[<-h 4 δ,<-h 5 δ];exact hI) κ κ rfl (ι H0.o.drew) ?_;clear H0;apply RG.xR
 ·rfl
 ·rfl
 ·intro L w9 h0 hcl xN hw9;have e1:=hcl.not 6 (i:=4) h0 κ;have hs9:=hw9.o.ba;rw[e1,if_neg σ] at hs9;refine wpList_load_row rfl _ _ rfl w.heap.size rfl _ (xH ax) (0,0) _ hs9 Tryz.underlying240 rfl HIa.o ?_;repeat go_step
  with_reducible refine RG.xD ?_
  exact⟨xN,hw9⟩
 ·rfl
 apply RG.xR
 ·rfl
 ·rfl
 ·intro L w9 h0 hcl xN hw9;repeat go_step
  refine(HNa.o _).mono ?_;rintro e w10 ⟨rfl,zM⟩;simp only[];repeat go_step
  with_reducible refine RG.xD ?_
  exact⟨xN,ι (hw9.o.below zM)⟩
 ·rfl
 apply RG.xR
 ·rfl
 ·rfl
 ·intro L w9 h0 hcl xN hw9;have e1:=hcl.not 6 (i:=5) h0 κ;have hs9:=hw9.o.bb;rw[e1,if_neg σ] at hs9;refine wpList_load_row rfl _ _ rfl (w.heap.size+1) rfl _ (xH bx) (0,0) _ hs9 Tryz.underlying240 rfl HIb.o ?_;repeat go_step
  with_reducible refine RG.xD ?_
  exact⟨xN,hw9⟩
 ·rfl
 apply RG.xR
 ·rfl
 ·rfl
 ·intro L w9 h0 hcl xN hw9;repeat go_step
  refine(HNb.o _).mono ?_;rintro e w10 ⟨rfl,zM⟩;simp only[];repeat go_step
  with_reducible refine RG.xD ?_
  exact⟨xN,ι (hw9.o.below zM)⟩
 ·rfl
 apply RG.xR
 ·rfl
 ·rfl
 ·intro L w9 h0 hcl xN hw9;have hs9:=hw9.o;rw[h0,if_neg σ] at hs9;refine wpList_store_row rfl _ _ _ rfl w.heap.size (xH na) rfl rfl _ _ hs9.ba yBz.o HZa.o (yC _) ?_;repeat go_step
  with_reducible refine RG.xD ?_
  exact⟨xN,ι (hs9.rowA na)⟩
 ·rfl
 apply RG.xR
 ·rfl
 ·rfl
 ·intro L w9 h0 hcl xN hw9;have hs9:=hw9.o;rw[h0,if_neg (c:=false=true) σ] at hs9;refine wpList_store_row rfl _ _ _ rfl (w.heap.size+1) (xH nb) rfl rfl _ _ hs9.bb yBy.o HZb.o (yC _) ?_;repeat go_step
  with_reducible refine RG.xD ?_
  exact⟨xN,ι (hs9.rowB nb)⟩
 ·rfl
 refine RG.yI (λw9 hw9=>?_);rw[if_pos rfl,if_pos rfl] at hw9;have HS0:Hid (xOy (mI na nb 0)):=ι (yE6 na nb 0);have HG:Hid (w.heap.size+3<=w9.heap.size):=ι (by have:=xG hw9.o.bz;omega)
 have H1:Hid (MuM w na nb w9.heap.size (mI na nb 0) ((w9.alloc (.cells (xH (List.replicate 5 0)) 239)).alloc (.cells (xH (List.replicate 5 0)) 239))):=ι ⟨(hw9.o.below ((Below.refl w9.heap.size w9).alloc ν (.cells (xH (List.replicate 5 0)) 239))).below ((Below.refl _ _).alloc ν _),zG _ _ _,yX _ _ _,HG.o⟩
 have HL:=ι (λi=>yE6 na nb i);have HPS:Hid (∀i n,n=5->mI na nb (i+1)=mS (na.getD i 0) i nb (mI na nb i) n):=ι (λi n hn=>by rw[hn];rfl);go_upto_region 3 with fail
 refine(λ(h:∀W3,Hid (MuM w na nb w9.heap.size (mI na nb 0) W3)->Code.wp _ _ _ _ W3)=>h _ H1) ?_;clear H1 HG hw9;generalize w9.heap.size=g;intro W1 H1;refine wp_region_lit ?_
 refine wpList_load_row rfl _ _ rfl w.heap.size rfl _ (xH na) (0,0) _ H1.o.two.ba Tryz.underlying240 rfl yBz.o ?_;go_wp2_with fail
 go_loopw [23] (λiv W=>∃i:Nat,i<=5/\iv=.int .i64 i/\Hid (MuM w na nb g (mI na nb i) W)) (λiv _=>5- (intOf iv).toNat)
 case atStart=>exact⟨0,δ,rfl,H1⟩
 case round=>
  clear H1
  rename World=>wi
  obtain⟨i,hi,rfl,hr⟩:=hrel
  by_cases hlt:i<5
  ·have HS:=ι (HPS.o i);have hl0:=HL.o i;obtain⟨x,hx⟩:∃x,na.getD i 0=x:=⟨_,rfl⟩;have ux:=hua i;rw[hx] at ux HS;have ix:=λW=>wQ (P:=Tryz.prog) Tryz.underlying240 Tryz.underlying228 κ (xH na) (.int .u64 x) i hlt (by rw[xBe ω,hx]) W;obtain⟨d1,hd1⟩:∃d,mI na nb (i+1)=d:=⟨_,rfl⟩
   rw[hd1] at HS;have HD1:=ι hd1;clear hd1;generalize mI na nb i=d0 at hr hl0 HS;have HT0:Hid (MuM w na nb g (mS x i nb d0 0) wi):=ι hr.o;have HTS:Hid (∀j,mS x i nb d0 (j+1)=mT x (yF (nb.getD j 0) (i+j)) (kK (i+j)) (mS x i nb d0 j)):=ι (λj=>rfl)
   have HTL:Hid (∀j,xOy (mS x i nb d0 j)):=ι (λj=>yE5 _ _ _ hl0 j);have HX:=ι ux;have HBU:=ι hub;have hrr:=hr;have HUA:=ι hua;clear hr hx ux hl0 hua hub;go_upto_region 6 with fail
   clear ix;refine wp_region_lit ?_;refine wpList_load_row rfl _ _ rfl (w.heap.size+1) rfl _ (xH nb) (0,0) _ hrr.o.two.bb Tryz.underlying240 rfl yBy.o ?_;clear hrr;go_wp2_with fail
   go_loopw [28] (λjv W=>∃j:Nat,j<=5/\jv=.int .i64 j/\Hid (MuM w na nb g (mS x i nb d0 j) W)) (λjv _=>5- (intOf jv).toNat)
   case atStart=>exact⟨0,δ,rfl,HT0⟩
   case round=>
    clear HT0
    rename World=>wj
    obtain⟨j,hj,rfl,hr⟩:=hrel
    by_cases hlt2:j<5
    ·have hTS:=HTS.o j;obtain⟨hTL1,hTL2,hTU1,hTU2⟩:=HTL.o j;obtain⟨t1,ht1⟩:∃t,mS x i nb d0 (j+1)=t:=⟨_,rfl⟩;rw[ht1] at hTS;have HT1:=ι ht1;clear ht1;generalize mS x i nb d0 j=t0 at hr hTS hTL1 hTL2 hTU1 hTU2;obtain⟨y,hy⟩:∃y,nb.getD j 0=y:=⟨_,rfl⟩;have uy:=HBU.o j
     rw[hy] at uy hTS;have uyf:=yF_u uy (i+j);have ix:=λW=>wQ (P:=Tryz.prog) Tryz.underlying240 Tryz.underlying228 κ (xH nb) (.int .u64 y) j hlt2 (by rw[xBe ω,hy]) W;have hK:kK (i+j)<5:=by unfold kK;split<;>omega
     have h1:=hTU1 (kK (i+j));have h2:=hTU2 (kK (i+j));unfold mT at hTS;obtain⟨yy,hyy⟩:∃yy,yF y (i+j)=yy:=⟨_,rfl⟩;rw[hyy] at uyf hTS;obtain⟨x0,x1⟩:=HX.o;obtain⟨y0,y1⟩:=uyf
     have HM:Hid (∀W,Calls Tryz.prog 251 #[.int .u64 x,.int .u64 yy] W λe w'=>e=.returned (.tuple #[.int .u64 (x*yy / 18446744073709551616),.int .u64 (x*yy % 18446744073709551616)])/\w'=W):=ι (λW=>xW9 x yy ⟨x0,x1⟩ ⟨y0,y1⟩ W);have hpl:=xDt (x*yy)
     have hph:0<=x*yy / 18446744073709551616/\x*yy / 18446744073709551616<18446744073709551616:=by
      have m0:0<=x*yy:=Int.mul_nonneg x0 y0;have m1:x*yy<=18446744073709551615*18446744073709551615:=Int.mul_le_mul ω ω y0 δ;omega
     generalize x*yy / 18446744073709551616=ph at HM hTS hph;generalize x*yy % 18446744073709551616=pl at HM hTS hpl;generalize hk:kK (i+j)=k at hK h1 h2 hTS;have q0:=hr.o.bl.cell (i:=k) ω;have q1:=hr.o.bh.cell (i:=k) ω;have f0:=hr.o.bl.free k;have f1:=hr.o.bh.free k
     obtain⟨l,hlv⟩:∃l,t0.2.getD k 0=l:=⟨_,rfl⟩;obtain⟨hh,hhv⟩:∃l,t0.1.getD k 0=l:=⟨_,rfl⟩;rw[hlv] at q0 h2 hTS;rw[hhv] at q1 h1 hTS;obtain⟨l0,l1⟩:=h2;obtain⟨hh0,hh1⟩:=h1;obtain⟨p0,p1⟩:=hpl;obtain⟨r0,r1⟩:=hph
     have HP:=ι ((hr.o.lo k ((l+pl) % 18446744073709551616)).hi k (IntKind.u64.wrap (hh+IntKind.u64.wrap (ph+(l+pl) / 18446744073709551616))));rw[<-hTS] at HP
     have A1:∀W,(callFunc 252 #[.int .u64 l,.int .u64 pl,.int .u64 0]).run Tryz.prog W=.ok (.value (.tuple #[.int .u64 ((l+pl) % 18446744073709551616),.int .u64 ((l+pl) / 18446744073709551616)])) W:=λW=>by
      have h:=yFb l pl 0 l0 p0 δ δ W;rw[Int.add_zero] at h;exact h
     have hc0:0<=(l+pl) / 18446744073709551616:=by omega
     have hc1:(l+pl) / 18446744073709551616<18446744073709551616:=by omega
     obtain⟨ls0,ls1⟩:=xDt (l+pl);generalize (l+pl) % 18446744073709551616=ls at HP A1 ls0 ls1;generalize (l+pl) / 18446744073709551616=cs at HP A1 hc0 hc1;clear hTS hr hlv hhv hy l0 l1 hTL1 hTL2 hTU1 hTU2 uy
     by_cases h5:5<=i+j
     ·have hk5:kK (i+j)=i+j-5:=if_pos h5;have hy5:yF y (i+j)=IntKind.u64.wrap (y*19):=if_pos h5;rw[hyy] at hy5;rw[hk] at hk5;have hii:(i:Int)+(j:Int)=(k:Int)+5:=by omega
      have h5i:(5:Int)<=(k:Int)+5:=by omega
      have HY5:=ι hy5.symm;clear hk5 h5 hy5 hk hyy;go_upto_region 13 with fail
      rw[HY5.o];go_wp2_with fail
      refine(HM.o _).mono ?_;rintro e w3 ⟨rfl,rfl⟩;go_wp2;exact⟨⟨j+1,ω,by go_num,by rw[HT1.o];exact HP⟩,by simp[intOf];omega⟩
     ·have hk5:kK (i+j)=i+j:=if_neg h5;have hy5:yF y (i+j)=y:=if_neg h5;rw[hyy] at hy5;rw[hk] at hk5;have hii:(i:Int)+(j:Int)=(k:Int):=by omega
      have h5i:¬((5:Int)<=(k:Int)):=by omega
      subst hy5;clear hk5 h5 hk hyy;go_upto_region 13 with fail
      go_wp2_with fail
      refine(HM.o _).mono ?_;rintro e w3 ⟨rfl,rfl⟩;go_wp2;exact⟨⟨j+1,ω,by go_num,by rw[HT1.o];exact HP⟩,by simp[intOf];omega⟩
    ·have hje:j=5:=by omega
     have hneg:¬((j:Int)<5):=by omega
     have HS1:=ι (HS.o j hje);clear hje hlt2 hj HTS HTL HS;go_wp2;exact⟨⟨i+1,ω,by go_num,by rw[HD1.o,HS1.o];exact hr⟩,by simp[intOf];omega⟩
  ·have hie:i=5:=by omega
   have hneg:¬((i:Int)<5):=by omega
   have HP:=ι (HR.o i hie);obtain⟨hs1,hs2,hs3,hs4⟩:=HL.o i;generalize mI na nb i=s at hr HP hs1 hs2 hs3 hs4;have HE:Hid (∀n,n=5->res=zN (prI s.1 s.2 n)):=ι (λn hn=>by rw[hn];exact HP.o);clear HP HPS HR HL hie HNa HNb hua hub
   have H5:Hid (PrM w na nb g s wi.heap.size (prI s.1 s.2 0) (wi.alloc (.cells (xH (List.replicate 5 0)) 240))):=ι ⟨hr.o.below ((Below.refl wi.heap.size wi).alloc ν _),xL _ _,xG hr.o.bl⟩;go_upto_region 20 with fail
   refine(λ(h:∀W3,Hid (PrM w na nb g s wi.heap.size (prI s.1 s.2 0) W3)->Code.wp _ _ _ _ W3)=>h _ H5) ?_;clear H5 hr hneg hlt hi;generalize wi.heap.size=gp;intro W5 H5;go_wp2_with fail
   go_loopw [67] (λkv W=>∃k:Nat,k<=5/\kv=.int .i64 k/\Hid (PrM w na nb g s gp (prI s.1 s.2 k) W)) (λkv _=>5- (intOf kv).toNat)
   case atStart=>exact⟨0,δ,rfl,H5⟩
   case round=>
    clear H5
    rename World=>wk
    obtain⟨k,hk,rfl,hr⟩:=hrel
    by_cases hlk:k<5
    ·have hpl:=xNn s.1 s.2 k;have hpu:=yA3 s.1 s.2 k;have HC:Hid (prC s.1 s.2 k=bits .or .u64 (IntKind.u64.wrap (s.1.getD k 0*8192)) (s.2.getD k 0 / 2251799813685248)):=ι rfl;obtain⟨h,hh⟩:∃h,s.1.getD k 0=h:=⟨_,rfl⟩;obtain⟨l,hl⟩:∃l,s.2.getD k 0=l:=⟨_,rfl⟩;obtain⟨h0,h1⟩:=hs3 k
     obtain⟨l0,l1⟩:=hs4 k;rw[hh] at h0 h1 HC;rw[hl] at l0 l1 HC;have HA:Hid (prA s.2 (prI s.1 s.2 k) k=(prI s.1 s.2 k).set k (IntKind.u64.wrap ((prI s.1 s.2 k).getD k 0+bits .and .u64 l 2251799813685247))):=ι (by rw[<-hl];rfl);have hal:=xVs s.2 (prI s.1 s.2 k) k
     have hau:=yDn s.2 hpu k
     have HSt:Hid (∀j,j=k+1->prI s.1 s.2 j=if j<5 then(prA s.2 (prI s.1 s.2 k) k).set j (IntKind.u64.wrap ((prA s.2 (prI s.1 s.2 k) k).getD j 0+prC s.1 s.2 k)) else(prA s.2 (prI s.1 s.2 k) k).set 0 (IntKind.u64.wrap ((prA s.2 (prI s.1 s.2 k) k).getD 0 0+IntKind.u64.wrap (19*prC s.1 s.2 k)))):=ι (λj hj=>by rw[hj];rfl)
     obtain⟨c,hc⟩:∃c,prC s.1 s.2 k=c:=⟨_,rfl⟩;rw[hc] at HC HSt;have hcu:U64 c:=by rw[HC.o];exact zD _ _ _
     obtain⟨c0,c1⟩:=hcu;have hcc:=HC.o.symm;obtain⟨pa,hpa⟩:∃pa,prA s.2 (prI s.1 s.2 k) k=pa:=⟨_,rfl⟩;rw[hpa] at HA hal hau HSt;generalize prI s.1 s.2 k=p0 at hr hpl hpu HA hal;clear hpa hc;obtain⟨x,hx⟩:∃x,p0.getD k 0=x:=⟨_,rfl⟩;obtain⟨x0,x1⟩:=hpu k;rw[hx] at x0 x1 HA
     obtain⟨m,hm⟩:∃m,bits .and .u64 l 2251799813685247=m:=⟨_,rfl⟩;obtain⟨m0,m1⟩:=hm▸zD .and l 2251799813685247;rw[hm] at HA;obtain⟨z,hz⟩:∃z,IntKind.u64.wrap (x+m)=z:=⟨_,rfl⟩;rw[hz] at HA;go_upto_region 23 with fail
     refine RG.xP (λW=>Hid (PrM w na nb g s gp p0 W)) κ κ (ι hr.o.drew) ?_
     iterate 10
      apply RG.xJ
      ·intro w9 hw9;have q1:=hw9.o.mu.bh.cell (i:=k) ω;have q2:=hw9.o.mu.bl.cell (i:=k) ω;rw[hh] at q1;rw[hl] at q2;repeat go_step
       with_reducible exact RG.xD hw9
      ·rfl
     refine RG.xS (λw9 hw9=>?_);clear hr;go_upto_region 24 with fail
     refine RG.yT 10 (λL W=>Hid (PrM w na nb g s gp (if L 9 then p0.set k z else p0) W)) (λL L' W h hI=>by rw[<-h 9 δ];exact hI) κ κ rfl (ι hw9.o.drew) ?_;clear hw9;iterate 2 refine RG.cS ?_
     apply RG.xR
     ·rfl
     ·rfl
     ·intro L w9 h0 hcl xN hw9;have e1:=hcl.not 10 (i:=9) h0 κ;have hs9:=hw9.o;rw[e1,if_neg σ] at hs9;have q:=hs9.bp.cell (i:=k) ω;rw[hx] at q;clear e1 hs9;repeat go_step
      with_reducible refine RG.xD ?_
      exact⟨xN,hw9⟩
     ·rfl
     iterate 2 refine RG.cS ?_
     apply RG.xR
     ·rfl
     ·rfl
     ·intro L w9 h0 hcl xN hw9;have q2:=hw9.o.mu.bl.cell (i:=k) ω;rw[hl] at q2;repeat go_step
      with_reducible refine RG.xD ?_
      exact⟨xN,hw9⟩
     ·rfl
     iterate 3 refine RG.cS ?_
     apply RG.xR
     ·rfl
     ·rfl
     ·intro L w9 h0 hcl xN hw9;have hs9:=hw9.o;rw[h0,if_neg σ] at hs9;have q1:=hs9.bp.cell (i:=k) ω;have q2:=hs9.bp.free k;rw[hx] at q1;have hp:Hid (PrM w na nb g s gp (p0.set k z) (w9.setCell ⟨gp,k,none⟩ (.int .u64 z))):=ι (hs9.put k z);clear hs9;repeat go_step
      with_reducible refine RG.xD ?_
      refine⟨xN,?_⟩;show Hid (PrM w na nb g s gp (if (true:Bool)=true then p0.set k z else p0) _);rw[if_pos rfl];with_reducible exact hp
     ·rfl
     refine RG.yI (λw9 hw9=>?_);rw[if_pos rfl,<-HA.o] at hw9;clear hx hm hz hcc hh hl h0 h1 l0 l1 x0 x1 m0 m1 HA
     by_cases hk1:k+1<5
     ·have HN:=ι (HSt.o (k+1) rfl);rw[if_pos hk1] at HN;have hki:(k:Int)+1<5:=by omega
      have q1:=hw9.o.bp.cell (i:=k+1) ω;have q2:=hw9.o.bp.free (k+1);have hv:=hau (k+1);obtain⟨v,hvv⟩:∃v,pa.getD (k+1) 0=v:=⟨_,rfl⟩;rw[hvv] at q1 hv HN;obtain⟨v0,v1⟩:=hv;have HF:=ι (hw9.o.put (k+1) (IntKind.u64.wrap (v+c)));rw[<-HN.o] at HF;clear hw9 hk1 hvv HSt HN;go_wp2
      exact⟨⟨k+1,ω,by go_num,HF⟩,by simp[intOf];omega⟩
     ·have HN:=ι (HSt.o (k+1) rfl);rw[if_neg hk1] at HN;have hki:¬((k:Int)+1<5):=by omega
      have q1:=hw9.o.bp.cell (i:=0) ω;have q2:=hw9.o.bp.free 0;have hv:=hau 0;obtain⟨v,hvv⟩:∃v,pa.getD 0 0=v:=⟨_,rfl⟩;rw[hvv] at q1 hv HN;obtain⟨v0,v1⟩:=hv;have HF:=ι (hw9.o.put 0 (IntKind.u64.wrap (v+IntKind.u64.wrap (19*c))));rw[<-HN.o] at HF;clear hw9 hk1 hvv HSt HN
      go_wp2;exact⟨⟨k+1,ω,by go_num,HF⟩,by simp[intOf];omega⟩
    ·have hke:k=5:=by omega
     have HRi:=ι (HE.o k hke);have hxl:=xNn s.1 s.2 k;have hxu:=yA3 s.1 s.2 k;generalize prI s.1 s.2 k=xs at hr hxl hxu HRi;have HIx:=ι (uF hxl);have HIr:=ι (uF hrl);have HZr:Hid ((xH (List.replicate 5 0)).size=(xH res).size):=ι (xAf σ hrl);have HNx:=ι (λW=>wJ xs W hxl hxu)
     rw[<-HRi.o] at HNx;have hneg:¬((k:Int)<5):=by omega
     clear HRi hxu hxl hke hlk hk HE;go_upto_region 29 with fail
     refine wp_region_lit ?_;refine wpList_load_row rfl _ _ rfl gp rfl _ (xH xs) (0,0) _ hr.o.bp Tryz.underlying240 rfl HIx.o ?_;repeat go_step
     refine(HNx.o _).mono ?_;rintro e w7 ⟨rfl,hb7⟩;have h7:=(hr.o.below hb7).mu.two;go_wp2_with (refine wpList_store_row rfl _ _ _ rfl (w.heap.size+1+1) (xH res) rfl rfl _ _ h7.bz HIr.o HZr.o (yC _) ?_)
     refine bodyPost_ret (results_cell_row rfl _ _ (w.heap.size+1+1) _ _ (0,0) _ rfl (setRow_heap _ _ _ _ _ _ h7.bz) Tryz.underlying240 rfl HIr.o) rfl ?_;exact⟨rfl,below_setRow h7.bel ω _⟩
end Go.Proofs.FE
namespace Mailsack
def ovI (n:List Int):Nat->Int
 |0=>Go.IntKind.u64.wrap (n.getD 0 0+19) / 2251799813685248
 |k+1=>Go.IntKind.u64.wrap (n.getD (k+1) 0+ovI n k) / 2251799813685248
theorem yF2 (x:Int):0<=Go.IntKind.u64.wrap x / 2251799813685248/\Go.IntKind.u64.wrap x / 2251799813685248<8192:=by
 have ⟨h0,h1⟩:=wrap_u64 x;omega
theorem ovI_lt (n:List Int):∀k,0<=ovI n k/\ovI n k<8192
 |0=>yF2 _
 |_+1=>yF2 _
def lcI (n:List Int) (o:Int):Nat->List Int×Int
 |0=>(n,19*o)
 |i+1=>((lcI n o i).1.set i (Go.bits .and .u64 (Go.IntKind.u64.wrap ((lcI n o i).1.getD i 0+(lcI n o i).2)) 2251799813685247),Go.IntKind.u64.wrap ((lcI n o i).1.getD i 0+(lcI n o i).2) / 2251799813685248)
theorem xO7 (n:List Int) (o:Int):∀i,(lcI n o i).1.length=n.length
 |0=>rfl
 |i+1=>by simp[lcI,xO7 n o i]
theorem yEa {n:List Int} (o:Int) (h:yV n):∀i,yV (lcI n o i).1
 |0=>h
 |i+1=>(yEa o h i).set i (zD _ _ _)
theorem lcI_c (n:List Int) {o:Int} (h0:0<=o) (h1:o<8192):∀i,0<=(lcI n o i).2/\(lcI n o i).2<200000
 |0=>by simp[lcI];omega
 |i+1=>by
  have:=yF2 ((lcI n o i).1.getD i 0+(lcI n o i).2);simp only[lcI];omega
def xAa (a:List Int):List Int:=(lcI (zN a) (ovI (zN a) 4) 5).1
theorem xC9 (a:List Int):(xAa a).length=5:=by rw[xAa,xO7];rfl
theorem xXn (a:List Int):yV (xAa a):=yEa _ (wT a) 5
def xDy (a:List Int) (n:Int):List Int:=uR a [n,0,0,0,0]
def sqI (a:List Int):Nat->List Int
 |0=>a
 |k+1=>uR (sqI a k) (sqI a k)
theorem xFr {a:List Int} (h:a.length=5):∀k,(sqI a k).length=5
 |0=>h
 |_+1=>vE _ _
theorem yDd {a:List Int} (h:yV a):∀k,yV (sqI a k)
 |0=>h
 |_+1=>qY _ _
end Mailsack
namespace Go.Proofs.FE
open Go.RowKit Mailsack MM BB SH
structure xH3 (w:World) (ax:List Int) (W:World):Prop where
 ba:uU 240 W w.heap.size ax
 bz:uU 240 W (w.heap.size+1) (List.replicate 5 0)
 bel:Below w.heap.size w W
section
variable {w W W':World} {ax:List Int}
theorem xH3.start (ax:List Int):xH3 w ax ((w.alloc (.cells (xH ax) 240)).alloc (.cells (xH (List.replicate 5 0)) 240)):=
 ⟨zG _ _ _,yX _ _ _,((Below.refl w.heap.size w).alloc ν _).alloc σ _⟩
theorem xH3.below (h:xH3 w ax W) (hb:Below W.heap.size W W'):xH3 w ax W':=⟨h.ba.below hb,h.bz.below hb,h.bel.trans (hb.mono h.bel.size)⟩
theorem xH3.put (h:xH3 w ax W) (i:Nat) (x:Int):xH3 w (ax.set i x) (W.setCell ⟨w.heap.size,i,none⟩ (.int .u64 x)):=
 ⟨h.ba.put i x,h.bz.far (p:=⟨w.heap.size,i,none⟩) σ _,h.bel.setCell (p:=⟨w.heap.size,i,none⟩) ν _⟩
theorem xH3.row (h:xH3 w ax W) (xs:List Int):xH3 w xs (W.setRow w.heap.size (xH xs)):=
 ⟨setRow_heap _ _ _ _ _ _ h.ba,(setRow_other _ _ _ _ ω).trans h.bz,below_setRow h.bel ν _⟩
end
theorem xVe (ax:List Int) (n:Int) (w:World) (hl:ax.length=5) (hu:yV ax) (hn0:0<=n) (hn1:n<4294967296):
  Calls Tryz.prog 248 #[.agg (xH ax),.int .u32 n] w λe w'=>e=.returned (.agg (xH (xDy ax n)))/\Below w.heap.size w w':=by
 have HM:Hid (∀W,Calls Tryz.prog 174 #[.agg (xH ax),.agg #[.int .u64 n,.int .u64 0,.int .u64 0,.int .u64 0,.int .u64 0]] W λe w'=>e=.returned (.agg (xH (xDy ax n)))/\Below W.heap.size W w'):=ι (λW=>rH ax [n,0,0,0,0] W hl hu rfl (xDe ⟨hn0,ω⟩ ⟨δ,δ⟩ ⟨δ,δ⟩ ⟨δ,δ⟩ ⟨δ,δ⟩))
 have hrl:(xDy ax n).length=5:=rfl;have HI:=ι (uF hl);have H0:=ι (xH3.start (w:=w) ax);generalize xDy ax n=res at HM hrl⊢;have HIr:=ι (uF hrl);have HZr:Hid ((xH (List.replicate 5 0)).size=(xH res).size):=ι (xAf σ hrl);clear hl hu;go_enter Tryz.func248,Tryz.ntmps248
 go_upto_region 1 with fail
 refine(λ(h:∀W3,Hid (xH3 w ax W3)->Code.wp _ _ _ _ W3)=>h _ H0) ?_;clear H0;intro W0 H0;refine wp_region_lit ?_;refine wpList_load_row rfl _ _ rfl w.heap.size rfl _ (xH ax) (0,0) _ H0.o.ba Tryz.underlying240 rfl HI.o ?_;repeat go_step
 refine(HM.o _).mono ?_;rintro e w7 ⟨rfl,hb7⟩;have h7:=H0.o.below hb7;go_wp2_with (refine wpList_store_row rfl _ _ _ rfl (w.heap.size+1) (xH res) rfl rfl _ _ h7.bz HIr.o HZr.o (yC _) ?_)
 refine bodyPost_ret (results_cell_row rfl _ _ (w.heap.size+1) _ _ (0,0) _ rfl (setRow_heap _ _ _ _ _ _ h7.bz) Tryz.underlying240 rfl HIr.o) rfl ?_;exact⟨rfl,below_setRow h7.bel ω _⟩
theorem xNg (ax:List Int) (n:Nat) (w:World) (hl:ax.length=5) (hu:yV ax) (hn:n<=1000):
  Calls Tryz.prog 253 #[.agg (xH ax),.int .i64 n] w λe w'=>e=.returned (.agg (xH (sqI ax n)))/\Below w.heap.size w w':=by
 have HM:Hid (∀k W,Calls Tryz.prog 174 #[.agg (xH (sqI ax k)),.agg (xH (sqI ax k))] W λe w'=>e=.returned (.agg (xH (sqI ax (k+1))))/\Below W.heap.size W w'):=ι (λk W=>rH _ _ W (xFr hl k) (yDd hu k) (xFr hl k) (yDd hu k))
 have HI:Hid (∀k,(Tryz.prog.info? 240).map (·.size)=some (xH (sqI ax k)).size):=ι (λk=>uF (xFr hl k));have HZ:Hid (∀k,(xH (sqI ax k)).size=5):=ι (λk=>by rw[xW,xFr hl k]);have H0:Hid (xH3 w (sqI ax 0) _):=ι (xH3.start (w:=w) ax);have HL:=ι hl;clear hl hu
 go_enter Tryz.func253,Tryz.ntmps253;go_upto_region 1 with fail
 refine(λ(h:∀W3,Hid (xH3 w (sqI ax 0) W3)->Code.wp _ _ _ _ W3)=>h _ H0) ?_;clear H0;intro W0 H0;go_wp2_with fail
 go_loopw [6] (λiv W=>∃k:Nat,k<=n/\iv=.int .i64 k/\Hid (xH3 w (sqI ax k) W)) (λiv _=>n- (intOf iv).toNat)
 case atStart=>exact⟨0,Nat.zero_le _,rfl,H0⟩
 case round=>
  clear H0;obtain⟨k,hk,rfl,hr⟩:=hrel
  by_cases hlt:k<n
  ·have HMk:=ι (HM.o k);have HIk:=ι (HI.o k);have HIn:=ι (HI.o (k+1));have HZk:Hid ((xH (sqI ax k)).size=(xH (sqI ax (k+1))).size):=ι (by rw[HZ.o,HZ.o]);obtain⟨s1,hs1⟩:∃s,sqI ax (k+1)=s:=⟨_,rfl⟩;rw[hs1] at HMk HIn HZk;have HS1:=ι hs1;clear hs1
   generalize sqI ax k=s0 at hr HMk HIk HZk;go_upto_region 3 with fail
   refine wp_region_lit ?_;refine wpList_load_row rfl _ _ rfl w.heap.size rfl _ (xH s0) (0,0) _ hr.o.ba Tryz.underlying240 rfl HIk.o ?_;refine wpList_load_row rfl _ _ rfl w.heap.size rfl _ (xH s0) (0,0) _ hr.o.ba Tryz.underlying240 rfl HIk.o ?_;repeat go_step
   refine(HMk.o _).mono ?_;rintro e w7 ⟨rfl,hb7⟩;have h7:=hr.o.below hb7;have h8:=ι (h7.row s1);go_wp2_with (refine wpList_store_row rfl _ _ _ rfl w.heap.size (xH s1) rfl rfl _ _ h7.ba HIn.o HZk.o (yC _) ?_)
   exact⟨⟨k+1,ω,by go_num,by rw[HS1.o];exact h8⟩,by simp[intOf];omega⟩
  ·have hke:k=n:=by omega
   subst hke;have HIr:=ι (HI.o k);have HZr:Hid ((xH (List.replicate 5 0)).size=(xH (sqI ax k)).size):=ι (by rw[HZ.o];rfl);clear HM;obtain⟨res,hres⟩:∃res,sqI ax k=res:=⟨_,rfl⟩;have HE:Hid (Ending.returned (Value.agg (xH res))=.returned (.agg (xH (sqI ax k)))):=ι (by rw[hres])
   rw[hres] at hr HIr HZr;clear hk hlt hres;go_upto_region 5 with fail
   refine wp_region_lit ?_;refine wpList_load_row rfl _ _ rfl w.heap.size rfl _ (xH res) (0,0) _ hr.o.ba Tryz.underlying240 rfl HIr.o ?_;refine wpList_store_row rfl _ _ _ rfl (w.heap.size+1) (xH res) rfl rfl _ _ hr.o.bz HIr.o HZr.o (yC _) ?_;go_wp2
   refine bodyPost_ret (results_cell_row rfl _ _ (w.heap.size+1) _ _ (0,0) _ rfl (setRow_heap _ _ _ _ _ _ hr.o.bz) Tryz.underlying240 rfl HIr.o) rfl ?_;exact⟨(by first|rfl|exact HE.o),below_setRow hr.o.bel ω _⟩
theorem xOh (ax:List Int) (w:World) (hl:ax.length=5) (hu:yV ax):
  Calls Tryz.prog 249 #[.agg (xH ax)] w λe w'=>e=.returned (.agg (xH (xAa ax)))/\Below w.heap.size w w':=by
 have HN:=ι (λW=>wJ ax W hl hu);have HIa:=ι (uF hl);have HIn:=ι (uF (zK ax));have HZa:=ι (xAf hl (zK ax));have hnl:=zK ax;have hnu:=wT ax;have H0:=ι (xH3.start (w:=w) ax);have HR:Hid (∀m n,m=4->n=5->xAa ax=(lcI (zN ax) (ovI (zN ax) m) n).1):=ι (λm n hm hn=>by rw[hm,hn];rfl)
 obtain⟨res,hres⟩:∃x,xAa ax=x:=⟨_,rfl⟩;rw[hres] at HR⊢;clear hl hu hres;generalize zN ax=na at HN HIn HZa hnl hnu HR;go_enter Tryz.func249,Tryz.ntmps249;go_upto_region 1 with fail
 refine(λ(h:∀W3,Hid (xH3 w ax W3)->Code.wp _ _ _ _ W3)=>h _ H0) ?_;clear H0;intro W0 H0;refine wp_region_lit ?_;refine wpList_load_row rfl _ _ rfl w.heap.size rfl _ (xH ax) (0,0) _ H0.o.ba Tryz.underlying240 rfl HIa.o ?_;repeat go_step
 refine(HN.o _).mono ?_;rintro e w7 ⟨rfl,hb7⟩;have h7:=H0.o.below hb7;have H8:=ι (h7.row na);have HV:=ι (λk=>ovI_lt na k);have HV0:Hid (ovI na 0=IntKind.u64.wrap (na.getD 0 0+19) / 2251799813685248):=ι rfl;obtain⟨v,hv⟩:∃v,na.getD 0 0=v:=⟨_,rfl⟩;rw[hv] at HV0
 obtain⟨v0,v1⟩:=hv▸hnu 0;obtain⟨o0,ho0⟩:∃o,ovI na 0=o:=⟨_,rfl⟩;rw[ho0] at HV0;have HO0:=ι ho0;have q0:=H8.o.ba.cell (i:=0) ω;rw[hv] at q0;have HU0:=ι (wrap_u64 (v+19));clear ho0 hv H0 hb7
 go_wp2_with (refine wpList_store_row rfl _ _ _ rfl w.heap.size (xH na) rfl rfl _ _ h7.ba HIn.o HZa.o (yC _) ?_)
 clear q0 h7;generalize w7.setRow w.heap.size (xH na)=w8 at H8⊢
 go_loopw [3,4] (λov iv W=>∃i k:Nat,i=k+1/\k<=4/\iv=.int .i64 i/\ov=.int .u64 (ovI na k)/\Hid (xH3 w na W)) (λ_ iv _=>5- (intOf iv).toNat)
 case atStart=>exact⟨1,0,rfl,δ,rfl,by rw[HO0.o,HV0.o],H8⟩
 case round=>
  obtain⟨i,k,hik,hk,rfl,rfl,hr⟩:=hrel;clear H8;obtain⟨o1,o2⟩:=HV.o k
  by_cases hlt:i<5
  ·have HS:Hid (∀j,j=k+1->ovI na (k+1)=IntKind.u64.wrap (na.getD j 0+ovI na k) / 2251799813685248):=ι (λj hj=>by rw[hj];rfl)
   replace HS:=ι (HS.o i hik)
   obtain⟨s,hs⟩:∃s,ovI na (k+1)=s:=⟨_,rfl⟩;rw[hs] at HS;have HSE:=ι hs;have q0:=hr.o.ba.cell (i:=i) ω;obtain⟨x0,x1⟩:=hnu i;generalize ovI na k=o at o1 o2 HS⊢;generalize na.getD i 0=x at q0 x0 x1 HS;have HIK:=ι hik;have HB:=ι (wrap_u64 (x+o));clear hs hik v0 v1;go_wp2
   exact⟨⟨i+1,k+1,by rw[HIK.o],by have:=HIK.o;omega,by go_num,by rw[HSE.o,HS.o],hr⟩,by simp[intOf];omega⟩
  ·have hke:k=4:=by omega
   have HRk:=ι (λn hn=>HR.o k n hke hn);have HLC:=ι (λi=>lcI_c na o1 o2 i);have HLL:=ι (λi=>xO7 na (ovI na k) i);have HLU:=ι (λi=>yEa (ovI na k) hnu i);have H9:Hid (xH3 w (lcI na (ovI na k) 0).1 wr):=ι hr.o;have HC0:Hid ((lcI na (ovI na k) 0).2=19*ovI na k):=ι rfl
   generalize ovI na k=o at o1 o2 HRk HLC HLL HLU H9 HC0⊢;clear hr hke hk hik v0 v1;go_wp2_with fail
   go_loopw [5,26] (λcv jv W=>∃j:Nat,j<=5/\jv=.int .i64 j/\cv=.int .u64 (lcI na o j).2/\Hid (xH3 w (lcI na o j).1 W)) (λ_ jv _=>5- (intOf jv).toNat)
   case atStart=>exact⟨0,δ,rfl,by rw[HC0.o],H9⟩
   case round=>
    rename World=>wj
    obtain⟨j,hj,rfl,rfl,hr⟩:=hrel;clear H9;obtain⟨c1,c2⟩:=HLC.o j;have hll:=HLL.o j;have hlu:=HLU.o j
    by_cases hlt2:j<5
    ·have HS:Hid (lcI na o (j+1)=((lcI na o j).1.set j (bits .and .u64 (IntKind.u64.wrap ((lcI na o j).1.getD j 0+(lcI na o j).2)) 2251799813685247),IntKind.u64.wrap ((lcI na o j).1.getD j 0+(lcI na o j).2) / 2251799813685248)):=ι rfl;obtain⟨s,hs⟩:∃s,lcI na o (j+1)=s:=⟨_,rfl⟩
     rw[hs] at HS;have HSE:=ι hs;generalize (lcI na o j).1=l at hr hll hlu HS;generalize (lcI na o j).2=c at c1 c2 HS⊢;have q0:=hr.o.ba.cell (i:=j) ω;have q1:=hr.o.ba.free j;obtain⟨x0,x1⟩:=hlu j;generalize l.getD j 0=x at q0 x0 x1 HS
     obtain⟨y,hy⟩:∃y,IntKind.u64.wrap (x+c)=y:=⟨_,rfl⟩;obtain⟨y0,y1⟩:=hy▸wrap_u64 (x+c);rw[hy] at HS;have HP:=ι (hr.o.put j (bits .and .u64 y 2251799813685247));clear hs hr o1 o2;go_wp2;refine⟨⟨j+1,ω,by go_num,by rw[HSE.o,HS.o],?_⟩,by simp[intOf];omega⟩;rw[HSE.o,HS.o]
     exact HP
    ·have hje:j=5:=by omega
     have HRj:=ι (HRk.o j hje);have HIr:Hid ((Tryz.prog.info? 240).map (·.size)=some (xH res).size):=ι (uF (by rw[HRj.o,hll,hnl]));have HZr:Hid ((xH (List.replicate 5 0)).size=(xH res).size):=ι (xAf σ (by rw[HRj.o,hll,hnl]));rw[<-HRj.o] at hr;have hneg:¬((j:Int)<5):=by omega
     clear HRj hll hlu hje hj hlt2 HLC HLL HLU HRk HC0 o1 o2;go_upto_region 15 with fail
     refine wp_region_lit ?_;refine wpList_load_row rfl _ _ rfl w.heap.size rfl _ (xH res) (0,0) _ hr.o.ba Tryz.underlying240 rfl HIr.o ?_;refine wpList_store_row rfl _ _ _ rfl (w.heap.size+1) (xH res) rfl rfl _ _ hr.o.bz HIr.o HZr.o (yC _) ?_;go_wp2
     refine bodyPost_ret (results_cell_row rfl _ _ (w.heap.size+1) _ _ (0,0) _ rfl (setRow_heap _ _ _ _ _ _ hr.o.bz) Tryz.underlying240 rfl HIr.o) rfl ?_;exact⟨(by first|rfl|exact HE.o),below_setRow hr.o.bel ω _⟩
end Go.Proofs.FE
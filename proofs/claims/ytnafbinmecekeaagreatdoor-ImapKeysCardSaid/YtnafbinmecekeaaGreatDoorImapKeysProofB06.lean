/- Contracts of functions. Conditions: as stated. -/
import Derived.Test.YtnafbinmecekeaaGreatDoorImapKeysProofB05
open Go.Proofs.Tryz
set_option maxHeartbeats 8000000
set_option maxRecDepth 100000
namespace Mailsack
def yF (y:Int) (k:Nat):Int:=if 5<=k then Go.IntKind.u64.wrap (y*19) else y
theorem yF_u {y:Int} (h:U64 y) (k:Nat):U64 (yF y k):=by
 unfold yF;split
 ·exact wrap_u64 _
 ·exact h
def mT (x y:Int) (k:Nat) (s:List Int×List Int):List Int×List Int:=
 (s.1.set k (Go.IntKind.u64.wrap (s.1.getD k 0+Go.IntKind.u64.wrap (x*y / 18446744073709551616+(s.2.getD k 0+x*y % 18446744073709551616) / 18446744073709551616))),s.2.set k ((s.2.getD k 0+x*y % 18446744073709551616) % 18446744073709551616))
def mS (x:Int) (i:Nat) (b:List Int) (s:List Int×List Int):Nat->List Int×List Int
 |0=>s
 |j+1=>mT x (yF (b.getD j 0) (i+j)) (kK (i+j)) (mS x i b s j)
def mI (a b:List Int):Nat->List Int×List Int
 |0=>(List.replicate 5 0,List.replicate 5 0)
 |i+1=>mS (a.getD i 0) i b (mI a b i) 5
def xOr (s:List Int×List Int):Prop:=s.1.length=5/\s.2.length=5/\yU s.1/\yU s.2
theorem mT_ok (x y:Int) (k:Nat) {s:List Int×List Int} (h:xOr s):xOr (mT x y k s):=by
 obtain⟨h1,h2,h3,h4⟩:=h;exact⟨by simp[mT,h1],by simp[mT,h2],h3.set k (wrap_u64 _),h4.set k (xDs _)⟩
theorem yDf (x:Int) (i:Nat) (b:List Int) {s:List Int×List Int} (h:xOr s):∀j,xOr (mS x i b s j)
 |0=>h
 |j+1=>mT_ok _ _ _ (yDf x i b h j)
theorem yDg (a b:List Int):∀i,xOr (mI a b i)
 |0=>⟨by simp[mI],by simp[mI],xBu 5,xBu 5⟩
 |i+1=>yDf _ _ _ (yDg a b i) 5
def prC (hi lo:List Int) (k:Nat):Int:=Go.bits .or .u64 (Go.IntKind.u64.wrap (hi.getD k 0*8192)) (lo.getD k 0 / 2251799813685248)
def prA (lo p:List Int) (k:Nat):List Int:=p.set k (Go.IntKind.u64.wrap (p.getD k 0+Go.bits .and .u64 (lo.getD k 0) 2251799813685247))
def prI (hi lo:List Int):Nat->List Int
 |0=>List.replicate 5 0
 |k+1=>if k+1<5 then(prA lo (prI hi lo k) k).set (k+1) (Go.IntKind.u64.wrap ((prA lo (prI hi lo k) k).getD (k+1) 0+prC hi lo k)) else(prA lo (prI hi lo k) k).set 0 (Go.IntKind.u64.wrap ((prA lo (prI hi lo k) k).getD 0 0+Go.IntKind.u64.wrap (19*prC hi lo k)))
theorem xVg (lo p:List Int) (k:Nat):(prA lo p k).length=p.length:=by simp[prA]
theorem yD1 (lo:List Int) {p:List Int} (h:yU p) (k:Nat):yU (prA lo p k):=h.set k (wrap_u64 _)
theorem xNp (hi lo:List Int):∀k,(prI hi lo k).length=5
 |0=>by simp[prI]
 |k+1=>by
  rw[prI];split<;>simp[xVg,xNp hi lo k]
theorem xZc (hi lo:List Int):∀k,yU (prI hi lo k)
 |0=>xBu 5
 |k+1=>by
  rw[prI];split
  ·exact(yD1 lo (xZc hi lo k) k).set _ (wrap_u64 _)
  ·exact(yD1 lo (xZc hi lo k) k).set _ (wrap_u64 _)
def yBs (s:List Int×List Int):List Int:=zN (prI s.1 s.2 5)
def uN (a b:List Int):List Int:=yBs (mI (zN a) (zN b) 5)
theorem vC (a b:List Int):(uN a b).length=5:=rfl
theorem tC (a b:List Int):yU (uN a b):=wW _
end Mailsack
namespace Go.Proofs.FE
open Go.RowKit Mailsack MM BB SH
theorem xW0 (x y:Int) (hx:U64 x) (hy:U64 y) (w:World):
  Calls prog 251 #[.int .u64 x,.int .u64 y] w λe w'=>e=.returned (.tuple #[.int .u64 (x*y / 18446744073709551616),.int .u64 (x*y % 18446744073709551616)])/\w'=w:=by
 obtain⟨x0,x1⟩:=hx;obtain⟨y0,y1⟩:=hy;have h:=Tryz.bits_Mul64 x.toNat y.toNat ω ω w;have e1:((x.toNat:Nat):Int)=x:=ω;have e2:((y.toNat:Nat):Int)=y:=ω
 have e3:((x.toNat*y.toNat / 18446744073709551616:Nat):Int)=x*y / 18446744073709551616:=by rw[Int.natCast_ediv,Int.natCast_mul,e1,e2];rfl
 have e4:((x.toNat*y.toNat % 18446744073709551616:Nat):Int)=x*y % 18446744073709551616:=by rw[Int.natCast_emod,Int.natCast_mul,e1,e2];rfl
 rw[e1,e2,e3,e4] at h;exact h
structure MuM (w:World) (na nb:List Int) (g:Nat) (s:List Int×List Int) (W:World):Prop where
 two:vV w na nb W
 bh:uR 213 W g s.1
 bl:uR 213 W (g+1) s.2
 ge:w.heap.size+3<=g
section
variable {w W W':World} {na nb:List Int} {g:Nat} {s:List Int×List Int}
theorem MuM.below (h:MuM w na nb g s W) (hb:ψ W W'):MuM w na nb g s W':=⟨h.two.below hb,h.bh.below hb,h.bl.below hb,h.ge⟩
theorem vV.far (h:vV w na nb W) {p:Addr} (hp:w.heap.size+3<=p.block) (u:Value):vV w na nb (W.setCell p u):=
 ⟨h.ba.far ω u,h.bb.far ω u,h.bz.far ω u,h.bel.setCell ω u⟩
theorem MuM.lo (h:MuM w na nb g s W) (k:Nat) (x:Int):MuM w na nb g (s.1,s.2.set k x) (W.setCell ⟨g+1,k,none⟩ (.int .u64 x)):=by
 have hg:=h.ge;exact⟨h.two.far (p:=⟨g+1,k,none⟩) (by simp only[];omega) _,h.bh.far (p:=⟨g+1,k,none⟩) σ _,h.bl.put k x,hg⟩
theorem MuM.hi (h:MuM w na nb g s W) (k:Nat) (x:Int):MuM w na nb g (s.1.set k x,s.2) (W.setCell ⟨g,k,none⟩ (.int .u64 x)):=by
 have hg:=h.ge;exact⟨h.two.far (p:=⟨g,k,none⟩) (by simp only[];omega) _,h.bh.put k x,h.bl.far (p:=⟨g,k,none⟩) σ _,hg⟩
end
structure PrM (w:World) (na nb:List Int) (g:Nat) (s:List Int×List Int) (gp:Nat) (p:List Int) (W:World):Prop where
 mu:MuM w na nb g s W
 bp:uR 214 W gp p
 gt:g+1<gp
section
variable {w W W':World} {na nb:List Int} {g gp:Nat} {s:List Int×List Int} {p:List Int}
theorem PrM.below (h:PrM w na nb g s gp p W) (hb:ψ W W'):PrM w na nb g s gp p W':=⟨h.mu.below hb,h.bp.below hb,h.gt⟩
theorem PrM.drew (h:PrM w na nb g s gp p W):PrM w na nb g s gp p W.drew:=⟨⟨h.mu.two.drew,h.mu.bh,h.mu.bl,h.mu.ge⟩,h.bp,h.gt⟩
theorem PrM.put (h:PrM w na nb g s gp p W) (k:Nat) (x:Int):PrM w na nb g s gp (p.set k x) (W.setCell ⟨gp,k,none⟩ (.int .u64 x)):=by
 have hg:=h.mu.ge;have hp:=h.gt;exact⟨⟨h.mu.two.far (p:=⟨gp,k,none⟩) (by simp only[];omega) _,h.mu.bh.far (p:=⟨gp,k,none⟩) (by simp only[];omega) _,h.mu.bl.far (p:=⟨gp,k,none⟩) (by simp only[];omega) _,hg⟩,h.bp.put k x,hp⟩
end
theorem rO (ax bx:List Int) (w:World) (hl:ax.length=5) (hu:yU ax) (hl2:bx.length=5) (hu2:yU bx):
  Calls prog 161 #[.agg (xG ax),.agg (xG bx)] w λe w'=>e=.returned (.agg (xG (uN ax bx)))/\ψ w w':=by
 have HNa:=ι (λW=>wM ax W hl hu);have HNb:=ι (λW=>wM bx W hl2 hu2);have HIa:=ι (uF hl);have HIb:=ι (uF hl2);have yB1:=ι (uF (zJ ax));have yB0:=ι (uF (zJ bx));have HZa:=ι (xAe hl (zJ ax));have HZb:=ι (xAe hl2 (zJ bx));have hna:=zJ ax;have hnb:=zJ bx;have hua:=wW ax;have hub:=wW bx
 have H0:=ι (vV.start (w:=w) ax bx);have HR:Hid (∀n,n=5->uN ax bx=yBs (mI (zN ax) (zN bx) n)):=ι (λn hn=>by rw[hn];rfl);obtain⟨res,hres⟩:∃x,uN ax bx=x:=⟨_,rfl⟩;have hrl:res.length=5:=by rw[<-hres];rfl
 rw[hres] at HR⊢;clear hres hl hu hl2 hu2;generalize zN ax=na at HNa yB1 HZa hna hua HR;generalize zN bx=nb at HNb yB0 HZb hnb hub HR;go_enter func161,ntmps161;go_upto_region 1 with fail
 refine(λ(h:∀W3,Hid (vV w ax bx W3)->Code.wp _ _ _ _ W3)=>h _ H0) ?_;clear H0;intro W0 H0;refine RG.yD 6 (λL W=>Hid (vV w (if L 4 then na else ax) (if L 5 then nb else bx) W)) (λL L' W h hI=>by rw[<-h 4 δ,<-h 5 δ];exact hI) κ κ rfl (ι H0.o.drew) ?_;clear H0;apply RG.xN
 ·rfl
 ·rfl
 ·intro L w9 h0 hcl xK hw9;have e1:=hcl.not 6 (i:=4) h0 κ;have hs9:=hw9.o.ba;rw[e1,if_neg σ] at hs9;refine wpList_load_row rfl _ _ rfl w.heap.size rfl _ (xG ax) (0,0) _ hs9 underlying214 rfl HIa.o ?_;repeat go_step
  refine RG.xC ?_;exact⟨xK,hw9⟩
 ·rfl
 apply RG.xN
 ·rfl
 ·rfl
 ·intro L w9 h0 hcl xK hw9;repeat go_step
  refine(HNa.o _).mono ?_;rintro e w10 ⟨rfl,zF⟩;simp only[];repeat go_step
  refine RG.xC ?_;exact⟨xK,ι (hw9.o.below zF)⟩
 ·rfl
 apply RG.xN
 ·rfl
 ·rfl
 ·intro L w9 h0 hcl xK hw9;have e1:=hcl.not 6 (i:=5) h0 κ;have hs9:=hw9.o.bb;rw[e1,if_neg σ] at hs9;refine wpList_load_row rfl _ _ rfl (w.heap.size+1) rfl _ (xG bx) (0,0) _ hs9 underlying214 rfl HIb.o ?_;repeat go_step
  refine RG.xC ?_;exact⟨xK,hw9⟩
 ·rfl
 apply RG.xN
 ·rfl
 ·rfl
 ·intro L w9 h0 hcl xK hw9;repeat go_step
  refine(HNb.o _).mono ?_;rintro e w10 ⟨rfl,zF⟩;simp only[];repeat go_step
  refine RG.xC ?_;exact⟨xK,ι (hw9.o.below zF)⟩
 ·rfl
 apply RG.xN
 ·rfl
 ·rfl
 ·intro L w9 h0 hcl xK hw9;have hs9:=hw9.o;rw[h0,if_neg σ] at hs9;refine wpList_store_row rfl _ _ _ rfl w.heap.size (xG na) rfl rfl _ _ hs9.ba yB1.o HZa.o (yB _) ?_;repeat go_step
  refine RG.xC ?_;exact⟨xK,ι (hs9.rowA na)⟩
 ·rfl
 apply RG.xN
 ·rfl
 ·rfl
 ·intro L w9 h0 hcl xK hw9;have hs9:=hw9.o;rw[h0,if_neg (c:=false=true) σ] at hs9;refine wpList_store_row rfl _ _ _ rfl (w.heap.size+1) (xG nb) rfl rfl _ _ hs9.bb yB0.o HZb.o (yB _) ?_;repeat go_step
  refine RG.xC ?_;exact⟨xK,ι (hs9.rowB nb)⟩
 ·rfl
 refine RG.xZ (λw9 hw9=>?_);rw[if_pos rfl,if_pos rfl] at hw9;have HS0:Hid (xOr (mI na nb 0)):=ι (yDg na nb 0);have HG:Hid (w.heap.size+3<=w9.heap.size):=ι (by have:=xH hw9.o.bz;omega)
 have H1:Hid (MuM w na nb w9.heap.size (mI na nb 0) ((w9.alloc (.cells (xG (List.replicate 5 0)) 213)).alloc (.cells (xG (List.replicate 5 0)) 213))):=ι ⟨(hw9.o.below (φ w9 (.cells (xG (List.replicate 5 0)) 213))).below ((Below.refl _ _).alloc ν _),zV _ _ _,zK _ _ _,HG.o⟩
 have HL:=ι (λi=>yDg na nb i);have HPS:Hid (∀i n,n=5->mI na nb (i+1)=mS (na.getD i 0) i nb (mI na nb i) n):=ι (λi n hn=>by rw[hn];rfl);go_upto_region 3 with fail
 refine(λ(h:∀W3,Hid (MuM w na nb w9.heap.size (mI na nb 0) W3)->Code.wp _ _ _ _ W3)=>h _ H1) ?_;clear H1 HG hw9;generalize w9.heap.size=g;intro W1 H1;refine wp_region_lit ?_
 refine wpList_load_row rfl _ _ rfl w.heap.size rfl _ (xG na) (0,0) _ H1.o.two.ba underlying214 rfl yB1.o ?_;go_wp2_with fail
 go_loopw [23] (λiv W=>∃i:Nat,i<=5/\iv=.int .i64 i/\Hid (MuM w na nb g (mI na nb i) W)) (λiv _=>5- (intOf iv).toNat)
 case atStart=>exact⟨0,δ,rfl,H1⟩
 case round=>
  clear H1
  rename World=>wi
  obtain⟨i,hi,rfl,hr⟩:=hrel
  by_cases hlt:i<5
  ·have HS:=ι (HPS.o i);have hl0:=HL.o i;obtain⟨x,hx⟩:∃x,na.getD i 0=x:=⟨_,rfl⟩;have ux:=hua i;rw[hx] at ux HS;have ix:=λW=>wV (P:=prog) underlying214 underlying212 κ (xG na) (.int .u64 x) i hlt (by rw[xB9 ω,hx]) W;obtain⟨d1,hd1⟩:∃d,mI na nb (i+1)=d:=⟨_,rfl⟩
   rw[hd1] at HS;have HD1:=ι hd1;clear hd1;generalize mI na nb i=d0 at hr hl0 HS;have HT0:Hid (MuM w na nb g (mS x i nb d0 0) wi):=ι hr.o;have HTS:Hid (∀j,mS x i nb d0 (j+1)=mT x (yF (nb.getD j 0) (i+j)) (kK (i+j)) (mS x i nb d0 j)):=ι (λj=>rfl)
   have HTL:Hid (∀j,xOr (mS x i nb d0 j)):=ι (λj=>yDf _ _ _ hl0 j);have HX:=ι ux;have HBU:=ι hub;have hrr:=hr;have HUA:=ι hua;clear hr hx ux hl0 hua hub;go_upto_region 6 with fail
   clear ix;refine wp_region_lit ?_;refine wpList_load_row rfl _ _ rfl (w.heap.size+1) rfl _ (xG nb) (0,0) _ hrr.o.two.bb underlying214 rfl yB0.o ?_;clear hrr;go_wp2_with fail
   go_loopw [28] (λjv W=>∃j:Nat,j<=5/\jv=.int .i64 j/\Hid (MuM w na nb g (mS x i nb d0 j) W)) (λjv _=>5- (intOf jv).toNat)
   case atStart=>exact⟨0,δ,rfl,HT0⟩
   case round=>
    clear HT0
    rename World=>wj
    obtain⟨j,hj,rfl,hr⟩:=hrel
    by_cases hlt2:j<5
    ·have hTS:=HTS.o j;obtain⟨hTL1,hTL2,hTU1,hTU2⟩:=HTL.o j;obtain⟨t1,ht1⟩:∃t,mS x i nb d0 (j+1)=t:=⟨_,rfl⟩;rw[ht1] at hTS;have HT1:=ι ht1;clear ht1;generalize mS x i nb d0 j=t0 at hr hTS hTL1 hTL2 hTU1 hTU2;obtain⟨y,hy⟩:∃y,nb.getD j 0=y:=⟨_,rfl⟩;have uy:=HBU.o j
     rw[hy] at uy hTS;have uyf:=yF_u uy (i+j);have ix:=λW=>wV (P:=prog) underlying214 underlying212 κ (xG nb) (.int .u64 y) j hlt2 (by rw[xB9 ω,hy]) W;have hK:kK (i+j)<5:=by unfold kK;split<;>omega
     have h1:=hTU1 (kK (i+j));have h2:=hTU2 (kK (i+j));unfold mT at hTS;obtain⟨yy,hyy⟩:∃yy,yF y (i+j)=yy:=⟨_,rfl⟩;rw[hyy] at uyf hTS;obtain⟨x0,x1⟩:=HX.o;obtain⟨y0,y1⟩:=uyf
     have HM:Hid (∀W,Calls prog 251 #[.int .u64 x,.int .u64 yy] W λe w'=>e=.returned (.tuple #[.int .u64 (x*yy / 18446744073709551616),.int .u64 (x*yy % 18446744073709551616)])/\w'=W):=ι (λW=>xW0 x yy ⟨x0,x1⟩ ⟨y0,y1⟩ W);have hpl:=xDs (x*yy)
     have hph:0<=x*yy / 18446744073709551616/\x*yy / 18446744073709551616<18446744073709551616:=by
      have m0:0<=x*yy:=Int.mul_nonneg x0 y0;have m1:x*yy<=18446744073709551615*18446744073709551615:=Int.mul_le_mul ω ω y0 δ;omega
     generalize x*yy / 18446744073709551616=ph at HM hTS hph;generalize x*yy % 18446744073709551616=pl at HM hTS hpl;generalize hk:kK (i+j)=k at hK h1 h2 hTS;have q0:=hr.o.bl.cell (i:=k) ω;have q1:=hr.o.bh.cell (i:=k) ω;have f0:=hr.o.bl.free k;have f1:=hr.o.bh.free k
     obtain⟨l,hlv⟩:∃l,t0.2.getD k 0=l:=⟨_,rfl⟩;obtain⟨hh,hhv⟩:∃l,t0.1.getD k 0=l:=⟨_,rfl⟩;rw[hlv] at q0 h2 hTS;rw[hhv] at q1 h1 hTS;obtain⟨l0,l1⟩:=h2;obtain⟨hh0,hh1⟩:=h1;obtain⟨p0,p1⟩:=hpl;obtain⟨r0,r1⟩:=hph
     have HP:=ι ((hr.o.lo k ((l+pl) % 18446744073709551616)).hi k (IntKind.u64.wrap (hh+IntKind.u64.wrap (ph+(l+pl) / 18446744073709551616))));rw[<-hTS] at HP
     have A1:∀W,(callFunc 252 #[.int .u64 l,.int .u64 pl,.int .u64 0]).run prog W=.ok (.value (.tuple #[.int .u64 ((l+pl) % 18446744073709551616),.int .u64 ((l+pl) / 18446744073709551616)])) W:=λW=>by
      have h:=yEf l pl 0 l0 p0 δ δ W;rw[Int.add_zero] at h;exact h
     have hc0:0<=(l+pl) / 18446744073709551616:=ω;have hc1:(l+pl) / 18446744073709551616<18446744073709551616:=ω;obtain⟨ls0,ls1⟩:=xDs (l+pl);generalize (l+pl) % 18446744073709551616=ls at HP A1 ls0 ls1;generalize (l+pl) / 18446744073709551616=cs at HP A1 hc0 hc1
     clear hTS hr hlv hhv hy l0 l1 hTL1 hTL2 hTU1 hTU2 uy
     by_cases h5:5<=i+j
     ·have hk5:kK (i+j)=i+j-5:=if_pos h5;have hy5:yF y (i+j)=IntKind.u64.wrap (y*19):=if_pos h5;rw[hyy] at hy5;rw[hk] at hk5;have hii:(i:Int)+(j:Int)=(k:Int)+5:=ω;have h5i:(5:Int)<=(k:Int)+5:=ω;have HY5:=ι hy5.symm;clear hk5 h5 hy5 hk hyy;go_upto_region 13 with fail
      rw[HY5.o];go_wp2_with fail
      refine(HM.o _).mono ?_;rintro e w3 ⟨rfl,rfl⟩;go_wp2;exact⟨⟨j+1,ω,by go_num,by rw[HT1.o];exact HP⟩,by simp[intOf];omega⟩
     ·have hk5:kK (i+j)=i+j:=if_neg h5;have hy5:yF y (i+j)=y:=if_neg h5;rw[hyy] at hy5;rw[hk] at hk5;have hii:(i:Int)+(j:Int)=(k:Int):=ω;have h5i:¬((5:Int)<=(k:Int)):=ω;subst hy5;clear hk5 h5 hk hyy;go_upto_region 13 with fail
      go_wp2_with fail
      refine(HM.o _).mono ?_;rintro e w3 ⟨rfl,rfl⟩;go_wp2;exact⟨⟨j+1,ω,by go_num,by rw[HT1.o];exact HP⟩,by simp[intOf];omega⟩
    ·have hje:j=5:=ω;have hneg:¬((j:Int)<5):=ω;have HS1:=ι (HS.o j hje);clear hje hlt2 hj HTS HTL HS;go_wp2;exact⟨⟨i+1,ω,by go_num,by rw[HD1.o,HS1.o];exact hr⟩,by simp[intOf];omega⟩
  ·have hie:i=5:=ω;have hneg:¬((i:Int)<5):=ω;have HP:=ι (HR.o i hie);obtain⟨hs1,hs2,hs3,hs4⟩:=HL.o i;generalize mI na nb i=s at hr HP hs1 hs2 hs3 hs4;have HE:Hid (∀n,n=5->res=zN (prI s.1 s.2 n)):=ι (λn hn=>by rw[hn];exact HP.o);clear HP HPS HR HL hie HNa HNb hua hub
   have H5:Hid (PrM w na nb g s wi.heap.size (prI s.1 s.2 0) (wi.alloc (.cells (xG (List.replicate 5 0)) 214))):=ι ⟨hr.o.below (φ wi _),xM _ _,xH hr.o.bl⟩;go_upto_region 20 with fail
   refine(λ(h:∀W3,Hid (PrM w na nb g s wi.heap.size (prI s.1 s.2 0) W3)->Code.wp _ _ _ _ W3)=>h _ H5) ?_;clear H5 hr hneg hlt hi;generalize wi.heap.size=gp;intro W5 H5;go_wp2_with fail
   go_loopw [67] (λkv W=>∃k:Nat,k<=5/\kv=.int .i64 k/\Hid (PrM w na nb g s gp (prI s.1 s.2 k) W)) (λkv _=>5- (intOf kv).toNat)
   case atStart=>exact⟨0,δ,rfl,H5⟩
   case round=>
    clear H5
    rename World=>wk
    obtain⟨k,hk,rfl,hr⟩:=hrel
    by_cases hlk:k<5
    ·have hpl:=xNp s.1 s.2 k;have hpu:=xZc s.1 s.2 k;have HC:Hid (prC s.1 s.2 k=bits .or .u64 (IntKind.u64.wrap (s.1.getD k 0*8192)) (s.2.getD k 0 / 2251799813685248)):=ι rfl;obtain⟨h,hh⟩:∃h,s.1.getD k 0=h:=⟨_,rfl⟩;obtain⟨l,hl⟩:∃l,s.2.getD k 0=l:=⟨_,rfl⟩;obtain⟨h0,h1⟩:=hs3 k
     obtain⟨l0,l1⟩:=hs4 k;rw[hh] at h0 h1 HC;rw[hl] at l0 l1 HC;have HA:Hid (prA s.2 (prI s.1 s.2 k) k=(prI s.1 s.2 k).set k (IntKind.u64.wrap ((prI s.1 s.2 k).getD k 0+bits .and .u64 l 2251799813685247))):=ι (by rw[<-hl];rfl);have hal:=xVg s.2 (prI s.1 s.2 k) k
     have hau:=yD1 s.2 hpu k
     have HSt:Hid (∀j,j=k+1->prI s.1 s.2 j=if j<5 then(prA s.2 (prI s.1 s.2 k) k).set j (IntKind.u64.wrap ((prA s.2 (prI s.1 s.2 k) k).getD j 0+prC s.1 s.2 k)) else(prA s.2 (prI s.1 s.2 k) k).set 0 (IntKind.u64.wrap ((prA s.2 (prI s.1 s.2 k) k).getD 0 0+IntKind.u64.wrap (19*prC s.1 s.2 k)))):=ι (λj hj=>by rw[hj];rfl)
     obtain⟨c,hc⟩:∃c,prC s.1 s.2 k=c:=⟨_,rfl⟩;rw[hc] at HC HSt;have hcu:U64 c:=by rw[HC.o];exact zH _ _ _
     obtain⟨c0,c1⟩:=hcu;have hcc:=HC.o.symm;obtain⟨pa,hpa⟩:∃pa,prA s.2 (prI s.1 s.2 k) k=pa:=⟨_,rfl⟩;rw[hpa] at HA hal hau HSt;generalize prI s.1 s.2 k=p0 at hr hpl hpu HA hal;clear hpa hc;obtain⟨x,hx⟩:∃x,p0.getD k 0=x:=⟨_,rfl⟩;obtain⟨x0,x1⟩:=hpu k;rw[hx] at x0 x1 HA
     obtain⟨m,hm⟩:∃m,bits .and .u64 l 2251799813685247=m:=⟨_,rfl⟩;obtain⟨m0,m1⟩:=hm▸zH .and l 2251799813685247;rw[hm] at HA;obtain⟨z,hz⟩:∃z,IntKind.u64.wrap (x+m)=z:=⟨_,rfl⟩;rw[hz] at HA;go_upto_region 23 with fail
     refine RG.xQ (λW=>Hid (PrM w na nb g s gp p0 W)) κ κ (ι hr.o.drew) ?_
     iterate 10
      apply RG.xJ
      ·intro w9 hw9;have q1:=hw9.o.mu.bh.cell (i:=k) ω;have q2:=hw9.o.mu.bl.cell (i:=k) ω;rw[hh] at q1;rw[hl] at q2;repeat go_step
       exact RG.xC hw9
      ·rfl
     refine RG.xS (λw9 hw9=>?_);clear hr;go_upto_region 24 with fail
     refine RG.yD 10 (λL W=>Hid (PrM w na nb g s gp (if L 9 then p0.set k z else p0) W)) (λL L' W h hI=>by rw[<-h 9 δ];exact hI) κ κ rfl (ι hw9.o.drew) ?_;clear hw9;iterate 2 refine RG.cS ?_
     apply RG.xN
     ·rfl
     ·rfl
     ·intro L w9 h0 hcl xK hw9;have e1:=hcl.not 10 (i:=9) h0 κ;have hs9:=hw9.o;rw[e1,if_neg σ] at hs9;have q:=hs9.bp.cell (i:=k) ω;rw[hx] at q;clear e1 hs9;repeat go_step
      refine RG.xC ?_;exact⟨xK,hw9⟩
     ·rfl
     iterate 2 refine RG.cS ?_
     apply RG.xN
     ·rfl
     ·rfl
     ·intro L w9 h0 hcl xK hw9;have q2:=hw9.o.mu.bl.cell (i:=k) ω;rw[hl] at q2;repeat go_step
      refine RG.xC ?_;exact⟨xK,hw9⟩
     ·rfl
     iterate 3 refine RG.cS ?_
     apply RG.xN
     ·rfl
     ·rfl
     ·intro L w9 h0 hcl xK hw9;have hs9:=hw9.o;rw[h0,if_neg σ] at hs9;have q1:=hs9.bp.cell (i:=k) ω;have q2:=hs9.bp.free k;rw[hx] at q1;have hp:Hid (PrM w na nb g s gp (p0.set k z) (w9.setCell ⟨gp,k,none⟩ (.int .u64 z))):=ι (hs9.put k z);clear hs9;repeat go_step
      refine RG.xC ?_;refine⟨xK,?_⟩;show Hid (PrM w na nb g s gp (if (true:Bool)=true then p0.set k z else p0) _);rw[if_pos rfl];with_reducible exact hp
     ·rfl
     refine RG.xZ (λw9 hw9=>?_);rw[if_pos rfl,<-HA.o] at hw9;clear hx hm hz hcc hh hl h0 h1 l0 l1 x0 x1 m0 m1 HA
     by_cases hk1:k+1<5
     ·have HN:=ι (HSt.o (k+1) rfl);rw[if_pos hk1] at HN;have hki:(k:Int)+1<5:=ω;have q1:=hw9.o.bp.cell (i:=k+1) ω;have q2:=hw9.o.bp.free (k+1);have hv:=hau (k+1);obtain⟨v,hvv⟩:∃v,pa.getD (k+1) 0=v:=⟨_,rfl⟩;rw[hvv] at q1 hv HN;obtain⟨v0,v1⟩:=hv
      have HF:=ι (hw9.o.put (k+1) (IntKind.u64.wrap (v+c)));rw[<-HN.o] at HF;clear hw9 hk1 hvv HSt HN;go_wp2;exact⟨⟨k+1,ω,by go_num,HF⟩,by simp[intOf];omega⟩
     ·have HN:=ι (HSt.o (k+1) rfl);rw[if_neg hk1] at HN;have hki:¬((k:Int)+1<5):=ω;have q1:=hw9.o.bp.cell (i:=0) ω;have q2:=hw9.o.bp.free 0;have hv:=hau 0;obtain⟨v,hvv⟩:∃v,pa.getD 0 0=v:=⟨_,rfl⟩;rw[hvv] at q1 hv HN;obtain⟨v0,v1⟩:=hv
      have HF:=ι (hw9.o.put 0 (IntKind.u64.wrap (v+IntKind.u64.wrap (19*c))));rw[<-HN.o] at HF;clear hw9 hk1 hvv HSt HN;go_wp2;exact⟨⟨k+1,ω,by go_num,HF⟩,by simp[intOf];omega⟩
    ·have hke:k=5:=ω;have HRi:=ι (HE.o k hke);have hxl:=xNp s.1 s.2 k;have hxu:=xZc s.1 s.2 k;generalize prI s.1 s.2 k=xs at hr hxl hxu HRi;have HIx:=ι (uF hxl);have HIr:=ι (uF hrl);have HZr:Hid ((xG (List.replicate 5 0)).size=(xG res).size):=ι (xAe σ hrl)
     have HNx:=ι (λW=>wM xs W hxl hxu);rw[<-HRi.o] at HNx;have hneg:¬((k:Int)<5):=ω;clear HRi hxu hxl hke hlk hk HE;go_upto_region 29 with fail
     refine wp_region_lit ?_;refine wpList_load_row rfl _ _ rfl gp rfl _ (xG xs) (0,0) _ hr.o.bp underlying214 rfl HIx.o ?_;repeat go_step
     refine(HNx.o _).mono ?_;rintro e w7 ⟨rfl,hb7⟩;have h7:=(hr.o.below hb7).mu.two;go_wp2_with (refine wpList_store_row rfl _ _ _ rfl (w.heap.size+1+1) (xG res) rfl rfl _ _ h7.bz HIr.o HZr.o (yB _) ?_)
     refine bodyPost_ret (results_cell_row rfl _ _ (w.heap.size+1+1) _ _ (0,0) _ rfl (setRow_heap _ _ _ _ _ _ h7.bz) underlying214 rfl HIr.o) rfl ?_;exact⟨rfl,below_setRow h7.bel ω _⟩
end Go.Proofs.FE
namespace Mailsack
def ovI (n:List Int):Nat->Int
 |0=>Go.IntKind.u64.wrap (n.getD 0 0+19) / 2251799813685248
 |k+1=>Go.IntKind.u64.wrap (n.getD (k+1) 0+ovI n k) / 2251799813685248
theorem yE9 (x:Int):0<=Go.IntKind.u64.wrap x / 2251799813685248/\Go.IntKind.u64.wrap x / 2251799813685248<8192:=by
 have ⟨h0,h1⟩:=wrap_u64 x;omega
theorem ovI_lt (n:List Int):∀k,0<=ovI n k/\ovI n k<8192
 |0=>yE9 _
 |_+1=>yE9 _
def lcI (n:List Int) (o:Int):Nat->List Int×Int
 |0=>(n,19*o)
 |i+1=>((lcI n o i).1.set i (Go.bits .and .u64 (Go.IntKind.u64.wrap ((lcI n o i).1.getD i 0+(lcI n o i).2)) 2251799813685247),Go.IntKind.u64.wrap ((lcI n o i).1.getD i 0+(lcI n o i).2) / 2251799813685248)
theorem xO4 (n:List Int) (o:Int):∀i,(lcI n o i).1.length=n.length
 |0=>rfl
 |i+1=>by simp[lcI,xO4 n o i]
theorem yDi {n:List Int} (o:Int) (h:yU n):∀i,yU (lcI n o i).1
 |0=>h
 |i+1=>(yDi o h i).set i (zH _ _ _)
theorem lcI_c (n:List Int) {o:Int} (h0:0<=o) (h1:o<8192):∀i,0<=(lcI n o i).2/\(lcI n o i).2<200000
 |0=>by simp[lcI];omega
 |i+1=>by
  have:=yE9 ((lcI n o i).1.getD i 0+(lcI n o i).2);simp only[lcI];omega
def xA5 (a:List Int):List Int:=(lcI (zN a) (ovI (zN a) 4) 5).1
theorem xBz (a:List Int):(xA5 a).length=5:=by rw[xA5,xO4];rfl
theorem xX6 (a:List Int):yU (xA5 a):=yDi _ (wW a) 5
def xDy (a:List Int) (n:Int):List Int:=uN a [n,0,0,0,0]
def sqI (a:List Int):Nat->List Int
 |0=>a
 |k+1=>uN (sqI a k) (sqI a k)
theorem xFp {a:List Int} (h:a.length=5):∀k,(sqI a k).length=5
 |0=>h
 |_+1=>vC _ _
theorem yCq {a:List Int} (h:yU a):∀k,yU (sqI a k)
 |0=>h
 |_+1=>tC _ _
end Mailsack
namespace Go.Proofs.FE
open Go.RowKit Mailsack MM BB SH
structure xH3 (w:World) (ax:List Int) (W:World):Prop where
 ba:uR 214 W w.heap.size ax
 bz:uR 214 W (w.heap.size+1) (List.replicate 5 0)
 bel:ψ w W
section
variable {w W W':World} {ax:List Int}
theorem xH3.start (ax:List Int):xH3 w ax ((w.alloc (.cells (xG ax) 214)).alloc (.cells (xG (List.replicate 5 0)) 214)):=
 ⟨zV _ _ _,zK _ _ _,(φ w _).alloc σ _⟩
theorem xH3.below (h:xH3 w ax W) (hb:ψ W W'):xH3 w ax W':=⟨h.ba.below hb,h.bz.below hb,h.bel.trans (hb.mono h.bel.size)⟩
theorem xH3.put (h:xH3 w ax W) (i:Nat) (x:Int):xH3 w (ax.set i x) (W.setCell ⟨w.heap.size,i,none⟩ (.int .u64 x)):=
 ⟨h.ba.put i x,h.bz.far (p:=⟨w.heap.size,i,none⟩) σ _,h.bel.setCell (p:=⟨w.heap.size,i,none⟩) ν _⟩
theorem xH3.row (h:xH3 w ax W) (xs:List Int):xH3 w xs (W.setRow w.heap.size (xG xs)):=
 ⟨setRow_heap _ _ _ _ _ _ h.ba,(setRow_other _ _ _ _ ω).trans h.bz,below_setRow h.bel ν _⟩
end
theorem xV3 (ax:List Int) (n:Int) (w:World) (hl:ax.length=5) (hu:yU ax) (hn0:0<=n) (hn1:n<4294967296):
  Calls prog 248 #[.agg (xG ax),.int .u32 n] w λe w'=>e=.returned (.agg (xG (xDy ax n)))/\ψ w w':=by
 have HM:Hid (∀W,Calls prog 161 #[.agg (xG ax),.agg #[.int .u64 n,.int .u64 0,.int .u64 0,.int .u64 0,.int .u64 0]] W λe w'=>e=.returned (.agg (xG (xDy ax n)))/\ψ W w'):=ι (λW=>rO ax [n,0,0,0,0] W hl hu rfl (xDa ⟨hn0,ω⟩ ⟨δ,δ⟩ ⟨δ,δ⟩ ⟨δ,δ⟩ ⟨δ,δ⟩))
 have hrl:(xDy ax n).length=5:=rfl;have HI:=ι (uF hl);have H0:=ι (xH3.start (w:=w) ax);generalize xDy ax n=res at HM hrl⊢;have HIr:=ι (uF hrl);have HZr:Hid ((xG (List.replicate 5 0)).size=(xG res).size):=ι (xAe σ hrl);clear hl hu;go_enter func248,ntmps248
 go_upto_region 1 with fail
 refine(λ(h:∀W3,Hid (xH3 w ax W3)->Code.wp _ _ _ _ W3)=>h _ H0) ?_;clear H0;intro W0 H0;refine wp_region_lit ?_;refine wpList_load_row rfl _ _ rfl w.heap.size rfl _ (xG ax) (0,0) _ H0.o.ba underlying214 rfl HI.o ?_;repeat go_step
 refine(HM.o _).mono ?_;rintro e w7 ⟨rfl,hb7⟩;have h7:=H0.o.below hb7;go_wp2_with (refine wpList_store_row rfl _ _ _ rfl (w.heap.size+1) (xG res) rfl rfl _ _ h7.bz HIr.o HZr.o (yB _) ?_)
 refine bodyPost_ret (results_cell_row rfl _ _ (w.heap.size+1) _ _ (0,0) _ rfl (setRow_heap _ _ _ _ _ _ h7.bz) underlying214 rfl HIr.o) rfl ?_;exact⟨rfl,below_setRow h7.bel ω _⟩
theorem xNd (ax:List Int) (n:Nat) (w:World) (hl:ax.length=5) (hu:yU ax) (hn:n<=1000):
  Calls prog 253 #[.agg (xG ax),.int .i64 n] w λe w'=>e=.returned (.agg (xG (sqI ax n)))/\ψ w w':=by
 have HM:Hid (∀k W,Calls prog 161 #[.agg (xG (sqI ax k)),.agg (xG (sqI ax k))] W λe w'=>e=.returned (.agg (xG (sqI ax (k+1))))/\ψ W w'):=ι (λk W=>rO _ _ W (xFp hl k) (yCq hu k) (xFp hl k) (yCq hu k))
 have HI:Hid (∀k,(prog.info? 214).map (·.size)=some (xG (sqI ax k)).size):=ι (λk=>uF (xFp hl k));have HZ:Hid (∀k,(xG (sqI ax k)).size=5):=ι (λk=>by rw[xV,xFp hl k]);have H0:Hid (xH3 w (sqI ax 0) _):=ι (xH3.start (w:=w) ax);have HL:=ι hl;clear hl hu
 go_enter func253,ntmps253;go_upto_region 1 with fail
 refine(λ(h:∀W3,Hid (xH3 w (sqI ax 0) W3)->Code.wp _ _ _ _ W3)=>h _ H0) ?_;clear H0;intro W0 H0;go_wp2_with fail
 go_loopw [6] (λiv W=>∃k:Nat,k<=n/\iv=.int .i64 k/\Hid (xH3 w (sqI ax k) W)) (λiv _=>n- (intOf iv).toNat)
 case atStart=>exact⟨0,Nat.zero_le _,rfl,H0⟩
 case round=>
  clear H0;obtain⟨k,hk,rfl,hr⟩:=hrel
  by_cases hlt:k<n
  ·have HMk:=ι (HM.o k);have HIk:=ι (HI.o k);have HIn:=ι (HI.o (k+1));have HZk:Hid ((xG (sqI ax k)).size=(xG (sqI ax (k+1))).size):=ι (by rw[HZ.o,HZ.o]);obtain⟨s1,hs1⟩:∃s,sqI ax (k+1)=s:=⟨_,rfl⟩;rw[hs1] at HMk HIn HZk;have HS1:=ι hs1;clear hs1
   generalize sqI ax k=s0 at hr HMk HIk HZk;go_upto_region 3 with fail
   refine wp_region_lit ?_;refine wpList_load_row rfl _ _ rfl w.heap.size rfl _ (xG s0) (0,0) _ hr.o.ba underlying214 rfl HIk.o ?_;refine wpList_load_row rfl _ _ rfl w.heap.size rfl _ (xG s0) (0,0) _ hr.o.ba underlying214 rfl HIk.o ?_;repeat go_step
   refine(HMk.o _).mono ?_;rintro e w7 ⟨rfl,hb7⟩;have h7:=hr.o.below hb7;have h8:=ι (h7.row s1);go_wp2_with (refine wpList_store_row rfl _ _ _ rfl w.heap.size (xG s1) rfl rfl _ _ h7.ba HIn.o HZk.o (yB _) ?_)
   exact⟨⟨k+1,ω,by go_num,by rw[HS1.o];exact h8⟩,by simp[intOf];omega⟩
  ·have hke:k=n:=ω;subst hke;have HIr:=ι (HI.o k);have HZr:Hid ((xG (List.replicate 5 0)).size=(xG (sqI ax k)).size):=ι (by rw[HZ.o];rfl);clear HM;obtain⟨res,hres⟩:∃res,sqI ax k=res:=⟨_,rfl⟩
   have HE:Hid (Ending.returned (Value.agg (xG res))=.returned (.agg (xG (sqI ax k)))):=ι (by rw[hres]);rw[hres] at hr HIr HZr;clear hk hlt hres;go_upto_region 5 with fail
   refine wp_region_lit ?_;refine wpList_load_row rfl _ _ rfl w.heap.size rfl _ (xG res) (0,0) _ hr.o.ba underlying214 rfl HIr.o ?_;refine wpList_store_row rfl _ _ _ rfl (w.heap.size+1) (xG res) rfl rfl _ _ hr.o.bz HIr.o HZr.o (yB _) ?_;go_wp2
   refine bodyPost_ret (results_cell_row rfl _ _ (w.heap.size+1) _ _ (0,0) _ rfl (setRow_heap _ _ _ _ _ _ hr.o.bz) underlying214 rfl HIr.o) rfl ?_;exact⟨(by first|rfl|exact HE.o),below_setRow hr.o.bel ω _⟩
theorem xOb (ax:List Int) (w:World) (hl:ax.length=5) (hu:yU ax):
  Calls prog 249 #[.agg (xG ax)] w λe w'=>e=.returned (.agg (xG (xA5 ax)))/\ψ w w':=by
 have HN:=ι (λW=>wM ax W hl hu);have HIa:=ι (uF hl);have HIn:=ι (uF (zJ ax));have HZa:=ι (xAe hl (zJ ax));have hnl:=zJ ax;have hnu:=wW ax;have H0:=ι (xH3.start (w:=w) ax);have HR:Hid (∀m n,m=4->n=5->xA5 ax=(lcI (zN ax) (ovI (zN ax) m) n).1):=ι (λm n hm hn=>by rw[hm,hn];rfl)
 obtain⟨res,hres⟩:∃x,xA5 ax=x:=⟨_,rfl⟩;rw[hres] at HR⊢;clear hl hu hres;generalize zN ax=na at HN HIn HZa hnl hnu HR;go_enter func249,ntmps249;go_upto_region 1 with fail
 refine(λ(h:∀W3,Hid (xH3 w ax W3)->Code.wp _ _ _ _ W3)=>h _ H0) ?_;clear H0;intro W0 H0;refine wp_region_lit ?_;refine wpList_load_row rfl _ _ rfl w.heap.size rfl _ (xG ax) (0,0) _ H0.o.ba underlying214 rfl HIa.o ?_;repeat go_step
 refine(HN.o _).mono ?_;rintro e w7 ⟨rfl,hb7⟩;have h7:=H0.o.below hb7;have H8:=ι (h7.row na);have HV:=ι (λk=>ovI_lt na k);have HV0:Hid (ovI na 0=IntKind.u64.wrap (na.getD 0 0+19) / 2251799813685248):=ι rfl;obtain⟨v,hv⟩:∃v,na.getD 0 0=v:=⟨_,rfl⟩;rw[hv] at HV0
 obtain⟨v0,v1⟩:=hv▸hnu 0;obtain⟨o0,ho0⟩:∃o,ovI na 0=o:=⟨_,rfl⟩;rw[ho0] at HV0;have HO0:=ι ho0;have q0:=H8.o.ba.cell (i:=0) ω;rw[hv] at q0;have HU0:=ι (wrap_u64 (v+19));clear ho0 hv H0 hb7
 go_wp2_with (refine wpList_store_row rfl _ _ _ rfl w.heap.size (xG na) rfl rfl _ _ h7.ba HIn.o HZa.o (yB _) ?_)
 clear q0 h7;generalize w7.setRow w.heap.size (xG na)=w8 at H8⊢
 go_loopw [3,4] (λov iv W=>∃i k:Nat,i=k+1/\k<=4/\iv=.int .i64 i/\ov=.int .u64 (ovI na k)/\Hid (xH3 w na W)) (λ_ iv _=>5- (intOf iv).toNat)
 case atStart=>exact⟨1,0,rfl,δ,rfl,by rw[HO0.o,HV0.o],H8⟩
 case round=>
  obtain⟨i,k,hik,hk,rfl,rfl,hr⟩:=hrel;clear H8;obtain⟨o1,o2⟩:=HV.o k
  by_cases hlt:i<5
  ·have HS:Hid (∀j,j=k+1->ovI na (k+1)=IntKind.u64.wrap (na.getD j 0+ovI na k) / 2251799813685248):=ι (λj hj=>by rw[hj];rfl)
   replace HS:=ι (HS.o i hik)
   obtain⟨s,hs⟩:∃s,ovI na (k+1)=s:=⟨_,rfl⟩;rw[hs] at HS;have HSE:=ι hs;have q0:=hr.o.ba.cell (i:=i) ω;obtain⟨x0,x1⟩:=hnu i;generalize ovI na k=o at o1 o2 HS⊢;generalize na.getD i 0=x at q0 x0 x1 HS;have HIK:=ι hik;have HB:=ι (wrap_u64 (x+o));clear hs hik v0 v1;go_wp2
   exact⟨⟨i+1,k+1,by rw[HIK.o],by have:=HIK.o;omega,by go_num,by rw[HSE.o,HS.o],hr⟩,by simp[intOf];omega⟩
  ·have hke:k=4:=ω;have HRk:=ι (λn hn=>HR.o k n hke hn);have HLC:=ι (λi=>lcI_c na o1 o2 i);have HLL:=ι (λi=>xO4 na (ovI na k) i);have HLU:=ι (λi=>yDi (ovI na k) hnu i);have H9:Hid (xH3 w (lcI na (ovI na k) 0).1 wr):=ι hr.o
   have HC0:Hid ((lcI na (ovI na k) 0).2=19*ovI na k):=ι rfl;generalize ovI na k=o at o1 o2 HRk HLC HLL HLU H9 HC0⊢;clear hr hke hk hik v0 v1;go_wp2_with fail
   go_loopw [5,26] (λcv jv W=>∃j:Nat,j<=5/\jv=.int .i64 j/\cv=.int .u64 (lcI na o j).2/\Hid (xH3 w (lcI na o j).1 W)) (λ_ jv _=>5- (intOf jv).toNat)
   case atStart=>exact⟨0,δ,rfl,by rw[HC0.o],H9⟩
   case round=>
    rename World=>wj
    obtain⟨j,hj,rfl,rfl,hr⟩:=hrel;clear H9;obtain⟨c1,c2⟩:=HLC.o j;have hll:=HLL.o j;have hlu:=HLU.o j
    by_cases hlt2:j<5
    ·have HS:Hid (lcI na o (j+1)=((lcI na o j).1.set j (bits .and .u64 (IntKind.u64.wrap ((lcI na o j).1.getD j 0+(lcI na o j).2)) 2251799813685247),IntKind.u64.wrap ((lcI na o j).1.getD j 0+(lcI na o j).2) / 2251799813685248)):=ι rfl;obtain⟨s,hs⟩:∃s,lcI na o (j+1)=s:=⟨_,rfl⟩
     rw[hs] at HS;have HSE:=ι hs;generalize (lcI na o j).1=l at hr hll hlu HS;generalize (lcI na o j).2=c at c1 c2 HS⊢;have q0:=hr.o.ba.cell (i:=j) ω;have q1:=hr.o.ba.free j;obtain⟨x0,x1⟩:=hlu j;generalize l.getD j 0=x at q0 x0 x1 HS
     obtain⟨y,hy⟩:∃y,IntKind.u64.wrap (x+c)=y:=⟨_,rfl⟩;obtain⟨y0,y1⟩:=hy▸wrap_u64 (x+c);rw[hy] at HS;have HP:=ι (hr.o.put j (bits .and .u64 y 2251799813685247));clear hs hr o1 o2;go_wp2;refine⟨⟨j+1,ω,by go_num,by rw[HSE.o,HS.o],?_⟩,by simp[intOf];omega⟩;rw[HSE.o,HS.o]
     exact HP
    ·have hje:j=5:=ω;have HRj:=ι (HRk.o j hje);have HIr:Hid ((prog.info? 214).map (·.size)=some (xG res).size):=ι (uF (by rw[HRj.o,hll,hnl]));have HZr:Hid ((xG (List.replicate 5 0)).size=(xG res).size):=ι (xAe σ (by rw[HRj.o,hll,hnl]));rw[<-HRj.o] at hr
     have hneg:¬((j:Int)<5):=ω;clear HRj hll hlu hje hj hlt2 HLC HLL HLU HRk HC0 o1 o2;go_upto_region 15 with fail
     refine wp_region_lit ?_;refine wpList_load_row rfl _ _ rfl w.heap.size rfl _ (xG res) (0,0) _ hr.o.ba underlying214 rfl HIr.o ?_;refine wpList_store_row rfl _ _ _ rfl (w.heap.size+1) (xG res) rfl rfl _ _ hr.o.bz HIr.o HZr.o (yB _) ?_;go_wp2
     refine bodyPost_ret (results_cell_row rfl _ _ (w.heap.size+1) _ _ (0,0) _ rfl (setRow_heap _ _ _ _ _ _ hr.o.bz) underlying214 rfl HIr.o) rfl ?_;exact⟨(by first|rfl|exact HE.o),below_setRow hr.o.bel ω _⟩
end Go.Proofs.FE
namespace Mailsack
theorem xYg {a b:Int} (ha:U64 a) (hb:U64 b):Go.bits .xor .u64 a (Go.bits .xor .u64 a b)=b:=by
 obtain⟨a0,a1⟩:=ha;obtain⟨b0,b1⟩:=hb;obtain⟨x,rfl⟩:=Int.eq_ofNat_of_zero_le a0;obtain⟨y,rfl⟩:=Int.eq_ofNat_of_zero_le b0;have hx:x<18446744073709551616:=ω;have hy:y<18446744073709551616:=ω;have hz:x ^^^y<18446744073709551616:=Nat.xor_lt_two_pow (n:=64) hx hy
 rw[Go.bits_xor_u64_nat x y hx hy,Go.bits_xor_u64_nat x (x ^^^y) hx hz,<-Nat.xor_assoc,Nat.xor_self,Nat.zero_xor]
theorem xTr {a b:Int} (ha:U64 a) (hb:U64 b):Go.bits .xor .u64 b (Go.bits .xor .u64 a b)=a:=by
 obtain⟨a0,a1⟩:=ha;obtain⟨b0,b1⟩:=hb;obtain⟨x,rfl⟩:=Int.eq_ofNat_of_zero_le a0;obtain⟨y,rfl⟩:=Int.eq_ofNat_of_zero_le b0;have hx:x<18446744073709551616:=ω;have hy:y<18446744073709551616:=ω;have hz:x ^^^y<18446744073709551616:=Nat.xor_lt_two_pow (n:=64) hx hy
 rw[Go.bits_xor_u64_nat x y hx hy,Go.bits_xor_u64_nat y (x ^^^y) hy hz,Nat.xor_comm x y,<-Nat.xor_assoc,Nat.xor_self,Nat.zero_xor]
theorem xY0 {a:Int} (ha:U64 a):Go.bits .and .u64 a 18446744073709551615=a:=by
 obtain⟨a0,a1⟩:=ha;obtain⟨x,rfl⟩:=Int.eq_ofNat_of_zero_le a0;have hx:x<18446744073709551616:=ω;have h:=Go.bits_and_u64_nat x 18446744073709551615 hx δ;rw[show((18446744073709551615:Nat):Int)=18446744073709551615 by rfl] at h
 rw[h,show(18446744073709551615:Nat)=2^64-1 by decide,Nat.and_two_pow_sub_one_eq_mod,Nat.mod_eq_of_lt hx]
theorem yAv {a:Int} (ha:U64 a):Go.bits .and .u64 a 0=0:=by
 obtain⟨a0,a1⟩:=ha;obtain⟨x,rfl⟩:=Int.eq_ofNat_of_zero_le a0;have hx:x<18446744073709551616:=ω;have h:=Go.bits_and_u64_nat x 0 hx δ;rw[show((0:Nat):Int)=0 by rfl] at h;rw[h,Nat.and_zero]
 rfl
theorem xOv {a:Int} (ha:U64 a):Go.bits .xor .u64 a 0=a:=by
 obtain⟨a0,a1⟩:=ha;obtain⟨x,rfl⟩:=Int.eq_ofNat_of_zero_le a0;have hx:x<18446744073709551616:=ω;have h:=Go.bits_xor_u64_nat x 0 hx δ;rw[show((0:Nat):Int)=0 by rfl] at h;rw[h,Nat.xor_zero]
def swI (a b:List Int):Nat->List Int
 |0=>a
 |i+1=>(swI a b i).set i (b.getD i 0)
theorem xN9 (a b:List Int):∀i,(swI a b i).length=a.length
 |0=>rfl
 |i+1=>by rw[swI,List.length_set,xN9 a b i]
theorem xUy (a b:List Int):∀i j,i<=j->(swI a b i).getD j 0=a.getD j 0
 |0,_,_=>rfl
 |i+1,j,h=>by
  rw[swI,List.getD_eq_getElem?_getD,List.getElem?_set,if_neg ω,<-List.getD_eq_getElem?_getD];exact xUy a b i j ω
theorem xUz {a b:List Int} (h:a.length=5) (h2:b.length=5):swI a b 5=b:=by
 obtain⟨x0,x1,x2,x3,x4,rfl⟩:=xDw h;obtain⟨y0,y1,y2,y3,y4,rfl⟩:=xDw h2
 rfl
end Mailsack
namespace Go.Proofs.FE
open Go.RowKit Mailsack MM BB SH
theorem jL {P:Program} {fn:Func} {p q:Tmp} {ty:TypeId} (h:fn.results=#[.cell p ty,.cell q ty]) (tmps:Array Value) (w:World) (g k:Nat) (t t':TypeId) (cs ds:Array Value) (fr fr':Nat×Nat) (d:TypeDesc)
  (hp:tmps.getD p undef=.pointer (some ⟨g,0,none⟩)) (hq:tmps.getD q undef=.pointer (some ⟨k,0,none⟩)) (hg:w.heap[g]?=some (.cells cs t fr)) (hk:w.heap[k]?=some (.cells ds t' fr'))
  (hu:P.underlying ty=some d) (hd:(match d with|.struct _|.array _ _=>true|_=>false)=true) (hi:(P.info? ty).map (·.size)=some cs.size) (hi2:(P.info? ty).map (·.size)=some ds.size):
  (results fn tmps).run P w=.ok (.tuple #[.agg cs,.agg ds]) w:=by
 have hp':tmps[p]?.getD undef=.pointer (some ⟨g,0,none⟩):=by simpa using hp
 have hq':tmps[q]?.getD undef=.pointer (some ⟨k,0,none⟩):=by simpa using hq
 simp[results,h,hp',hq',asAddr,run_loadVar_row w g t ty cs fr d hg hu hd hi,run_loadVar_row w k t' ty ds fr' d hk hu hd hi2]
structure SwM (w:World) (ax bx rx sx:List Int) (W:World):Prop where
 ba:uR 214 W w.heap.size ax
 bb:uR 214 W (w.heap.size+1) bx
 br:uR 214 W (w.heap.size+2) rx
 bs:uR 214 W (w.heap.size+3) sx
 bel:ψ w W
section
variable {w W W':World} {ax bx rx sx:List Int}
theorem SwM.start (ax bx:List Int):SwM w ax bx (List.replicate 5 0) (List.replicate 5 0) ((((w.alloc (.cells (xG ax) 214)).alloc (.cells (xG bx) 214)).alloc (.cells (xG (List.replicate 5 0)) 214)).alloc (.cells (xG (List.replicate 5 0)) 214)):=by
 have h:=vV.start (w:=w) ax bx;have hz:(((w.alloc (.cells (xG ax) 214)).alloc (.cells (xG bx) 214)).alloc (.cells (xG (List.replicate 5 0)) 214)).heap.size=w.heap.size+3:=σ
 have hn:=xM (((w.alloc (.cells (xG ax) 214)).alloc (.cells (xG bx) 214)).alloc (.cells (xG (List.replicate 5 0)) 214)) (.cells (xG (List.replicate 5 0)) 214);rw[hz] at hn;exact⟨xO h.ba _,xO h.bb _,xO h.bz _,hn,h.bel.alloc (by rw[hz];omega) _⟩
theorem SwM.drew (h:SwM w ax bx rx sx W):SwM w ax bx rx sx W.drew:=⟨h.ba,h.bb,h.br,h.bs,h.bel.drew⟩
theorem SwM.yBg (h:SwM w ax bx rx sx W) (i:Nat) (x:Int):SwM w (ax.set i x) bx rx sx (W.setCell ⟨w.heap.size,i,none⟩ (.int .u64 x)):=
 ⟨h.ba.put i x,h.bb.far (p:=⟨w.heap.size,i,none⟩) σ _,h.br.far (p:=⟨w.heap.size,i,none⟩) σ _,h.bs.far (p:=⟨w.heap.size,i,none⟩) σ _,h.bel.setCell (p:=⟨w.heap.size,i,none⟩) ν _⟩
theorem SwM.xZb (h:SwM w ax bx rx sx W) (i:Nat) (x:Int):SwM w ax (bx.set i x) rx sx (W.setCell ⟨w.heap.size+1,i,none⟩ (.int .u64 x)):=
 ⟨h.ba.far (p:=⟨w.heap.size+1,i,none⟩) σ _,h.bb.put i x,h.br.far (p:=⟨w.heap.size+1,i,none⟩) σ _,h.bs.far (p:=⟨w.heap.size+1,i,none⟩) σ _,h.bel.setCell (p:=⟨w.heap.size+1,i,none⟩) σ _⟩
theorem SwM.rowR (h:SwM w ax bx rx sx W) (xs:List Int):SwM w ax bx xs sx (W.setRow (w.heap.size+2) (xG xs)):=
 ⟨(setRow_other _ _ _ _ ω).trans h.ba,(setRow_other _ _ _ _ ω).trans h.bb,setRow_heap _ _ _ _ _ _ h.br,(setRow_other _ _ _ _ ω).trans h.bs,below_setRow h.bel ω _⟩
theorem SwM.rowS (h:SwM w ax bx rx sx W) (xs:List Int):SwM w ax bx rx xs (W.setRow (w.heap.size+3) (xG xs)):=
 ⟨(setRow_other _ _ _ _ ω).trans h.ba,(setRow_other _ _ _ _ ω).trans h.bb,(setRow_other _ _ _ _ ω).trans h.br,setRow_heap _ _ _ _ _ _ h.bs,below_setRow h.bel ω _⟩
end
theorem xYv (ax bx:List Int) (w:World) (hl:ax.length=5) (hu:yU ax) (hl2:bx.length=5) (hu2:yU bx):
  Calls prog 245 #[.agg (xG ax),.agg (xG bx),.bool true] w λe w'=>e=.returned (.tuple #[.agg (xG bx),.agg (xG ax)])/\ψ w w':=by
 have H0:Hid (SwM w (swI ax bx 0) (swI bx ax 0) (List.replicate 5 0) (List.replicate 5 0) _):=ι (SwM.start (w:=w) ax bx);have HL:=ι (λi=>xN9 ax bx i);have HL2:=ι (λi=>xN9 bx ax i)
 have HE:Hid (∀n,n=5->swI ax bx n=bx/\swI bx ax n=ax):=ι (λn hn=>by rw[hn];exact⟨xUz hl hl2,xUz hl2 hl⟩);have HA:=ι (λi=>xUy ax bx i i ν);have HA2:=ι (λi=>xUy bx ax i i ν);go_enter func245,ntmps245;go_upto_region 1 with fail
 refine(λ(h:∀W3,Hid (SwM w (swI ax bx 0) (swI bx ax 0) (List.replicate 5 0) (List.replicate 5 0) W3)->Code.wp _ _ _ _ W3)=>h _ H0) ?_;clear H0;intro W0 H0;go_wp2_with fail
 rw[show bits .xor .u64 IntKind.u64.max 0=18446744073709551615 by decide]
 go_loopw [14] (λiv W=>∃i:Nat,i<=5/\iv=.int .i64 i/\Hid (SwM w (swI ax bx i) (swI bx ax i) (List.replicate 5 0) (List.replicate 5 0) W)) (λiv _=>5- (intOf iv).toNat)
 case atStart=>exact⟨0,δ,rfl,H0⟩
 case round=>
  clear H0;obtain⟨i,hi,rfl,hr⟩:=hrel
  by_cases hlt:i<5
  ·have hll:=HL.o i;have hll2:=HL2.o i;have HPX:=ι (HA.o i);have HQX:=ι (HA2.o i);obtain⟨x0,x1⟩:=hu i;obtain⟨y0,y1⟩:=hu2 i;have HS:Hid (swI ax bx (i+1)=(swI ax bx i).set i (bx.getD i 0)/\swI bx ax (i+1)=(swI bx ax i).set i (ax.getD i 0)):=ι ⟨rfl,rfl⟩
   obtain⟨s1,hs1⟩:∃s,swI ax bx (i+1)=s:=⟨_,rfl⟩;obtain⟨s2,hs2⟩:∃s,swI bx ax (i+1)=s:=⟨_,rfl⟩;rw[hs1,hs2] at HS;have HS0:=HS;have HS1:=ι hs1;have HS2:=ι hs2;clear hs1 hs2;generalize swI ax bx i=p at hr hll HS HS0 HPX;generalize swI bx ax i=q at hr hll2 HS HS0 HQX
   generalize ax.getD i 0=x at x0 x1 HS HS0 HPX;generalize bx.getD i 0=y at y0 y1 HS HS0 HQX;obtain⟨d,hd⟩:∃d,bits .and .u64 (bits .xor .u64 x y) 18446744073709551615=d:=⟨_,rfl⟩;have hd1:bits .xor .u64 x d=y:=by rw[<-hd,xY0 (zH _ _ _)];exact xYg ⟨x0,x1⟩ ⟨y0,y1⟩
   have hd2:bits .xor .u64 y d=x:=by rw[<-hd,xY0 (zH _ _ _)];exact xTr ⟨x0,x1⟩ ⟨y0,y1⟩
   obtain⟨d0,d3⟩:=hd▸zH .and (bits .xor .u64 x y) 18446744073709551615;have hpl:=hll.trans hl;have hql:=hll2.trans hl2;clear HS;go_upto_region 7 with fail
   refine RG.xQ (λW=>Hid (SwM w p q (List.replicate 5 0) (List.replicate 5 0) W)) κ κ (ι hr.o.drew) ?_
   iterate 10
    apply RG.xJ
    ·intro w9 hw9;have q1:=hw9.o.ba.cell (i:=i) ω;have q2:=hw9.o.bb.cell (i:=i) ω;rw[HPX.o] at q1;rw[HQX.o] at q2;repeat go_step
     exact RG.xC hw9
    ·rfl
   refine RG.xS (λw9 hw9=>?_);have HP:=ι ((hw9.o.yBg i y).xZb i x);rw[<-HS0.o.1,<-HS0.o.2] at HP;have q0:=hw9.o.ba.cell (i:=i) ω;have q1:=hw9.o.bb.cell (i:=i) ω;rw[HPX.o] at q0;rw[HQX.o] at q1;have f0:=hw9.o.ba.free i;have f1:=hw9.o.bb.free i;clear hw9 hr;go_wp2
   exact⟨⟨i+1,ω,by go_num,by rw[HS1.o,HS2.o];exact HP⟩,by simp[intOf];omega⟩
  ·have hie:i=5:=ω;obtain⟨e1,e2⟩:=HE.o i hie;rw[e1,e2] at hr;have HIa:=ι (uF hl2);have HIb:=ι (uF hl);have HZa:Hid ((xG (List.replicate 5 0)).size=(xG bx).size):=ι (xAe σ hl2);have HZb:Hid ((xG (List.replicate 5 0)).size=(xG ax).size):=ι (xAe σ hl)
   clear HA HA2 HL HL2 HE hie e1 e2 hu hu2 hl hl2;go_upto_region 11 with fail
   refine RG.yD 4 (λL W=>Hid (SwM w bx ax (if L 2 then bx else List.replicate 5 0) (if L 3 then ax else List.replicate 5 0) W)) (λL L' W h hI=>by rw[<-h 2 δ,<-h 3 δ];exact hI) κ κ rfl (ι hr.o.drew) ?_;clear hr;apply RG.xN
   ·rfl
   ·rfl
   ·intro L w9 h0 hcl xK hw9;refine wpList_load_row rfl _ _ rfl w.heap.size rfl _ (xG bx) (0,0) _ hw9.o.ba underlying214 rfl HIa.o ?_;repeat go_step
    refine RG.xC ?_;exact⟨xK,hw9⟩
   ·rfl
   apply RG.xN
   ·rfl
   ·rfl
   ·intro L w9 h0 hcl xK hw9;refine wpList_load_row rfl _ _ rfl (w.heap.size+1) rfl _ (xG ax) (0,0) _ hw9.o.bb underlying214 rfl HIb.o ?_;repeat go_step
    refine RG.xC ?_;exact⟨xK,hw9⟩
   ·rfl
   apply RG.xN
   ·rfl
   ·rfl
   ·intro L w9 h0 hcl xK hw9;have hs9:=hw9.o;rw[h0,if_neg σ] at hs9;refine wpList_store_row rfl _ _ _ rfl (w.heap.size+2) (xG bx) rfl rfl _ _ hs9.br HIa.o HZa.o (yB _) ?_;repeat go_step
    refine RG.xC ?_;exact⟨xK,ι (hs9.rowR bx)⟩
   ·rfl
   apply RG.xN
   ·rfl
   ·rfl
   ·intro L w9 h0 hcl xK hw9;have hs9:=hw9.o;rw[h0,if_neg (c:=false=true) σ] at hs9;refine wpList_store_row rfl _ _ _ rfl (w.heap.size+3) (xG ax) rfl rfl _ _ hs9.bs HIb.o HZb.o (yB _) ?_;repeat go_step
    refine RG.xC ?_;exact⟨xK,ι (hs9.rowS ax)⟩
   ·rfl
   refine RG.xZ (λw9 hw9=>?_);rw[if_pos rfl,if_pos rfl] at hw9;go_wp2;refine bodyPost_ret (jL rfl _ _ (w.heap.size+2) (w.heap.size+3) _ _ _ _ (0,0) (0,0) _ rfl rfl hw9.o.br hw9.o.bs underlying214 rfl HIa.o HIb.o) rfl ?_;exact⟨rfl,hw9.o.bel⟩
theorem set_self {l:List Int} {i:Nat} {x:Int} (h:i<l.length) (hx:l.getD i 0=x):l.set i x=l:=by
 rw[<-hx,List.getD_eq_getElem?_getD,List.getElem?_eq_getElem h];exact List.set_getElem_self h
theorem yCj (ax bx:List Int) (w:World) (hl:ax.length=5) (hu:yU ax) (hl2:bx.length=5) (hu2:yU bx):
  Calls prog 245 #[.agg (xG ax),.agg (xG bx),.bool false] w λe w'=>e=.returned (.tuple #[.agg (xG ax),.agg (xG bx)])/\ψ w w':=by
 have H0:=ι (SwM.start (w:=w) ax bx);go_enter func245,ntmps245;go_upto_region 1 with fail
 refine(λ(h:∀W3,Hid (SwM w ax bx (List.replicate 5 0) (List.replicate 5 0) W3)->Code.wp _ _ _ _ W3)=>h _ H0) ?_;clear H0;intro W0 H0;go_wp2_with fail
 go_loopw [14] (λiv W=>∃i:Nat,i<=5/\iv=.int .i64 i/\Hid (SwM w ax bx (List.replicate 5 0) (List.replicate 5 0) W)) (λiv _=>5- (intOf iv).toNat)
 case atStart=>exact⟨0,δ,rfl,H0⟩
 case round=>
  clear H0;obtain⟨i,hi,rfl,hr⟩:=hrel
  by_cases hlt:i<5
  ·obtain⟨x,hx⟩:∃x,ax.getD i 0=x:=⟨_,rfl⟩;obtain⟨y,hy⟩:∃y,bx.getD i 0=y:=⟨_,rfl⟩;obtain⟨x0,x1⟩:=hx▸hu i;obtain⟨y0,y1⟩:=hy▸hu2 i;have HSX:=ι (set_self ω hx);have HSY:=ι (set_self ω hy);have HPX:=ι hx;have HQX:=ι hy;have hd:bits .and .u64 (bits .xor .u64 x y) 0=0:=yAv (zH _ _ _)
   have hd1:bits .xor .u64 x 0=x:=xOv ⟨x0,x1⟩;have hd2:bits .xor .u64 y 0=y:=xOv ⟨y0,y1⟩;clear hx hy;go_upto_region 7 with fail
   refine RG.xQ (λW=>Hid (SwM w ax bx (List.replicate 5 0) (List.replicate 5 0) W)) κ κ (ι hr.o.drew) ?_
   iterate 10
    apply RG.xJ
    ·intro w9 hw9;have q1:=hw9.o.ba.cell (i:=i) ω;have q2:=hw9.o.bb.cell (i:=i) ω;rw[HPX.o] at q1;rw[HQX.o] at q2;repeat go_step
     exact RG.xC hw9
    ·rfl
   refine RG.xS (λw9 hw9=>?_);have HP:=ι ((hw9.o.yBg i x).xZb i y);rw[HSX.o,HSY.o] at HP;have q0:=hw9.o.ba.cell (i:=i) ω;have q1:=hw9.o.bb.cell (i:=i) ω;rw[HPX.o] at q0;rw[HQX.o] at q1;have f0:=hw9.o.ba.free i;have f1:=hw9.o.bb.free i;clear hw9 hr;go_wp2
   exact⟨⟨i+1,ω,by go_num,HP⟩,by simp[intOf];omega⟩
  ·have hie:i=5:=ω;have HIa:=ι (uF hl);have HIb:=ι (uF hl2);have HZa:Hid ((xG (List.replicate 5 0)).size=(xG ax).size):=ι (xAe σ hl);have HZb:Hid ((xG (List.replicate 5 0)).size=(xG bx).size):=ι (xAe σ hl2);clear hie hu hu2 hl hl2;go_upto_region 11 with fail
   refine RG.yD 4 (λL W=>Hid (SwM w ax bx (if L 2 then ax else List.replicate 5 0) (if L 3 then bx else List.replicate 5 0) W)) (λL L' W h hI=>by rw[<-h 2 δ,<-h 3 δ];exact hI) κ κ rfl (ι hr.o.drew) ?_;clear hr;apply RG.xN
   ·rfl
   ·rfl
   ·intro L w9 h0 hcl xK hw9;refine wpList_load_row rfl _ _ rfl w.heap.size rfl _ (xG ax) (0,0) _ hw9.o.ba underlying214 rfl HIa.o ?_;repeat go_step
    refine RG.xC ?_;exact⟨xK,hw9⟩
   ·rfl
   apply RG.xN
   ·rfl
   ·rfl
   ·intro L w9 h0 hcl xK hw9;refine wpList_load_row rfl _ _ rfl (w.heap.size+1) rfl _ (xG bx) (0,0) _ hw9.o.bb underlying214 rfl HIb.o ?_;repeat go_step
    refine RG.xC ?_;exact⟨xK,hw9⟩
   ·rfl
   apply RG.xN
   ·rfl
   ·rfl
   ·intro L w9 h0 hcl xK hw9;have hs9:=hw9.o;rw[h0,if_neg σ] at hs9;refine wpList_store_row rfl _ _ _ rfl (w.heap.size+2) (xG ax) rfl rfl _ _ hs9.br HIa.o HZa.o (yB _) ?_;repeat go_step
    refine RG.xC ?_;exact⟨xK,ι (hs9.rowR ax)⟩
   ·rfl
   apply RG.xN
   ·rfl
   ·rfl
   ·intro L w9 h0 hcl xK hw9;have hs9:=hw9.o;rw[h0,if_neg (c:=false=true) σ] at hs9;refine wpList_store_row rfl _ _ _ rfl (w.heap.size+3) (xG bx) rfl rfl _ _ hs9.bs HIb.o HZb.o (yB _) ?_;repeat go_step
    refine RG.xC ?_;exact⟨xK,ι (hs9.rowS bx)⟩
   ·rfl
   refine RG.xZ (λw9 hw9=>?_);rw[if_pos rfl,if_pos rfl] at hw9;go_wp2;refine bodyPost_ret (jL rfl _ _ (w.heap.size+2) (w.heap.size+3) _ _ _ _ (0,0) (0,0) _ rfl rfl hw9.o.br hw9.o.bs underlying214 rfl HIa.o HIb.o) rfl ?_;exact⟨rfl,hw9.o.bel⟩
end Go.Proofs.FE
namespace Mailsack
def pX (l:List Int):List Int:=[Go.bits .or .u64 (l.getD 0 0) (Go.IntKind.u64.wrap (l.getD 1 0*2251799813685248)),Go.bits .or .u64 (l.getD 1 0 / 8192) (Go.IntKind.u64.wrap (l.getD 2 0*274877906944)),Go.bits .or .u64 (l.getD 2 0 / 67108864) (Go.IntKind.u64.wrap (l.getD 3 0*33554432)),Go.bits .or .u64 (l.getD 3 0 / 549755813888) (Go.IntKind.u64.wrap (l.getD 4 0*4096))]
theorem xYj (l:List Int):yU (pX l):=by
 intro i
 match i with
 |0=>unfold pX;simp only[List.getD_cons_zero];exact zH _ _ _
 |1=>unfold pX;simp only[List.getD_cons_zero,List.getD_cons_succ];exact zH _ _ _
 |2=>unfold pX;simp only[List.getD_cons_zero,List.getD_cons_succ];exact zH _ _ _
 |3=>unfold pX;simp only[List.getD_cons_zero,List.getD_cons_succ];exact zH _ _ _
 |n+4=>
  rw[List.getD_eq_getElem?_getD,List.getElem?_eq_none (by simp[pX])];exact⟨δ,δ⟩
def xTg (ws:List Int):Nat->Bs
 |0=>xP 32
 |i+1=>(xTg ws i).set i (oct (ws.getD (i / 8) 0 / 2^(8*(i % 8))))
theorem xJh (ws:List Int):∀i,(xTg ws i).length=32
 |0=>yO 32
 |i+1=>by rw[xTg,List.length_set,xJh ws i]
def xC1 (a:List Int):ByteArray:=bsA (xTg (pX (xA5 a)) 32)
theorem xM9 (a:List Int):(xC1 a).size=32:=by rw[xC1,yN,xJh]
def wI (s:ByteArray):Nat->List Int
 |0=>List.replicate 4 0
 |i+1=>(wI s i).set (i / 8) (Go.bits .or .u64 ((wI s i).getD (i / 8) 0) (Go.IntKind.u64.wrap (yQ s i*2^(8*(i % 8)))))
theorem yB2 (s:ByteArray):∀i,(wI s i).length=4
 |0=>by simp[wI]
 |i+1=>by rw[wI,List.length_set,yB2 s i]
theorem wI_u (s:ByteArray):∀i,yU (wI s i)
 |0=>xBu 4
 |i+1=>(wI_u s i).set _ (zH _ _ _)
def xW3 (w:List Int):List Int:=[Go.bits .and .u64 (w.getD 0 0) 2251799813685247,Go.bits .and .u64 (Go.bits .or .u64 (w.getD 0 0 / 2251799813685248) (Go.IntKind.u64.wrap (w.getD 1 0*8192))) 2251799813685247,Go.bits .and .u64 (Go.bits .or .u64 (w.getD 1 0 / 274877906944) (Go.IntKind.u64.wrap (w.getD 2 0*67108864))) 2251799813685247,Go.bits .and .u64 (Go.bits .or .u64 (w.getD 2 0 / 33554432) (Go.IntKind.u64.wrap (w.getD 3 0*549755813888))) 2251799813685247,Go.bits .and .u64 (w.getD 3 0 / 4096) 2251799813685247]
def yBr (s:ByteArray):List Int:=xW3 (wI s 32)
theorem yAg (s:ByteArray):(yBr s).length=5:=rfl
theorem xZu (w:List Int):yU (xW3 w):=xDa (zH _ _ _) (zH _ _ _) (zH _ _ _) (zH _ _ _) (zH _ _ _)
theorem feOf_u (s:ByteArray):yU (yBr s):=xZu _
theorem yE1 {ws:List Int} (h:ws.length=4):∃a b c d,ws=[a,b,c,d]:=by
 match ws,h with
 |[a,b,c,d],_=>exact⟨a,b,c,d,rfl⟩
end Mailsack
namespace Go.Proofs.FE
open Go.RowKit Mailsack MM BB SH
structure ByM (w:World) (ax:List Int) (W:World):Prop where
 ba:uR 214 W w.heap.size ax
 bel:ψ w W
structure ByL (w:World) (g:Nat) (ws:List Int) (l:Bs) (W:World):Prop where
 bw:uR 300 W g ws
 bo:W.heap[g+1]?=some (.cells (yE l) 299 (0,0))
 bel:ψ w W
 ge:w.heap.size<=g
theorem ByL.put {w W:World} {g:Nat} {ws:List Int} {l:Bs} (h:ByL w g ws l W) (i:Nat) (z:Int):ByL w g ws (l.set i (oct z)) (W.setCell ⟨g+1,i,none⟩ (.int .u8 (z % 256))):=by
 have hg:=h.ge;have h2:=xY h.bo i (.int .u8 (z % 256));rw[xD1] at h2;exact⟨h.bw.far (p:=⟨g+1,i,none⟩) σ _,h2,h.bel.setCell (p:=⟨g+1,i,none⟩) (by simp only[];omega) _,hg⟩
theorem xXu (ax:List Int) (w:World) (hl:ax.length=5) (hu:yU ax):
  Calls prog 160 #[.agg (xG ax)] w λe w'=>e=.returned (.string (xC1 ax))/\ψ w w':=by
 have HN:=ι (λW=>xOb ax W hl hu);have HIa:=ι (uF hl);have HIn:=ι (uF (xBz ax));have HZa:=ι (xAe hl (xBz ax));have hnl:=xBz ax;have hnu:=xX6 ax;have H0:Hid (ByM w ax (w.alloc (.cells (xG ax) 214))):=ι ⟨xM _ _,φ w _⟩
 have HR:Hid (∀n,n=32->xC1 ax=bsA (xTg (pX (xA5 ax)) n)):=ι (λn hn=>by rw[hn];rfl);generalize xC1 ax=res at HR⊢;generalize xA5 ax=na at HN HIn HZa hnl hnu HR;clear hl hu;go_enter func160,ntmps160;go_upto_region 1 with fail
 refine(λ(h:∀W3,Hid (ByM w ax W3)->Code.wp _ _ _ _ W3)=>h _ H0) ?_;clear H0;intro W0 H0;refine wp_region_lit ?_;refine wpList_load_row rfl _ _ rfl w.heap.size rfl _ (xG ax) (0,0) _ H0.o.ba underlying214 rfl HIa.o ?_;repeat go_step
 refine(HN.o _).mono ?_;rintro e w7 ⟨rfl,hb7⟩;have h7:ByM w ax w7:=⟨H0.o.ba.below hb7,H0.o.bel.trans (hb7.mono H0.o.bel.size)⟩;have H8:Hid (ByM w na (w7.setRow w.heap.size (xG na))):=ι ⟨setRow_heap _ _ _ _ _ _ h7.ba,below_setRow h7.bel ν _⟩;clear H0 hb7
 obtain⟨a,b,c,d,e,rfl⟩:=xDw hnl;have ha:=hnu 0;have hb:=hnu 1;have hc:=hnu 2;have hd:=hnu 3;have he:=hnu 4;simp only[List.getD_cons_zero,List.getD_cons_succ] at ha hb hc hd he;obtain⟨a0,a1⟩:=ha;obtain⟨b0,b1⟩:=hb;obtain⟨c0,c1⟩:=hc;obtain⟨d0,d1⟩:=hd;obtain⟨e0,e1⟩:=he
 have q0:(w7.setRow w.heap.size (xG [a,b,c,d,e])).cell? ⟨w.heap.size,0,none⟩=some (.int .u64 a):=H8.o.ba.cell (i:=0) σ;have q1:(w7.setRow w.heap.size (xG [a,b,c,d,e])).cell? ⟨w.heap.size,1,none⟩=some (.int .u64 b):=H8.o.ba.cell (i:=1) σ
 have q2:(w7.setRow w.heap.size (xG [a,b,c,d,e])).cell? ⟨w.heap.size,2,none⟩=some (.int .u64 c):=H8.o.ba.cell (i:=2) σ;have q3:(w7.setRow w.heap.size (xG [a,b,c,d,e])).cell? ⟨w.heap.size,3,none⟩=some (.int .u64 d):=H8.o.ba.cell (i:=3) σ
 have q4:(w7.setRow w.heap.size (xG [a,b,c,d,e])).cell? ⟨w.heap.size,4,none⟩=some (.int .u64 e):=H8.o.ba.cell (i:=4) σ;clear hnu hnl HN;generalize hrow:xG [a,b,c,d,e]=row at*
 go_wp2_with (refine wpList_store_row rfl _ _ _ rfl w.heap.size row rfl rfl _ _ h7.ba HIn.o HZa.o (by rw[<-hrow];exact yB _) ?_)
 clear q0 q1 q2 q3 q4 HIn HZa HIa;have hz:(w7.setRow w.heap.size row).heap.size=w7.heap.size:=setRow_size _ _ _;have h1:=xO (xM (w7.setRow w.heap.size row) (.cells (xG (pX [a,b,c,d,e])) 300)) (.cells (yE (xP 32)) 299)
 have h2:=xM ((w7.setRow w.heap.size row).alloc (.cells (xG (pX [a,b,c,d,e])) 300)) (.cells (yE (xP 32)) 299);rw[vD] at h2;rw[hz] at h1 h2
 refine(λ(h:∀W3,Hid (ByL w w7.heap.size (pX [a,b,c,d,e]) (xP 32) W3)->Code.wp _ _ _ _ W3)=>h _ (ι ⟨h1,h2,(H8.o.bel.alloc (by rw[hz];exact h7.bel.size) _).alloc (by rw[vD,hz];have:=h7.bel.size;omega) _,h7.bel.size⟩)) ?_;clear H8 h7 hz h1 h2 hrow;have hwu:=xYj [a,b,c,d,e]
 have hwl:(pX [a,b,c,d,e]).length=4:=rfl;generalize pX [a,b,c,d,e]=ws at hwu hwl HR⊢;generalize w7.heap.size=g;clear a0 a1 b0 b1 c0 c1 d0 d1 e0 e1;intro W1 H1;have H2:Hid (ByL w g ws (xTg ws 0) W1):=H1;clear H1;have HL:=ι (λi=>xJh ws i)
 go_loopw [36] (λiv W=>∃i:Nat,i<=32/\iv=.int .i64 i/\Hid (ByL w g ws (xTg ws i) W)) (λiv _=>32- (intOf iv).toNat)
 case atStart=>exact⟨0,δ,rfl,H2⟩
 case round=>
  clear H2;obtain⟨i,hi,rfl,hr⟩:=hrel
  by_cases hlt:i<32
  ·have HS:Hid (∀q r,q=i / 8->r=i % 8->xTg ws (i+1)=(xTg ws i).set i (oct (ws.getD q 0 / 2^(8*r)))):=ι (λq r hq hr=>by rw[hq,hr];rfl);have hll:=HL.o i;obtain⟨q,hq⟩:∃q,q=i / 8:=⟨_,rfl⟩;obtain⟨r,hrr⟩:∃r,r=i % 8:=⟨_,rfl⟩
   replace HS:=ι (HS.o q r hq hrr)
   have hq4:q<4:=ω;have hr8:r<8:=ω;have hiq:(i:Int) / 8=(q:Int):=ω;have hir:(i:Int) % 8=(r:Int):=ω;obtain⟨s1,hs1⟩:∃s,xTg ws (i+1)=s:=⟨_,rfl⟩;rw[hs1] at HS;have HS1:=ι hs1;clear hs1 hq hrr;generalize xTg ws i=l at hr hll HS;obtain⟨x0,x1⟩:=hwu q;have q0:=hr.o.bw.cell (i:=q) ω
   generalize ws.getD q 0=x at q0 x0 x1 HS;have q1:=xA hr.o.bo i;rw[qQ ω] at q1;have q2:=xB hr.o.bo i;generalize ((l.getD i 0).toNat:Int)=old at q1;have HP:=ι (hr.o.put i (x / 2^(8*r)));rw[<-HS.o] at HP;clear hr HS;go_wp2
   exact⟨⟨i+1,ω,by go_num,by rw[HS1.o];exact HP⟩,by simp[intOf];omega⟩
  ·have hie:i=32:=ω;have HRi:=ι (HR.o i hie);have HT:=xCd (t:=299) hr.o.bo 32 32 (HL.o i);have hneg:¬((i:Int)<32):=ω;clear HR HL hie hlt hi;generalize xTg ws i=l at hr HRi HT;go_wp2;go_ret;rw[HRi.o];exact⟨rfl,hr.o.bel⟩
structure OfM (w:World) (ws:List Int) (W:World):Prop where
 bz:uR 214 W w.heap.size (List.replicate 5 0)
 bw:uR 300 W (w.heap.size+1) ws
 bel:ψ w W
theorem OfM.drew {w W:World} {ws:List Int} (h:OfM w ws W):OfM w ws W.drew:=⟨h.bz,h.bw,h.bel.drew⟩
theorem OfM.put {w W:World} {ws:List Int} (h:OfM w ws W) (i:Nat) (x:Int):OfM w (ws.set i x) (W.setCell ⟨w.heap.size+1,i,none⟩ (.int .u64 x)):=
 ⟨h.bz.far (p:=⟨w.heap.size+1,i,none⟩) σ _,h.bw.put i x,h.bel.setCell (p:=⟨w.heap.size+1,i,none⟩) σ _⟩
theorem of_bad (s:ByteArray) (w:World) (hs:s.size≠32):
  Calls prog 157 #[.string s] w λe w'=>e=.returned (.tuple #[.agg (xG (List.replicate 5 0)),.bool false])/\ψ w w':=by
 have hsi:(s.size:Int)≠32:=ω;have hsb:((s.size:Int)!=32)=true:=by simp;omega
 clear hs;go_enter func157,ntmps157;go_wp2;refine bodyPost_ret (SH.results_cell_tmp rfl _ _ w.heap.size _ _ (0,0) _ rfl (xM _ _) underlying214 rfl (show(prog.info? 214).map (·.size)=some 5 by kernel_rfl)) rfl ?_;exact⟨rfl,φ w _⟩
theorem of_any (s:ByteArray) (w:World) (hs:s.size=32):
  Calls prog 157 #[.string s] w λe w'=>e=.returned (.tuple #[.agg (xG (yBr s)),.bool true])/\ψ w w':=by
 have hsi:(s.size:Int)=32:=ω;have H0:Hid (OfM w (wI s 0) ((w.alloc (.cells (xG (List.replicate 5 0)) 214)).alloc (.cells (xG (List.replicate 4 0)) 300))):=ι ⟨zV _ _ _,zK _ _ _,(φ w _).alloc σ _⟩;have HR:Hid (∀n,n=32->yBr s=xW3 (wI s n)):=ι (λn hn=>by rw[hn];rfl)
 have HL:=ι (λi=>yB2 s i);have HU:=ι (λi=>wI_u s i);obtain⟨res,hres⟩:∃x,yBr s=x:=⟨_,rfl⟩;have hrl:res.length=5:=by rw[<-hres];rfl
 rw[hres] at HR⊢;have HS:=ι hs;clear hres hs;go_enter func157,ntmps157;go_upto_region 4 with fail
 refine(λ(h:∀W3,Hid (OfM w (wI s 0) W3)->Code.wp _ _ _ _ W3)=>h _ H0) ?_;clear H0;intro W0 H0;go_wp2_with fail
 go_loopw [12] (λiv W=>∃i:Nat,i<=32/\iv=.int .i64 i/\Hid (OfM w (wI s i) W)) (λiv _=>32- (intOf iv).toNat)
 case atStart=>exact⟨0,δ,rfl,H0⟩
 case round=>
  clear H0;obtain⟨i,hi,rfl,hr⟩:=hrel
  by_cases hlt:i<32
  ·have HSt:Hid (∀q r,q=i / 8->r=i % 8->wI s (i+1)=(wI s i).set q (bits .or .u64 ((wI s i).getD q 0) (IntKind.u64.wrap (yQ s i*2^(8*r))))):=ι (λq r hq hr=>by rw[hq,hr];rfl);have hll:=HL.o i;obtain⟨q,hq⟩:∃q,q=i / 8:=⟨_,rfl⟩;obtain⟨r,hrr⟩:∃r,r=i % 8:=⟨_,rfl⟩
   replace HSt:=ι (HSt.o q r hq hrr)
   have hq4:q<4:=ω;have hr8:r<8:=ω;have hiq:(i:Int) / 8=(q:Int):=ω;have hir:(i:Int) % 8=(r:Int):=ω;obtain⟨s1,hs1⟩:∃z,wI s (i+1)=z:=⟨_,rfl⟩;rw[hs1] at HSt;have HS1:=ι hs1;have hu:=HU.o i q;have ix:=λw=>zL (P:=prog) underlying9 s (i:Int) i rfl (by rw[HS.o];exact hlt) w
   obtain⟨b0,b1⟩:=yR s i;clear hs1 hq hrr;generalize wI s i=l at hr hll hu HSt;obtain⟨x,hx⟩:∃x,l.getD q 0=x:=⟨_,rfl⟩;rw[hx] at hu HSt;obtain⟨x0,x1⟩:=hu;have HX:=ι hx;generalize yQ s i=b at ix b0 b1 HSt;obtain⟨z,hz⟩:∃z,bits .or .u64 x (IntKind.u64.wrap (b*2^(8*r)))=z:=⟨_,rfl⟩
   rw[hz] at HSt;have HZ:=ι hz;clear hx;go_upto_region 7 with fail
   refine RG.yD 15 (λL W=>Hid (OfM w (if L 14 then l.set q z else l) W)) (λL L' W h hI=>by rw[<-h 14 δ];exact hI) κ κ rfl (ι hr.o.drew) ?_;iterate 3 refine RG.cS ?_
   apply RG.xN
   ·rfl
   ·rfl
   ·intro L w9 h0 hcl xK hw9;have e1:=hcl.not 15 (i:=14) h0 κ;have hs9:=hw9.o;rw[e1,if_neg σ] at hs9;have q:=hs9.bw.cell (i:=q) ω;rw[HX.o] at q;clear e1 hs9;repeat go_step
    refine RG.xC ?_;exact⟨xK,hw9⟩
   ·rfl
   iterate 10 refine RG.cS ?_
   apply RG.xN
   ·rfl
   ·rfl
   ·intro L w9 h0 hcl xK hw9;have hs9:=hw9.o;rw[h0,if_neg σ] at hs9;have q1:=hs9.bw.cell (i:=q) ω;have q2:=hs9.bw.free q;rw[HX.o] at q1;have hp:Hid (OfM w (l.set q z) (w9.setCell ⟨w.heap.size+1,q,none⟩ (.int .u64 z))):=ι (hs9.put q z);clear hs9;repeat go_step
    refine RG.xC ?_;refine⟨xK,?_⟩;show Hid (OfM w (if (true:Bool)=true then l.set q z else l) _);rw[if_pos rfl];with_reducible exact hp
   ·rfl
   refine RG.xZ (λw9 hw9=>?_);rw[if_pos rfl,<-HSt.o] at hw9;clear hr;go_wp2;exact⟨⟨i+1,ω,by go_num,by rw[HS1.o];exact hw9⟩,by simp[intOf];omega⟩
  ·have hie:i=32:=ω;have HRi:=ι (HR.o i hie);obtain⟨a,b,c,d,habcd⟩:=yE1 (HL.o i);have hu:=HU.o i;rw[habcd] at hr HRi hu;have ha:=hu 0;have hb:=hu 1;have hc:=hu 2;have hd:=hu 3;simp only[List.getD_cons_zero,List.getD_cons_succ] at ha hb hc hd;obtain⟨a0,a1⟩:=ha;obtain⟨b0,b1⟩:=hb
   obtain⟨c0,c1⟩:=hc;obtain⟨d0,d1⟩:=hd;have q0:wr.cell? ⟨w.heap.size+1,0,none⟩=some (.int .u64 a):=hr.o.bw.cell (i:=0) σ;have q1:wr.cell? ⟨w.heap.size+1,1,none⟩=some (.int .u64 b):=hr.o.bw.cell (i:=1) σ
   have q2:wr.cell? ⟨w.heap.size+1,2,none⟩=some (.int .u64 c):=hr.o.bw.cell (i:=2) σ;have q3:wr.cell? ⟨w.heap.size+1,3,none⟩=some (.int .u64 d):=hr.o.bw.cell (i:=3) σ;have hneg:¬((i:Int)<32):=ω;have HBZ:=ι hr.o.bz;have HBE:=ι hr.o.bel;clear HR HL HU hu habcd hr hie hlt hi
   go_wp2_with (refine wpList_store_row rfl _ _ _ rfl w.heap.size _ rfl rfl _ _ HBZ.o (show(prog.info? 214).map (·.size)=some 5 by kernel_rfl) rfl (by simp[Value.oneCell']) ?_)
   refine bodyPost_ret (SH.results_cell_tmp rfl _ _ w.heap.size _ _ (0,0) _ rfl (setRow_heap _ _ _ _ _ _ HBZ.o) underlying214 rfl (show(prog.info? 214).map (·.size)=some 5 by kernel_rfl)) rfl ?_;rw[HRi.o];exact⟨rfl,below_setRow HBE.o ν _⟩
def Bag (w:World) (B:List (Nat×TypeId×List Int)) (W:World):Prop:=ψ w W/\∀g t ws,(g,t,ws)∈B->w.heap.size<=g/\uR t W g ws
section
variable {w W W':World} {B:List (Nat×TypeId×List Int)}
theorem Bag.get (h:Bag w B W) {g:Nat} {t:TypeId} {ws:List Int} (hm:(g,t,ws)∈B):uR t W g ws:=(h.2 g t ws hm).2
theorem Bag.lt (h:Bag w B W) {g:Nat} {t:TypeId} {ws:List Int} (hm:(g,t,ws)∈B):g<W.heap.size:=xH (h.get hm).blk
theorem Bag.below (h:Bag w B W) (hb:ψ W W'):Bag w B W':=⟨h.1.trans (hb.mono h.1.size),λg t ws hm=>⟨(h.2 g t ws hm).1,(h.2 g t ws hm).2.below hb⟩⟩
theorem Bag.drew (h:Bag w B W):Bag w B W.drew:=⟨h.1.drew,h.2⟩
theorem Bag.alloc (h:Bag w B W) (o:Obj):Bag w B (W.alloc o):=h.below ((Below.refl _ W).alloc ν o)
theorem Bag.cons (h:Bag w B W) {g:Nat} {t:TypeId} {ws:List Int} (hg:w.heap.size<=g) (hb:uR t W g ws):Bag w ((g,t,ws)::B) W:=
 ⟨h.1,λg' t' ws' hm=>by
  rcases List.mem_cons.1 hm with e|e
  ·injection e with e1 e2;injection e2 with e2 e3;subst e1 e2 e3;exact⟨hg,hb⟩
  ·exact h.2 g' t' ws' e⟩
theorem Bag.new (h:Bag w B W) (t:TypeId) (ws:List Int):Bag w ((W.heap.size,t,ws)::B) (W.alloc (.cells (xG ws) t)):=(h.alloc _).cons h.1.size (xM _ _)
theorem Bag.far (h:Bag w B W) {g:Nat} (hg:w.heap.size<=g) (hf:∀g' t ws,(g',t,ws)∈B->g'≠g) (cs:Array Value):Bag w B (W.setRow g cs):=
 ⟨below_setRow h.1 hg _,λg' t ws hm=>⟨(h.2 g' t ws hm).1,(setRow_other _ _ _ _ (hf g' t ws hm)).trans (h.get hm)⟩⟩
end
def J1 (w:World) (B:List (Nat×TypeId×List Int)) (n s:Nat) (t:TypeId) (zs v:List Int) (L:Nat->Bool) (α:RG.Pl) (W:World):Prop:=
 Bag w B W/\(L n=true->(∀g t ws,(g,t,ws)∈B->g≠α n)/\w.heap.size<=α n/\uR t W (α n) (if L s=true then v else zs))
section
variable {w W W':World} {B:List (Nat×TypeId×List Int)} {n s:Nat} {t:TypeId} {zs v:List Int} {L:Nat->Bool} {α:RG.Pl}
theorem J1.congr {L':Nat->Bool} {α':RG.Pl} (hn:L n=L' n) (hs:L s=L' s) (ha:L n=true->α n=α' n) (h:J1 w B n s t zs v L α W):J1 w B n s t zs v L' α' W:=
 ⟨h.1,λh1=>by rw[<-hn] at h1;rw[<-hs,<-ha h1];exact h.2 h1⟩
theorem J1.start (h:Bag w B W):J1 w B n s t zs v (λ_=>false) α W.drew:=⟨h.drew,λh=>by cases h⟩
theorem J1.below (h:J1 w B n s t zs v L α W) (hb:ψ W W'):J1 w B n s t zs v L α W':=⟨h.1.below hb,λh1=>⟨(h.2 h1).1,(h.2 h1).2.1,(h.2 h1).2.2.below hb⟩⟩
theorem J1.new (h:J1 w B n s t zs v L α W) (hs:L s=false) (hns:s≠n):J1 w B n s t zs v (λj=>j==n||L j) (RG.xKk α n W.heap.size) (W.alloc (.cells (xG zs) t)):=by
 refine⟨h.1.alloc _,λ_=>?_⟩;rw[RG.xCn];refine⟨λg t ws hm e=>?_,h.1.1.size,?_⟩
 ·have:=h.1.lt hm;omega
 ·rw[if_neg (by simp[hs,hns])];exact xM _ _
theorem J1.fill (h:J1 w B n s t zs v L α W) (hn:L n=true):J1 w B n s t zs v (λj=>j==s||L j) α (W.setRow (α n) (xG v)):=by
 obtain⟨h1,h2,h3⟩:=h.2 hn;refine⟨h.1.far h2 h1 _,λ_=>⟨h1,h2,?_⟩⟩;rw[if_pos σ];exact setRow_heap _ _ _ _ _ _ h3
theorem J1.done (h:J1 w B n s t zs v (λ_=>true) α W):Bag w ((α n,t,v)::B) W:=by
 obtain⟨h1,h2,h3⟩:=h.2 rfl;rw[if_pos rfl] at h3;exact h.1.cons h2 h3
end
section
variable {md:Region.Mode} {ops:Array Oper} {E N:List Nat} {J:(Nat->Bool)->RG.Pl->World->Prop} {K:RG.Pl->Act->Prop} {a A:RG.Pl->Act} {v:Value} {i:Nat} {o:Oper} {os:List Oper}
theorem aL (h2:RG.uB prog ops md E N J K os (i+1) A) (hi:N.contains i=false:=by rfl) (he:E.contains i=false:=by rfl) (h:∀α L w,L i=false->RG.closed ops md L->RG.closed ops md (λj=>j==i||L j)->J L α w->wpList prog ops (RG.Only (J L α) (A α)) [o] (a α) w:=by
 intro α L w9 h0 hcl xK hw9
 first
 |refine wpList_load_row rfl _ _ rfl _ rfl _ _ (0,0) _ (FE.Bag.get (FE.J1.bag hw9.o) (by repeat (first|exact List.Mem.head _|apply List.Mem.tail))) underlying214 rfl (Go.RowKit.Hid.o (by with_reducible assumption)) ?_
 |refine wpList_load_row rfl _ _ rfl _ rfl _ _ (0,0) _ (FE.Bag.get (FE.J1.bag hw9.o.1) (by repeat (first|exact List.Mem.head _|apply List.Mem.tail))) underlying214 rfl (Go.RowKit.Hid.o (by with_reducible assumption)) ?_
 repeat go_step
 exact RG.xC hw9) (hd:∀α,A α=(a α).put o.dst v:=by intro α;rfl):RG.uB prog ops md E N J K (o::os) i a:=RG.qW hi he h hd h2
theorem aC (h2:RG.uB prog ops md E N J K os (i+1) A) (hi:N.contains i=false:=by rfl) (he:E.contains i=false:=by rfl) (h:∀α L w,L i=false->RG.closed ops md L->RG.closed ops md (λj=>j==i||L j)->J L α w->wpList prog ops (RG.Only (J L α) (A α)) [o] (a α) w:=by
 intro α L w9 h0 hcl xK hw9;repeat go_step
 refine RG.callH (by with_reducible assumption) ?_;rintro e w10 ⟨rfl,zF⟩;simp only[];repeat go_step
 refine RG.xC ?_;exact ι (hw9.o.below zF)) (hd:∀α,A α=(a α).put o.dst v:=by intro α;rfl):RG.uB prog ops md E N J K (o::os) i a:=RG.qW hi he h hd h2
theorem aN {A:Nat->RG.Pl->Act} (c s:Nat) (h2:RG.uB prog ops md E N J K os (i+1) (λα=>A (α i) α)) (hi:N.contains i=true:=by rfl) (hk:(RG.pU ops md c s).contains i=true:=by kernel_rfl) (h:∀α L w b,b=w.heap.size->L i=false->L s=false->J L α w->wpList prog ops (RG.Only (J (λj=>j==i||L j) (RG.xKk α i b)) (A b α)) [o] (a α) w:=by
 intro α L w9 b hb h0 e5 hw9;repeat go_step
 rw[<-hb];refine RG.xC ?_;rw[hb]
 first
 |exact ι (hw9.o.new e5 δ)
 |exact ι (hw9.o.newA e5 δ δ δ)
 |exact ι (hw9.o.newB e5 δ δ δ)) (hd:∀b α,A b α=(a α).put o.dst (RG.ptr b):=by intro b α;rfl):RG.uB prog ops md E N J K (o::os) i a:=
 RG.yC7 hi (λα L w b hb h0 hc hj=>h α L w b hb h0 (hc.not c h0 hk) hj) hd h2
theorem aT (c n:Nat) (h2:RG.uB prog ops md E N J K os (i+1) A) (hi:N.contains i=false:=by rfl) (he:E.contains i=true:=by rfl) (hk:(RG.pU ops md c i).contains n=true:=by kernel_rfl) (hne:n≠i:=by decide) (h:∀α L w,L i=false->L n=true->J L α w->wpList prog ops (RG.Only (J (λj=>j==i||L j) α) (A α)) [o] (a α) w:=by
 intro α L w9 h0 e4 hw9
 first
 |(obtain⟨h1,h2,h3⟩:=hw9.o.2 e4
   rw[if_neg (by simp[h0])] at h3;refine wpList_store_row rfl _ _ _ rfl _ _ rfl rfl _ _ h3 (Go.RowKit.Hid.o (by with_reducible assumption)) (Go.RowKit.Hid.o (by with_reducible assumption)) (yB _) ?_;repeat go_step
   refine RG.xC ?_;exact ι (hw9.o.fill e4))
 |(obtain⟨h1,h2,h3⟩:=hw9.o.1.2 e4
   rw[if_neg (by simp[h0])] at h3;refine wpList_store_row rfl _ _ _ rfl _ _ rfl rfl _ _ h3 (Go.RowKit.Hid.o (by with_reducible assumption)) (Go.RowKit.Hid.o (by with_reducible assumption)) (yB _) ?_;repeat go_step
   refine RG.xC ?_;exact ι (hw9.o.fillA e4 δ δ))
 |(obtain⟨h1,h2,h3⟩:=hw9.o.2.1.2 e4
   rw[if_neg (by simp[h0])] at h3;refine wpList_store_row rfl _ _ _ rfl _ _ rfl rfl _ _ h3 (Go.RowKit.Hid.o (by with_reducible assumption)) (Go.RowKit.Hid.o (by with_reducible assumption)) (yB _) ?_;repeat go_step
   refine RG.xC ?_;exact ι (hw9.o.fillB e4 δ δ))) (hd:∀α,A α=(a α).put o.dst undef:=by intro α;rfl):RG.uB prog ops md E N J K (o::os) i a:=
 RG.xYh hi he (λα L w h0 hc hc2 hj=>h α L w h0 (by have:=hc2.yes c (i:=i) σ (j:=n) hk;simpa[hne] using this) hj) hd h2
theorem J1.bag {w W:World} {B:List (Nat×TypeId×List Int)} {n s:Nat} {t:TypeId} {zs v:List Int} {L:Nat->Bool} {α:RG.Pl} (h:J1 w B n s t zs v L α W):Bag w B W:=h.1
theorem xSw {id:Nat} {l:List Oper} {a:Act} {W0 w:World} {Q:Exit->Act->World->Prop} {B:List (Nat×TypeId×List Int)} (n s:Nat) (t:TypeId) (zs v:List Int) (H0:Hid (Bag w B W0))
  (h:RG.uB prog l.toArray .any [s] [n] (λL α W=>Hid (J1 w B n s t zs v L α W)) (λα a=>∀w9,Hid (J1 w B n s t zs v (λ_=>true) α w9)->Q .normal a w9) l 0 (λ_=>a)) (hm:prog.follows .mixedOrders=true:=by kernel_rfl) (hf:RG.fits .any l.toArray=true:=by kernel_rfl) (hE:(([s]++[n]).all λe=>decide (e<l.length))=true:=by kernel_rfl):
  (Code.region id l.toArray true).wp prog Q a W0:=
 RG.xBj [s] [n] (λL α W=>Hid (J1 w B n s t zs v L α W)) (λL L' α α' W hl ha h=>ι (J1.congr (hl n σ) (hl s σ) (ha n σ) h.o)) hm hf hE (ι (J1.start H0.o)) h
end
end Go.Proofs.FE
namespace Mailsack
def xAg (pw xI:ByteArray):Nat->ByteArray
 |0=>bsA (xTi pw (xI++bsA [0,0,0,1]))
 |k+1=>bsA (xTi pw (xAg pw xI k))
def xH4 (l:Bs) (t:ByteArray):Nat->Bs
 |0=>l
 |i+1=>(xH4 l t i).set i (oct (Go.bits .xor .u8 (((xH4 l t i).getD i 0).toNat:Int) (yQ t i)))
theorem xEv (l:Bs) (t:ByteArray):∀i,(xH4 l t i).length=l.length
 |0=>rfl
 |i+1=>by simp[xH4,xEv l t i]
def pO (pw xI:ByteArray):Nat->Bs
 |0=>(xAg pw xI 0).data.toList
 |k+1=>xH4 (pO pw xI k) (xAg pw xI (k+1)) 32
theorem xB7 (pw xI:ByteArray):∀k,(xAg pw xI k).size=32
 |0=>by rw[xAg,yN,xF7]
 |k+1=>by rw[xAg,yN,xF7]
theorem xG1 (pw xI:ByteArray):∀k,(pO pw xI k).length=32
 |0=>by have:=xB7 pw xI 0;simpa[pO] using this
 |k+1=>by rw[pO,xEv,xG1 pw xI k]
def xCq (pw xI:ByteArray) (rounds:Nat):ByteArray:=bsA (pO (jI pw) xI (rounds-1))
theorem xI5 (pw xI:ByteArray) (r:Nat):(xCq pw xI r).size=32:=by rw[xCq,yN,xG1]
theorem yDp (pw:ByteArray):(jI pw).size<=64:=by
 unfold jI;split
 ·rw[yN,xB3];decide
 ·omega
end Mailsack
namespace Go.Proofs.SH
open Go.RowKit Mailsack MM BB
structure PaI (w:World) (g:Nat) (l:Bs) (W:World):Prop where
 o:xMx W g l
 bel:ψ w W
 lo:w.heap.size<=g
 hi:g<W.heap.size
theorem PaI.below {w:World} {g:Nat} {l:Bs} {W W':World} (h:PaI w g l W) (hb:ψ W W'):PaI w g l W':=
 ⟨h.o.keep (hb.block g h.hi),h.bel.trans (hb.mono h.bel.size),h.lo,Nat.lt_of_lt_of_le h.hi hb.size⟩
theorem PaI.drew {w:World} {g:Nat} {l:Bs} {W:World} (h:PaI w g l W):PaI w g l W.drew:=⟨⟨h.o.cell,h.o.free⟩,h.bel.drew,h.lo,h.hi⟩
theorem PaI.put {w:World} {g:Nat} {l:Bs} {W:World} (h:PaI w g l W) {p:Nat} (hp:p<l.length) {z:Int} (h0:0<=z) (h1:z<256):PaI w g (l.set p (oct z)) (W.setCell ⟨g,p,none⟩ (.int .u8 z)):=
 ⟨h.o.put hp h0 h1,h.bel.setCell (p:=⟨g,p,none⟩) h.lo _,h.lo,by rw[size_set];exact h.hi⟩
theorem yBh (pw xI:ByteArray) (r:Int) (w:World) (h:r<1∨64<r):
  Calls prog 171 #[.string pw,.string xI,.int .i64 r] w λe w'=>e=.returned (.tuple #[.string ⟨#[]⟩,.int .i64 1])/\w'=w:=by
 have hr:=h;go_enter func171,ntmps171;rcases hr with h|h
 ·go_wp2;go_ret2;exact⟨rfl,rfl⟩
 ·have h1:¬(r<1):=ω;go_wp2;go_ret2;exact⟨rfl,rfl⟩
theorem xEe (pw xI:ByteArray) (r:Nat) (w:World) (h0:1<=r) (h1:r<=64) (hp:pw.size<=1099511627776) (hs:xI.size<=1000000) (hT:vT w):
  Calls prog 171 #[.string pw,.string xI,.int .i64 r] w λe w'=>e=.returned (.tuple #[.string (xCq pw xI r),.int .i64 0])/\ψ w w':=by
 have HT:=ι (λW (h:ψ w W)=>hT.below h ν);have HPP:Hid (∀k,k=r-1->xCq pw xI r=bsA (pO (jI pw) xI k)):=ι (λk hk=>by rw[hk];rfl);have hkl:=yDp pw
 have HKP:Hid (∀W,vT W->64<pw.size->Calls prog 263 #[.string pw] W λe w'=>e=.returned (.string (jI pw))/\ψ W w'):=ι (λW hW h=>by
  unfold jI;rw[if_pos h];exact xFn pw W ω hW)
 have HKE:Hid (pw.size<=64->jI pw=pw):=ι (λh=>by unfold jI;rw[if_neg ω]);generalize jI pw=kp at HPP hkl HKP HKE
 have HM0:Hid (∀W,vT W->Calls prog 254 #[.string kp,.string (xI++bsA [0,0,0,1])] W λe w'=>e=.returned (.string (xAg kp xI 0))/\ψ W w'):=ι (λW hW=>by
  exact xF4 kp _ W ω (by rw[ByteArray.size_append,yN];simp;omega) hW)
 have HMK:Hid (∀k W,vT W->Calls prog 254 #[.string kp,.string (xAg kp xI k)] W λe w'=>e=.returned (.string (xAg kp xI (k+1)))/\ψ W w'):=ι (λk W hW=>by
  exact xF4 kp _ W ω (by rw[xB7];decide) hW)
 have HLZ:=ι (xB7 kp xI);have HPL:=ι (xG1 kp xI);have nb1:¬(9223372036854775807<xI.size+4):=ω;obtain⟨l00,h00⟩:∃x,xAg kp xI 0=x:=⟨_,rfl⟩;have hl00:=xB7 kp xI 0;rw[h00] at HM0 hl00;have HP0:Hid (l00.data.toList=pO kp xI 0):=ι (by rw[<-h00];rfl);have H00:=ι h00;clear h00
 clear hkl hT;go_enter func171,ntmps171;go_upto_region 3 with fail
 by_cases h64:64<pw.size
 ·have h64i:(64:Int)<(pw.size:Int):=ω;go_wp2_with fail
  refine(HKP.o _ (HT.o _ (Below.refl _ _)) h64).mono ?_;rintro e w1 ⟨rfl,hb1⟩;have B1:=ι hb1;clear hb1 HKP HKE h64 h64i;go_upto_region 5 with fail
  have nb2:¬(9223372036854775807<xI.size+(bsA [0,0,0,1]).size):=by rw[yN];simp;omega
  have HB4:Hid (Value.string ⟨#[0,0,0,1]⟩=.string (bsA [0,0,0,1])):=ι rfl;go_wp2_with fail
  refine(HM0.o _ (HT.o _ B1.o)).mono ?_;rintro e w2 ⟨rfl,hb2⟩;have B2:=ι (B1.o.trans (hb2.mono B1.o.size));clear hb2 HM0 nb1 nb2 HB4 B1;have xJx:=λW=>Lib.run_convert_string_bytes (P:=prog) W 9 125 5 l00 underlying9 underlying125 underlying5
  have HPI:Hid (PaI w w2.heap.size l00.data.toList (Lib.bytesWorld w2 5 l00)):=ι ⟨xMx.start w2 l00,B2.o.trans ⟨rfl,rfl,rfl,by rw[Lib.bytesWorld_size];omega,λk hk=>Lib.bytesWorld_at_old _ _ _ k (by have:=B2.o.size;omega)⟩,B2.o.size,by rw[Lib.bytesWorld_size];omega⟩
  go_upto_region 7 with fail
  have hcap:32<=grownCap w2 32 0 5:=grownCap_ge _ _ _ _;generalize grownCap w2 32 0 5=cap at hcap⊢;generalize Lib.bytesWorld w2 5 l00=w3 at HPI⊢;generalize w2.heap.size=g at HPI⊢;clear xJx hl00 B2;go_wp2_with fail
  go_loopw [8,30] (λlv iv wr=>∃k:Nat,k<=r-1/\lv=.string (xAg kp xI k)/\iv=.int .i64 k/\Hid (PaI w g (pO kp xI k) wr)) (λ_ iv _=>r- (intOf iv).toNat)
  case atStart=>exact⟨0,Nat.zero_le _,by rw[H00.o],rfl,by rw[<-HP0.o];exact HPI⟩
  case round=>
   obtain⟨k,hk,rfl,rfl,hr⟩:=hrel;clear HPI
   by_cases hlt:k<r-1
   ·have HSk:=ι (HMK.o k wr (HT.o _ hr.o.bel));have HR:=ι (And.intro h0 (And.intro h1 (And.intro hp hs)));clear h0 h1 hp hs;go_wp2_with fail
    refine HSk.o.mono ?_;rintro e w4 ⟨rfl,hb4⟩;have H4:Hid (PaI w g (xH4 (pO kp xI k) (xAg kp xI (k+1)) 0) w4):=ι (hr.o.below hb4);have HN:Hid (∀n,n=32->pO kp xI (k+1)=xH4 (pO kp xI k) (xAg kp xI (k+1)) n):=ι (λn hn=>by rw[hn];rfl);have hlz:=HLZ.o (k+1);have HPLk:=ι (HPL.o k)
    clear hb4 hr HSk;obtain⟨l1,hl1⟩:∃x,xAg kp xI (k+1)=x:=⟨_,rfl⟩;rw[hl1] at H4 HN hlz⊢;have HL1:=ι hl1;clear hl1;obtain⟨pk,hpk⟩:∃pk,pO kp xI (k+1)=pk:=⟨_,rfl⟩;rw[hpk] at HN;have HPK:Hid (∀n,n=k+1->pO kp xI n=pk):=ι (λn hn=>by rw[hn];exact hpk);clear hpk
    generalize pO kp xI k=l0 at H4 HN HPLk;go_wp2_with fail
    go_loopw [37] (λjv W=>∃i:Nat,i<=32/\jv=.int .i64 i/\Hid (PaI w g (xH4 l0 l1 i) W)) (λjv _=>32- (intOf jv).toNat)
    case atStart=>exact⟨0,ω,rfl,H4⟩
    case round=>
     clear H4
     rename World=>wi
     obtain⟨i,hi,rfl,hr⟩:=hrel
     by_cases hli:i<32
     ·have HXI:Hid (xH4 l0 l1 (i+1)=(xH4 l0 l1 i).set i (oct (bits .xor .u8 (((xH4 l0 l1 i).getD i 0).toNat:Int) (yQ l1 i)))):=ι rfl;have hil:=xEv l0 l1 i;generalize xH4 l0 l1 i=li at hr HXI hil;have HIF:Hid (i<li.length):=ι (by rw[hil,HPLk.o];exact hli)
      have i1:=λw=>zL (P:=prog) underlying9 l1 (i:Int) i rfl (by rw[hlz];exact hli) w;obtain⟨a,ha⟩:∃a:Int,((li.getD i 0).toNat:Int)=a:=⟨_,rfl⟩;obtain⟨c,hc⟩:∃c:Int,yQ l1 i=c:=⟨_,rfl⟩;have rc:=yR l1 i;rw[hc] at i1 rc;rw[ha,hc] at HXI;have HA:=ι ha
      obtain⟨v,hv⟩:∃v,bits .xor .u8 a c=v:=⟨_,rfl⟩;have HV:Hid (0<=v/\v<256):=ι (hv▸xAz _ _ _);rw[hv] at HXI;have HVE:=ι hv;have ra:0<=a/\a<256:=by rw[<-ha];have:=(li.getD i 0).toNat_lt;omega
      obtain⟨ra0,ra1⟩:=ra;obtain⟨rc0,rc1⟩:=rc;have HLT:=ι hlt;have HK:=ι hk;have HI:=ι hi;have HLZ1:=ι hlz;clear ha hc hv hil hlt hk hlz;go_upto_region 13 with fail
      refine RG.yD 10 (λL W=>Hid (PaI w g (if L 9 then li.set i (oct v) else li) W)) (λL L' W h hI=>by rw[<-h 9 δ];exact hI) κ κ rfl (ι hr.o.drew) ?_;iterate 3 refine RG.cS ?_
      apply RG.xN
      ·rfl
      ·rfl
      ·intro L w9 h0 hcl xK hw9;have e1:=hcl.not 6 (i:=9) h0 κ;have hs9:=hw9.o;rw[e1,if_neg σ] at hs9;have q:=hs9.o.cell i HIF.o;rw[HA.o] at q;clear e1 hs9;repeat go_step
       refine RG.xC ?_;exact⟨xK,hw9⟩
      ·rfl
      iterate 4 refine RG.cS ?_
      rw[HVE.o];refine RG.cS ?_;apply RG.xN
      ·rfl
      ·rfl
      ·intro L w9 h0 hcl xK hw9;have hs9:=hw9.o;rw[h0,if_neg σ] at hs9;have q1:=hs9.o.cell i HIF.o;have q2:=hs9.o.free i HIF.o;generalize ((li.getD i 0).toNat:Int)=old at q1
       have hp:Hid (PaI w g (li.set i (oct v)) (w9.setCell ⟨g,i,none⟩ (.int .u8 v))):=ι (hs9.put HIF.o HV.o.1 HV.o.2);clear hs9;repeat go_step
       refine RG.xC ?_;refine⟨xK,?_⟩;show Hid (PaI w g (if (true:Bool)=true then li.set i (oct v) else li) _);rw[if_pos rfl];with_reducible exact hp
      ·rfl
      refine RG.xZ (λw9 hw9=>?_);rw[if_pos rfl,<-HXI.o] at hw9;go_wp2;exact⟨⟨i+1,by have:=HI.o;omega,by go_num,hw9⟩,by simp[intOf];omega⟩
     ·have HXE:Hid (xH4 l0 l1 i=pk):=ι ((HN.o i ω).symm);rw[HXE.o] at hr;go_wp2;exact⟨⟨k+1,ω,by rw[HL1.o],by go_num,by rw[HPK.o _ rfl];exact hr⟩,by simp[intOf];omega⟩
   ·have HPk:=ι (HPP.o k ω);have ht:=hr.o.o.text 32 cap (HPL.o k);rw[<-HPk.o] at ht;have HBl:=ι hr.o.bel;clear hr;go_wp2;go_ret2;exact⟨rfl,HBl.o⟩
 ·have h64i:¬(64:Int)<(pw.size:Int):=ω;have hkp:=HKE.o ω;subst hkp;have B1:=ι (Below.refl w.heap.size w);clear HKP HKE h64;go_upto_region 5 with fail
  clear h64i;have nb2:¬(9223372036854775807<xI.size+(bsA [0,0,0,1]).size):=by rw[yN];simp;omega
  have HB4:Hid (Value.string ⟨#[0,0,0,1]⟩=.string (bsA [0,0,0,1])):=ι rfl;go_wp2_with fail
  refine(HM0.o _ (HT.o _ B1.o)).mono ?_;rintro e w2 ⟨rfl,hb2⟩;have B2:=ι (B1.o.trans (hb2.mono B1.o.size));clear hb2 HM0 nb1 nb2 HB4 B1;have xJx:=λW=>Lib.run_convert_string_bytes (P:=prog) W 9 125 5 l00 underlying9 underlying125 underlying5
  have HPI:Hid (PaI w w2.heap.size l00.data.toList (Lib.bytesWorld w2 5 l00)):=ι ⟨xMx.start w2 l00,B2.o.trans ⟨rfl,rfl,rfl,by rw[Lib.bytesWorld_size];omega,λk hk=>Lib.bytesWorld_at_old _ _ _ k (by have:=B2.o.size;omega)⟩,B2.o.size,by rw[Lib.bytesWorld_size];omega⟩
  go_upto_region 7 with fail
  have hcap:32<=grownCap w2 32 0 5:=grownCap_ge _ _ _ _;generalize grownCap w2 32 0 5=cap at hcap⊢;generalize Lib.bytesWorld w2 5 l00=w3 at HPI⊢;generalize w2.heap.size=g at HPI⊢;clear xJx hl00 B2;go_wp2_with fail
  go_loopw [8,30] (λlv iv wr=>∃k:Nat,k<=r-1/\lv=.string (xAg kp xI k)/\iv=.int .i64 k/\Hid (PaI w g (pO kp xI k) wr)) (λ_ iv _=>r- (intOf iv).toNat)
  case atStart=>exact⟨0,Nat.zero_le _,by rw[H00.o],rfl,by rw[<-HP0.o];exact HPI⟩
  case round=>
   obtain⟨k,hk,rfl,rfl,hr⟩:=hrel;clear HPI
   by_cases hlt:k<r-1
   ·have HSk:=ι (HMK.o k wr (HT.o _ hr.o.bel));have HR:=ι (And.intro h0 (And.intro h1 (And.intro hp hs)));clear h0 h1 hp hs;go_wp2_with fail
    refine HSk.o.mono ?_;rintro e w4 ⟨rfl,hb4⟩;have H4:Hid (PaI w g (xH4 (pO kp xI k) (xAg kp xI (k+1)) 0) w4):=ι (hr.o.below hb4);have HN:Hid (∀n,n=32->pO kp xI (k+1)=xH4 (pO kp xI k) (xAg kp xI (k+1)) n):=ι (λn hn=>by rw[hn];rfl);have hlz:=HLZ.o (k+1);have HPLk:=ι (HPL.o k)
    clear hb4 hr HSk;obtain⟨l1,hl1⟩:∃x,xAg kp xI (k+1)=x:=⟨_,rfl⟩;rw[hl1] at H4 HN hlz⊢;have HL1:=ι hl1;clear hl1;obtain⟨pk,hpk⟩:∃pk,pO kp xI (k+1)=pk:=⟨_,rfl⟩;rw[hpk] at HN;have HPK:Hid (∀n,n=k+1->pO kp xI n=pk):=ι (λn hn=>by rw[hn];exact hpk);clear hpk
    generalize pO kp xI k=l0 at H4 HN HPLk;go_wp2_with fail
    go_loopw [37] (λjv W=>∃i:Nat,i<=32/\jv=.int .i64 i/\Hid (PaI w g (xH4 l0 l1 i) W)) (λjv _=>32- (intOf jv).toNat)
    case atStart=>exact⟨0,ω,rfl,H4⟩
    case round=>
     clear H4
     rename World=>wi
     obtain⟨i,hi,rfl,hr⟩:=hrel
     by_cases hli:i<32
     ·have HXI:Hid (xH4 l0 l1 (i+1)=(xH4 l0 l1 i).set i (oct (bits .xor .u8 (((xH4 l0 l1 i).getD i 0).toNat:Int) (yQ l1 i)))):=ι rfl;have hil:=xEv l0 l1 i;generalize xH4 l0 l1 i=li at hr HXI hil;have HIF:Hid (i<li.length):=ι (by rw[hil,HPLk.o];exact hli)
      have i1:=λw=>zL (P:=prog) underlying9 l1 (i:Int) i rfl (by rw[hlz];exact hli) w;obtain⟨a,ha⟩:∃a:Int,((li.getD i 0).toNat:Int)=a:=⟨_,rfl⟩;obtain⟨c,hc⟩:∃c:Int,yQ l1 i=c:=⟨_,rfl⟩;have rc:=yR l1 i;rw[hc] at i1 rc;rw[ha,hc] at HXI;have HA:=ι ha
      obtain⟨v,hv⟩:∃v,bits .xor .u8 a c=v:=⟨_,rfl⟩;have HV:Hid (0<=v/\v<256):=ι (hv▸xAz _ _ _);rw[hv] at HXI;have HVE:=ι hv;have ra:0<=a/\a<256:=by rw[<-ha];have:=(li.getD i 0).toNat_lt;omega
      obtain⟨ra0,ra1⟩:=ra;obtain⟨rc0,rc1⟩:=rc;have HLT:=ι hlt;have HK:=ι hk;have HI:=ι hi;have HLZ1:=ι hlz;clear ha hc hv hil hlt hk hlz;go_upto_region 13 with fail
      refine RG.yD 10 (λL W=>Hid (PaI w g (if L 9 then li.set i (oct v) else li) W)) (λL L' W h hI=>by rw[<-h 9 δ];exact hI) κ κ rfl (ι hr.o.drew) ?_;iterate 3 refine RG.cS ?_
      apply RG.xN
      ·rfl
      ·rfl
      ·intro L w9 h0 hcl xK hw9;have e1:=hcl.not 6 (i:=9) h0 κ;have hs9:=hw9.o;rw[e1,if_neg σ] at hs9;have q:=hs9.o.cell i HIF.o;rw[HA.o] at q;clear e1 hs9;repeat go_step
       refine RG.xC ?_;exact⟨xK,hw9⟩
      ·rfl
      iterate 4 refine RG.cS ?_
      rw[HVE.o];refine RG.cS ?_;apply RG.xN
      ·rfl
      ·rfl
      ·intro L w9 h0 hcl xK hw9;have hs9:=hw9.o;rw[h0,if_neg σ] at hs9;have q1:=hs9.o.cell i HIF.o;have q2:=hs9.o.free i HIF.o;generalize ((li.getD i 0).toNat:Int)=old at q1
       have hp:Hid (PaI w g (li.set i (oct v)) (w9.setCell ⟨g,i,none⟩ (.int .u8 v))):=ι (hs9.put HIF.o HV.o.1 HV.o.2);clear hs9;repeat go_step
       refine RG.xC ?_;refine⟨xK,?_⟩;show Hid (PaI w g (if (true:Bool)=true then li.set i (oct v) else li) _);rw[if_pos rfl];with_reducible exact hp
      ·rfl
      refine RG.xZ (λw9 hw9=>?_);rw[if_pos rfl,<-HXI.o] at hw9;go_wp2;exact⟨⟨i+1,by have:=HI.o;omega,by go_num,hw9⟩,by simp[intOf];omega⟩
     ·have HXE:Hid (xH4 l0 l1 i=pk):=ι ((HN.o i ω).symm);rw[HXE.o] at hr;go_wp2;exact⟨⟨k+1,ω,by rw[HL1.o],by go_num,by rw[HPK.o _ rfl];exact hr⟩,by simp[intOf];omega⟩
   ·have HPk:=ι (HPP.o k ω);have ht:=hr.o.o.text 32 cap (HPL.o k);rw[<-HPk.o] at ht;have HBl:=ι hr.o.bel;clear hr;go_wp2;go_ret2;exact⟨rfl,HBl.o⟩
end Go.Proofs.SH
namespace Mailsack
def xXq (l:Bs):Bs:=((l.set 0 (oct (Go.bits .and .u8 ((l.getD 0 0).toNat:Int) 248))).set 31 (oct (Go.bits .and .u8 ((l.getD 31 0).toNat:Int) 127))).set 31 (oct (Go.bits .or .u8 (Go.bits .and .u8 ((l.getD 31 0).toNat:Int) 127) 64))
def xD4 (s:ByteArray):ByteArray:=bsA (xXq s.data.toList)
theorem xT1 (l:Bs):(xXq l).length=l.length:=by simp[xXq]
theorem xOk (s:ByteArray):(xD4 s).size=s.size:=by rw[xD4,yN,xT1];rfl
def xKc:ByteArray:=bsA ((xP 32).set 0 9)
theorem xT7:xKc.size=32:=by rw[xKc,yN];rfl
end Mailsack
namespace Go.Proofs.FE
open Go.RowKit Mailsack MM BB SH
section
variable {P:Program}
theorem xEt (w:World) (b off:Nat) (ty:TypeId) (cs:Array Value) (d:TypeDesc) (hc:∀j v,cs.toList[j]?=some v->w.cell? ⟨b,off+j,none⟩=some v)
  (hu:P.underlying ty=some d) (hd:(match d with|.struct _|.array _ _=>true|_=>false)=true) (hi:(P.info? ty).map (·.size)=some cs.size):
  (loadVar ty ⟨b,off,none⟩).run P w=.ok (.agg cs) w:=by
 have hl:(loadCells ⟨b,off,none⟩ cs.toList.length).run P w=.ok cs.toList.toArray w:=
  run_loadCells_list (P:=P) w ⟨b,off,none⟩ cs.toList (λj v hv=>by
   have hadd:(⟨b,off,none⟩:Addr).add j=⟨b,off+j,none⟩:=by unfold Addr.add;split<;>simp_all
   rw[hadd];exact hc j v hv)
 cases hq:P.info? ty with
 |none=>simp[hq] at hi
 |some i=>
  have hs:i.size=cs.size:=by simpa[hq] using hi
  have hagg:(isAgg ty).run P w=.ok true w:=by
   unfold isAgg;rw[Sem.run_bind,run_underlying hu w];cases d<;>simp_all
  simp only[Array.length_toList,Array.toArray_toList] at hl;simp[loadVar,Sem.run_bind,hagg,sizeOf,typeInfo,hq,hs,hl]
theorem zX {ops:Array Oper} {rest:List Oper} {o:Oper} {a:Act} {w:World} {Q:Exit->Act->World->Prop} (hgd:o.guard=none) (ty:TypeId) (x:Operand) (ho:o.op=.load ty x)
  (b off:Nat) (hx:a.eval x=.pointer (some ⟨b,off,none⟩)) (cs:Array Value) (d:TypeDesc) (hc:∀j v,cs.toList[j]?=some v->w.cell? ⟨b,off+j,none⟩=some v)
  (hu:P.underlying ty=some d) (hd:(match d with|.struct _|.array _ _=>true|_=>false)=true) (hi:(P.info? ty).map (·.size)=some cs.size)
  (h:wpList P ops Q rest (a.put o.dst (.agg cs)) w):wpList P ops Q (o::rest) a w:=
 wpList_plain hgd λ_ hK=>by
  unfold Oper.wp execOp;simp only[ho,hx,Instr.loadAt,Instr.sureAddr,Sem.run_bind,Sem.run_pure,Result.andThen_ok,xEt w b off ty cs d hc hu hd hi];exact hK _ _ h
theorem xDn (w:World) (g o:Nat) (t ty:TypeId) (old cells:Array Value) (hg:w.heap[g]?=some (.cells old t (0,0))) (hi:(P.info? ty).map (·.size)=some cells.size)
  (ho:o+cells.size<=old.size) (h1:cells.all (·.oneCell')=true):
  (storeVar ty ⟨g,o,none⟩ (.agg cells)).run P w=.ok () (w.setRow g (old.toList.take o++cells.toList++old.toList.drop (o+cells.size)).toArray):=by
 have:=run_storeCells_at P g o t cells.toList 0 old w hg (by simp;omega) (λv hv=>(Array.all_eq_true_iff_forall_mem.1 h1) v (by simpa using hv));cases hq:P.info? ty with
 |none=>simp[hq] at hi
 |some i=>
  have hs:cells.size=i.size:=by simp[hq] at hi;omega
  simp[storeVar,sizeOf,typeInfo,hq,Value.cells,hs,this]
theorem wZ {ops:Array Oper} {rest:List Oper} {o:Oper} {a:Act} {w:World} {Q:Exit->Act->World->Prop} (hgd:o.guard=none) (ty:TypeId) (x y:Operand) (ho:o.op=.store ty x y)
  (g off:Nat) (cells:Array Value) (hx:a.eval x=.pointer (some ⟨g,off,none⟩)) (hy:a.eval y=.agg cells)
  (t:TypeId) (old:Array Value) (hg:w.heap[g]?=some (.cells old t (0,0))) (hi:(P.info? ty).map (·.size)=some cells.size)
  (hold:off+cells.size<=old.size) (h1:cells.all (·.oneCell')=true) (new:Array Value) (hn:(old.toList.take off++cells.toList++old.toList.drop (off+cells.size)).toArray=new)
  (h:wpList P ops Q rest (a.put o.dst undef) (w.setRow g new)):wpList P ops Q (o::rest) a w:=
 wpList_plain hgd λ_ hK=>by
  subst hn;unfold Oper.wp execOp;simp only[ho,hx,hy,Instr.storeAt,Instr.sureAddr,Sem.run_bind,Sem.run_pure,Result.andThen_ok,xDn w g off t ty old cells hg hi hold h1];exact hK _ _ h
end
theorem rP (l:List Int):(xG l).toList=l.map λx=>Value.int .u64 x:=by simp[xG]
theorem xCx {t:TypeId} {W:World} {g:Nat} {x z:List Int} (h:uR t W g (x++z)):∀j v,(xG x).toList[j]?=some v->W.cell? ⟨g,0+j,none⟩=some v:=by
 intro j v hv;rw[rP] at hv;rw[Nat.zero_add,xA h.blk];simp only[xG,List.map_append,gA]
 rw[List.getElem?_append_left (by
  have:=(List.getElem?_eq_some_iff.1 hv).1;exact this)]
 exact hv
theorem xCw {t:TypeId} {W:World} {g:Nat} {x z:List Int} (h:uR t W g (x++z)) (hx:x.length=5):∀j v,(xG z).toList[j]?=some v->W.cell? ⟨g,5+j,none⟩=some v:=by
 intro j v hv;rw[rP] at hv;rw[xA h.blk];simp only[xG,List.map_append,gA];rw[List.getElem?_append_right (by simp[hx])];simpa[hx] using hv
theorem xVe (x z x':List Int) (hx:x.length=5) (hx':x'.length=5):((xG (x++z)).toList.take 0++(xG x').toList++(xG (x++z)).toList.drop (0+(xG x').size)).toArray=xG (x'++z):=by
 rw[xV,hx',rP,rP];simp only[List.take_zero,List.nil_append,xG,List.map_append];rw[List.drop_append_of_le_length (by simp[hx]),List.drop_of_length_le (by simp[hx])];simp
theorem xVd (x z z':List Int) (hx:x.length=5) (hz:z.length=5) (hz':z'.length=5):((xG (x++z)).toList.take 5++(xG z').toList++(xG (x++z)).toList.drop (5+(xG z').size)).toArray=xG (x++z'):=by
 rw[xV,hz',rP,rP];simp only[xG,List.map_append];rw[List.take_append_of_le_length (by simp[hx]),List.take_of_length_le (by simp[hx]),List.drop_of_length_le (by simp[hx,hz])];simp
theorem yA5 {x z:List Int} (h:x.length=5) (h2:z.length=5):(prog.info? 218).map (·.size)=some (xG (x++z)).size:=by rw[xV,List.length_append,h,h2];kernel_rfl
theorem xQs (w:World):Calls prog 155 #[] w λe w'=>e=.returned (.string xKc)/\ψ w w':=by
 have HB:Hid (ψ w (w.alloc (.cells (yE ((xP 32).set 0 9)) 299))):=ι (φ w _);have HT:=xCd (t:=299) (xM w (.cells (yE ((xP 32).set 0 9)) 299)) 32 32 rfl;go_enter func155,ntmps155;go_upto_region 3 with fail
 refine(λ(h:∀W3,Hid (ψ w W3/\(convert 125 9 (.slice (some ⟨w.heap.size,0,none⟩) 32 32)).run prog W3=.ok (.string xKc) W3)->Code.wp _ _ _ _ W3)=>h _ (ι ⟨HB.o,HT⟩)) ?_;clear HB HT;intro W3 H3;have ht:=H3.o.2;go_wp2;go_ret;exact⟨rfl,H3.o.1⟩
theorem xXn (s:ByteArray) (w:World) (hs:s.size≠32):
  Calls prog 156 #[.string s] w λe w'=>e=.returned (.tuple #[.string ⟨#[]⟩,.bool false])/\w'=w:=by
 have hsi:(s.size:Int)≠32:=ω;have hsb:((s.size:Int)!=32)=true:=by simp;omega
 clear hs;go_enter func156,ntmps156;go_wp2;go_ret2;exact⟨rfl,rfl⟩
theorem xD3 (s:ByteArray) (w:World) (hs:s.size=32):
  Calls prog 156 #[.string s] w λe w'=>e=.returned (.tuple #[.string (xD4 s),.bool true])/\ψ w w':=by
 have hsi:(s.size:Int)=32:=ω;have xJx:=λW=>Lib.run_convert_string_bytes (P:=prog) W 9 125 5 s underlying9 underlying125 underlying5
 have H0:Hid (PaI w w.heap.size s.data.toList (Lib.bytesWorld w 5 s)):=ι ⟨xMx.start w s,(Below.refl w.heap.size w).trans ⟨rfl,rfl,rfl,by rw[Lib.bytesWorld_size];omega,λk hk=>Lib.bytesWorld_at_old _ _ _ k hk⟩,Nat.le_refl _,by rw[Lib.bytesWorld_size];omega⟩
 have HR:Hid (xD4 s=bsA (((s.data.toList.set 0 (oct (bits .and .u8 ((s.data.toList.getD 0 0).toNat:Int) 248))).set 31 (oct (bits .and .u8 ((s.data.toList.getD 31 0).toNat:Int) 127))).set 31 (oct (bits .or .u8 (bits .and .u8 ((s.data.toList.getD 31 0).toNat:Int) 127) 64)))):=ι rfl
 have hll:s.data.toList.length=32:=by simpa using hs
 obtain⟨res,hres⟩:∃x,xD4 s=x:=⟨_,rfl⟩;rw[hres] at HR⊢;clear hres;go_enter func156,ntmps156;go_upto_region 4 with fail
 have hcap:32<=grownCap w 32 0 5:=grownCap_ge _ _ _ _;generalize grownCap w 32 0 5=cap at hcap⊢;generalize Lib.bytesWorld w 5 s=W0 at H0⊢;generalize s.data.toList=l at H0 HR hll;clear xJx hs hsi;have q0:=H0.o.o.cell 0 ω;have f0:=H0.o.o.free 0 ω;have u0:=(l.getD 0 0).toNat_lt
 have u1:=(l.getD 31 0).toNat_lt;have hz0:=xAz .and ((l.getD 0 0).toNat:Int) 248;have H1:=ι (H0.o.put (p:=0) ω hz0.1 hz0.2)
 have hx31:(l.set 0 (oct (bits .and .u8 ((l.getD 0 0).toNat:Int) 248))).getD 31 0=l.getD 31 0:=by rw[List.getD_eq_getElem?_getD,List.getElem?_set,if_neg δ,<-List.getD_eq_getElem?_getD]
 have hl1:(l.set 0 (oct (bits .and .u8 ((l.getD 0 0).toNat:Int) 248))).length=32:=by rw[List.length_set,hll]
 generalize l.set 0 (oct (bits .and .u8 ((l.getD 0 0).toNat:Int) 248))=l1 at H1 HR hx31 hl1;obtain⟨a,ha⟩:∃a:Int,((l.getD 0 0).toNat:Int)=a:=⟨_,rfl⟩;obtain⟨b,hb⟩:∃b:Int,((l.getD 31 0).toNat:Int)=b:=⟨_,rfl⟩;have a0:0<=a:=ω;have a1:a<256:=ω;have b0:0<=b:=ω;have b1:b<256:=ω
 rw[ha] at q0 H1;rw[hb] at HR;have HB:=ι hb;have HX:=ι hx31;have HL1:=ι hl1;clear hz0 u0 u1 H0 ha hb hx31 hl1 hll;go_upto_region 5 with fail
 clear q0 f0;refine(λ(h:∀W3,Hid (PaI w w.heap.size l1 W3)->Code.wp _ _ _ _ W3)=>h _ H1) ?_;clear H1;intro W1 H1;have q0:=H1.o.o.cell 31 (by rw[HL1.o];decide);rw[HX.o,HB.o] at q0;have f0:=H1.o.o.free 31 (by rw[HL1.o];decide);have hz1:=xAz .and b 127
 have H2:=ι (H1.o.put (p:=31) (by rw[HL1.o];decide) hz1.1 hz1.2);obtain⟨c,hc⟩:∃c,bits .and .u8 b 127=c:=⟨_,rfl⟩;rw[hc] at H2 HR hz1
 have HE:Hid ((((l1.set 31 (oct c)).getD 31 0).toNat:Int)=c):=ι (by
  rw[List.getD_eq_getElem?_getD,List.getElem?_set,if_pos rfl,if_pos (by rw[HL1.o];decide)];simp only[Option.getD_some];rw[qK];omega)
 have hl2:(l1.set 31 (oct c)).length=32:=by rw[List.length_set,HL1.o]
 generalize l1.set 31 (oct c)=l2 at H2 HR HE hl2;have HL2:=ι hl2;obtain⟨c0,c1⟩:=hz1;clear hl2 H1;go_upto_region 6 with fail
 clear q0 f0 hc;refine(λ(h:∀W3,Hid (PaI w w.heap.size l2 W3)->Code.wp _ _ _ _ W3)=>h _ H2) ?_;clear H2;intro W2 H2;have q0:=H2.o.o.cell 31 (by rw[HL2.o];decide);rw[HE.o] at q0;have f0:=H2.o.o.free 31 (by rw[HL2.o];decide);have hz2:=xAz .or c 64
 have H3:=ι (H2.o.put (p:=31) (by rw[HL2.o];decide) hz2.1 hz2.2);have hl3:(l2.set 31 (oct (bits .or .u8 c 64))).length=32:=by rw[List.length_set,HL2.o]
 generalize l2.set 31 (oct (bits .or .u8 c 64))=l3 at H3 HR hl3;have ht:=H3.o.o.text 32 cap hl3;rw[<-HR.o] at ht;clear H2 hz2 hl3;go_wp2;go_ret2;exact⟨rfl,H3.o.bel⟩
end Go.Proofs.FE
/- Contracts of functions of the program. Conditions: those that each theorem states. -/
import Derived.Test.YtnaiekglbemhcaaGreatDoorVaultFreshProofB26
import Derived.Test.YtnaiekglbemhcaaGreatDoorVaultFreshProofB07
set_option maxHeartbeats 8000000
set_option maxRecDepth 100000
namespace Mailsack
def yF (y : Int) (k : Nat) : Int := if 5 ≤ k then Go.IntKind.u64.wrap (y * 19) else y
theorem yF_u {y : Int} (h : U64 y) (k : Nat) : U64 (yF y k) := by
 unfold yF
 split
 ·exact wrap_u64 _
 ·exact h
def mT (x y : Int) (k : Nat) (s : List Int × List Int) : List Int × List Int :=
 (s.1.set k (Go.IntKind.u64.wrap (s.1.getD k 0 + Go.IntKind.u64.wrap (x * y / 18446744073709551616 + (s.2.getD k 0 + x * y % 18446744073709551616) / 18446744073709551616))),s.2.set k ((s.2.getD k 0 + x * y % 18446744073709551616) % 18446744073709551616))
def mS (x : Int) (i : Nat) (b : List Int) (s : List Int × List Int) : Nat → List Int × List Int
 | 0 => s
 | j + 1 => mT x (yF (b.getD j 0) (i + j)) (kK (i + j)) (mS x i b s j)
def mI (a b : List Int) : Nat → List Int × List Int
 | 0 => (List.replicate 5 0,List.replicate 5 0)
 | i + 1 => mS (a.getD i 0) i b (mI a b i) 5
def xO5 (s : List Int × List Int) : Prop := s.1.length = 5 ∧ s.2.length = 5 ∧ yV s.1 ∧ yV s.2
theorem mT_ok (x y : Int) (k : Nat) {s : List Int × List Int} (h : xO5 s) : xO5 (mT x y k s) := by
 obtain ⟨h1,h2,h3,h4⟩ := h
 exact ⟨by simp [mT,h1],by simp [mT,h2],h3.set k (wrap_u64 _),h4.set k (xE5 _)⟩
theorem yB2 (x : Int) (i : Nat) (b : List Int) {s : List Int × List Int} (h : xO5 s) : ∀ j,xO5 (mS x i b s j)
 | 0 => h
 | j + 1 => mT_ok _ _ _ (yB2 x i b h j)
theorem yB3 (a b : List Int) : ∀ i,xO5 (mI a b i)
 | 0 => ⟨by simp [mI],by simp [mI],xC4 5,xC4 5⟩
 | i + 1 => yB2 _ _ _ (yB3 a b i) 5
def prC (hi lo : List Int) (k : Nat) : Int := Go.bits .or .u64 (Go.IntKind.u64.wrap (hi.getD k 0 * 8192)) (lo.getD k 0 / 2251799813685248)
def prA (lo p : List Int) (k : Nat) : List Int := p.set k (Go.IntKind.u64.wrap (p.getD k 0 + Go.bits .and .u64 (lo.getD k 0) 2251799813685247))
def prI (hi lo : List Int) : Nat → List Int
 | 0 => List.replicate 5 0
 | k + 1 => if k + 1 < 5 then (prA lo (prI hi lo k) k).set (k + 1) (Go.IntKind.u64.wrap ((prA lo (prI hi lo k) k).getD (k + 1) 0 + prC hi lo k)) else (prA lo (prI hi lo k) k).set 0 (Go.IntKind.u64.wrap ((prA lo (prI hi lo k) k).getD 0 0 + Go.IntKind.u64.wrap (19 * prC hi lo k)))
theorem xTv (lo p : List Int) (k : Nat) : (prA lo p k).length = p.length := by simp [prA]
theorem yAp (lo : List Int) {p : List Int} (h : yV p) (k : Nat) : yV (prA lo p k) := h.set k (wrap_u64 _)
theorem xMw (hi lo : List Int) : ∀ k,(prI hi lo k).length = 5
 | 0 => by simp [prI]
 | k + 1 => by
  rw [prI]
  split <;> simp [xTv,xMw hi lo k]
theorem xXe (hi lo : List Int) : ∀ k,yV (prI hi lo k)
 | 0 => xC4 5
 | k + 1 => by
  rw [prI]
  split
  ·exact (yAp lo (xXe hi lo k) k).set _ (wrap_u64 _)
  ·exact (yAp lo (xXe hi lo k) k).set _ (wrap_u64 _)
def xZt (s : List Int × List Int) : List Int := zR (prI s.1 s.2 5)
def uX (a b : List Int) : List Int := xZt (mI (zR a) (zR b) 5)
theorem vK (a b : List Int) : (uX a b).length = 5 := rfl
theorem tY (a b : List Int) : yV (uX a b) := wX _
end Mailsack
namespace Go.Proofs.FE
open Go.RowKit Mailsack MM BB SH
theorem xUd (x y : Int) (hx : U64 x) (hy : U64 y) (w : World) :
  Calls Tryz.prog 167 #[.int .u64 x,.int .u64 y] w fun e w' => e = .returned (.tuple #[.int .u64 (x * y / 18446744073709551616),.int .u64 (x * y % 18446744073709551616)]) ∧ w' = w := by
 obtain ⟨x0,x1⟩ := hx
 obtain ⟨y0,y1⟩ := hy
 have h := Tryz.bits_Mul64 x.toNat y.toNat (by omega) (by omega) w
 have e1 : ((x.toNat : Nat) : Int) = x := by omega
 have e2 : ((y.toNat : Nat) : Int) = y := by omega
 have e3 : ((x.toNat * y.toNat / 18446744073709551616 : Nat) : Int) = x * y / 18446744073709551616 := by rw [Int.natCast_ediv,Int.natCast_mul,e1,e2]; rfl
 have e4 : ((x.toNat * y.toNat % 18446744073709551616 : Nat) : Int) = x * y % 18446744073709551616 := by rw [Int.natCast_emod,Int.natCast_mul,e1,e2]; rfl
 rw [e1,e2,e3,e4] at h
 exact h
structure MuM (w : World) (na nb : List Int) (g : Nat) (s : List Int × List Int) (W : World) : Prop where
 two : wD w na nb W
 bh : uY 209 W g s.1
 bl : uY 209 W (g + 1) s.2
 ge : w.heap.size + 3 ≤ g
section
variable {w W W' : World} {na nb : List Int} {g : Nat} {s : List Int × List Int}
theorem MuM.below (h : MuM w na nb g s W) (hb : Below W.heap.size W W') : MuM w na nb g s W' := ⟨h.two.below hb,h.bh.below hb,h.bl.below hb,h.ge⟩
theorem wD.far (h : wD w na nb W) {p : Addr} (hp : w.heap.size + 3 ≤ p.block) (u : Value) : wD w na nb (W.setCell p u) :=
 ⟨h.ba.far (by omega) u,h.bb.far (by omega) u,h.bz.far (by omega) u,h.bel.setCell (by omega) u⟩
theorem MuM.lo (h : MuM w na nb g s W) (k : Nat) (x : Int) : MuM w na nb g (s.1,s.2.set k x) (W.setCell ⟨g + 1,k,none⟩ (.int .u64 x)) := by
 have hg := h.ge
 exact ⟨h.two.far (p := ⟨g + 1,k,none⟩) (by simp only []; omega) _,h.bh.far (p := ⟨g + 1,k,none⟩) (by simp) _,h.bl.put k x,hg⟩
theorem MuM.hi (h : MuM w na nb g s W) (k : Nat) (x : Int) : MuM w na nb g (s.1.set k x,s.2) (W.setCell ⟨g,k,none⟩ (.int .u64 x)) := by
 have hg := h.ge
 exact ⟨h.two.far (p := ⟨g,k,none⟩) (by simp only []; omega) _,h.bh.put k x,h.bl.far (p := ⟨g,k,none⟩) (by simp) _,hg⟩
end
structure PrM (w : World) (na nb : List Int) (g : Nat) (s : List Int × List Int) (gp : Nat) (p : List Int) (W : World) : Prop where
 mu : MuM w na nb g s W
 bp : uY 210 W gp p
 gt : g + 1 < gp
section
variable {w W W' : World} {na nb : List Int} {g gp : Nat} {s : List Int × List Int} {p : List Int}
theorem PrM.below (h : PrM w na nb g s gp p W) (hb : Below W.heap.size W W') : PrM w na nb g s gp p W' := ⟨h.mu.below hb,h.bp.below hb,h.gt⟩
theorem PrM.drew (h : PrM w na nb g s gp p W) : PrM w na nb g s gp p W.drew := ⟨⟨h.mu.two.drew,h.mu.bh,h.mu.bl,h.mu.ge⟩,h.bp,h.gt⟩
theorem PrM.put (h : PrM w na nb g s gp p W) (k : Nat) (x : Int) : PrM w na nb g s gp (p.set k x) (W.setCell ⟨gp,k,none⟩ (.int .u64 x)) := by
 have hg := h.mu.ge
 have hp := h.gt
 exact ⟨⟨h.mu.two.far (p := ⟨gp,k,none⟩) (by simp only []; omega) _,h.mu.bh.far (p := ⟨gp,k,none⟩) (by simp only []; omega) _,h.mu.bl.far (p := ⟨gp,k,none⟩) (by simp only []; omega) _,hg⟩,h.bp.put k x,hp⟩
end
theorem rT (ax bx : List Int) (w : World) (hl : ax.length = 5) (hu : yV ax) (hl2 : bx.length = 5) (hu2 : yV bx) :
  Calls Tryz.prog 147 #[.agg (xG ax),.agg (xG bx)] w fun e w' => e = .returned (.agg (xG (uX ax bx))) ∧ Below w.heap.size w w' := by
 have HNa := hI' (fun W => wO ax W hl hu)
 have HNb := hI' (fun W => wO bx W hl2 hu2)
 have HIa := hI' (uN hl)
 have HIb := hI' (uN hl2)
 have xZ3 := hI' (uN (zN ax))
 have xZ2 := hI' (uN (zN bx))
 have HZa := hI' (xAq hl (zN ax))
 have HZb := hI' (xAq hl2 (zN bx))
 have hna := zN ax
 have hnb := zN bx
 have hua := wX ax
 have hub := wX bx
 have H0 := hI' (wD.start (w := w) ax bx)
 have HR : Hid (∀ n,n = 5 → uX ax bx = xZt (mI (zR ax) (zR bx) n)) := hI' (fun n hn => by rw [hn]; rfl)
 obtain ⟨res,hres⟩ : ∃ x,uX ax bx = x := ⟨_,rfl⟩
 have hrl : res.length = 5 := by rw [← hres]; rfl
 rw [hres] at HR ⊢
 clear hres hl hu hl2 hu2
 generalize zR ax = na at HNa xZ3 HZa hna hua HR
 generalize zR bx = nb at HNb xZ2 HZb hnb hub HR
 go_enter Tryz.func147,Tryz.ntmps147
 go_upto_region 1 with fail
 refine (fun (h : ∀ W3,Hid (wD w ax bx W3) → Code.wp _ _ _ _ W3) => h _ H0) ?_
 clear H0
 intro W0 H0
 refine RG.yN 6 (fun L W => Hid (wD w (if L 4 then na else ax) (if L 5 then nb else bx) W)) (fun L L' W h hI => by rw [← h 4 (by decide),← h 5 (by decide)]; exact hI) (by kernel_rfl) (by kernel_rfl) rfl (hI' H0.out.drew) ?_
 clear H0
 apply RG.xJ
 ·rfl
 ·rfl
 ·intro L w9 h0 hcl xH hw9
  have e1 := hcl.not 6 (i := 4) h0 (by kernel_rfl)
  have hs9 := hw9.out.ba
  rw [e1,if_neg (by simp)] at hs9
  refine wpList_load_row rfl _ _ rfl w.heap.size rfl _ (xG ax) (0,0) _ hs9 Tryz.underlying210 rfl HIa.out ?_
  repeat go_step
  with_reducible refine RG.xB ?_
  exact ⟨xH,hw9⟩
 ·rfl
 apply RG.xJ
 ·rfl
 ·rfl
 ·intro L w9 h0 hcl xH hw9
  repeat go_step
  refine (HNa.out _).mono ?_
  rintro e w10 ⟨rfl,yA⟩
  simp only []
  repeat go_step
  with_reducible refine RG.xB ?_
  exact ⟨xH,hI' (hw9.out.below yA)⟩
 ·rfl
 apply RG.xJ
 ·rfl
 ·rfl
 ·intro L w9 h0 hcl xH hw9
  have e1 := hcl.not 6 (i := 5) h0 (by kernel_rfl)
  have hs9 := hw9.out.bb
  rw [e1,if_neg (by simp)] at hs9
  refine wpList_load_row rfl _ _ rfl (w.heap.size + 1) rfl _ (xG bx) (0,0) _ hs9 Tryz.underlying210 rfl HIb.out ?_
  repeat go_step
  with_reducible refine RG.xB ?_
  exact ⟨xH,hw9⟩
 ·rfl
 apply RG.xJ
 ·rfl
 ·rfl
 ·intro L w9 h0 hcl xH hw9
  repeat go_step
  refine (HNb.out _).mono ?_
  rintro e w10 ⟨rfl,yA⟩
  simp only []
  repeat go_step
  with_reducible refine RG.xB ?_
  exact ⟨xH,hI' (hw9.out.below yA)⟩
 ·rfl
 apply RG.xJ
 ·rfl
 ·rfl
 ·intro L w9 h0 hcl xH hw9
  have hs9 := hw9.out
  rw [h0,if_neg (by simp)] at hs9
  refine wpList_store_row rfl _ _ _ rfl w.heap.size (xG na) rfl rfl _ _ hs9.ba xZ3.out HZa.out (xS _) ?_
  repeat go_step
  with_reducible refine RG.xB ?_
  exact ⟨xH,hI' (hs9.rowA na)⟩
 ·rfl
 apply RG.xJ
 ·rfl
 ·rfl
 ·intro L w9 h0 hcl xH hw9
  have hs9 := hw9.out
  rw [h0,if_neg (c := false = true) (by simp)] at hs9
  refine wpList_store_row rfl _ _ _ rfl (w.heap.size + 1) (xG nb) rfl rfl _ _ hs9.bb xZ2.out HZb.out (xS _) ?_
  repeat go_step
  with_reducible refine RG.xB ?_
  exact ⟨xH,hI' (hs9.rowB nb)⟩
 ·rfl
 refine RG.yP (fun w9 hw9 => ?_)
 rw [if_pos rfl,if_pos rfl] at hw9
 have HS0 : Hid (xO5 (mI na nb 0)) := hI' (yB3 na nb 0)
 have HG : Hid (w.heap.size + 3 ≤ w9.heap.size) := hI' (by have := xI hw9.out.bz; omega)
 have H1 : Hid (MuM w na nb w9.heap.size (mI na nb 0) ((w9.alloc (.cells (xG (List.replicate 5 0)) 209)).alloc (.cells (xG (List.replicate 5 0)) 209))) := hI' ⟨(hw9.out.below ((Below.refl w9.heap.size w9).alloc (Nat.le_refl _) (.cells (xG (List.replicate 5 0)) 209))).below ((Below.refl _ _).alloc (Nat.le_refl _) _),zQ _ _ _,zM _ _ _,HG.out⟩
 have HL := hI' (fun i => yB3 na nb i)
 have HPS : Hid (∀ i n,n = 5 → mI na nb (i + 1) = mS (na.getD i 0) i nb (mI na nb i) n) := hI' (fun i n hn => by rw [hn]; rfl)
 go_upto_region 3 with fail
 refine (fun (h : ∀ W3,Hid (MuM w na nb w9.heap.size (mI na nb 0) W3) → Code.wp _ _ _ _ W3) => h _ H1) ?_
 clear H1 HG hw9
 generalize w9.heap.size = g
 intro W1 H1
 refine wp_region_lit ?_
 refine wpList_load_row rfl _ _ rfl w.heap.size rfl _ (xG na) (0,0) _ H1.out.two.ba Tryz.underlying210 rfl xZ3.out ?_
 go_wp2_with fail
 go_loopw [23] (fun iv W => ∃ i : Nat,i ≤ 5 ∧ iv = .int .i64 i ∧ Hid (MuM w na nb g (mI na nb i) W)) (fun iv _ => 5 - (intOf iv).toNat)
 case atStart => exact ⟨0,by decide,rfl,H1⟩
 case round =>
  clear H1
  rename World => wi
  obtain ⟨i,hi,rfl,hr⟩ := hrel
  by_cases hlt : i < 5
  ·have HS := hI' (HPS.out i)
   have hl0 := HL.out i
   obtain ⟨x,hx⟩ : ∃ x,na.getD i 0 = x := ⟨_,rfl⟩
   have ux := hua i
   rw [hx] at ux HS
   have ix := fun W => kD (P := Tryz.prog) Tryz.underlying210 Tryz.underlying208 (by kernel_rfl) (xG na) (.int .u64 x) i hlt (by rw [xBm (by omega),hx]) W
   obtain ⟨d1,hd1⟩ : ∃ d,mI na nb (i + 1) = d := ⟨_,rfl⟩
   rw [hd1] at HS
   have HD1 := hI' hd1
   clear hd1
   generalize mI na nb i = d0 at hr hl0 HS
   have HT0 : Hid (MuM w na nb g (mS x i nb d0 0) wi) := hI' hr.out
   have HTS : Hid (∀ j,mS x i nb d0 (j + 1) = mT x (yF (nb.getD j 0) (i + j)) (kK (i + j)) (mS x i nb d0 j)) := hI' (fun j => rfl)
   have HTL : Hid (∀ j,xO5 (mS x i nb d0 j)) := hI' (fun j => yB2 _ _ _ hl0 j)
   have HX := hI' ux
   have HBU := hI' hub
   have hrr := hr
   have HUA := hI' hua
   clear hr hx ux hl0 hua hub
   go_upto_region 6 with fail
   clear ix
   refine wp_region_lit ?_
   refine wpList_load_row rfl _ _ rfl (w.heap.size + 1) rfl _ (xG nb) (0,0) _ hrr.out.two.bb Tryz.underlying210 rfl xZ2.out ?_
   clear hrr
   go_wp2_with fail
   go_loopw [28] (fun jv W => ∃ j : Nat,j ≤ 5 ∧ jv = .int .i64 j ∧ Hid (MuM w na nb g (mS x i nb d0 j) W)) (fun jv _ => 5 - (intOf jv).toNat)
   case atStart => exact ⟨0,by decide,rfl,HT0⟩
   case round =>
    clear HT0
    rename World => wj
    obtain ⟨j,hj,rfl,hr⟩ := hrel
    by_cases hlt2 : j < 5
    ·have hTS := HTS.out j
     obtain ⟨hTL1,hTL2,hTU1,hTU2⟩ := HTL.out j
     obtain ⟨t1,ht1⟩ : ∃ t,mS x i nb d0 (j + 1) = t := ⟨_,rfl⟩
     rw [ht1] at hTS
     have HT1 := hI' ht1
     clear ht1
     generalize mS x i nb d0 j = t0 at hr hTS hTL1 hTL2 hTU1 hTU2
     obtain ⟨y,hy⟩ : ∃ y,nb.getD j 0 = y := ⟨_,rfl⟩
     have uy := HBU.out j
     rw [hy] at uy hTS
     have uyf := yF_u uy (i + j)
     have ix := fun W => kD (P := Tryz.prog) Tryz.underlying210 Tryz.underlying208 (by kernel_rfl) (xG nb) (.int .u64 y) j hlt2 (by rw [xBm (by omega),hy]) W
     have hK : kK (i + j) < 5 := by unfold kK; split <;> omega
     have h1 := hTU1 (kK (i + j))
     have h2 := hTU2 (kK (i + j))
     unfold mT at hTS
     obtain ⟨yy,hyy⟩ : ∃ yy,yF y (i + j) = yy := ⟨_,rfl⟩
     rw [hyy] at uyf hTS
     obtain ⟨x0,x1⟩ := HX.out
     obtain ⟨y0,y1⟩ := uyf
     have HM : Hid (∀ W,Calls Tryz.prog 167 #[.int .u64 x,.int .u64 yy] W fun e w' => e = .returned (.tuple #[.int .u64 (x * yy / 18446744073709551616),.int .u64 (x * yy % 18446744073709551616)]) ∧ w' = W) := hI' (fun W => xUd x yy ⟨x0,x1⟩ ⟨y0,y1⟩ W)
     have hpl := xE5 (x * yy)
     have hph : 0 ≤ x * yy / 18446744073709551616 ∧ x * yy / 18446744073709551616 < 18446744073709551616 := by
      have m0 : 0 ≤ x * yy := Int.mul_nonneg x0 y0
      have m1 : x * yy ≤ 18446744073709551615 * 18446744073709551615 := Int.mul_le_mul (by omega) (by omega) y0 (by decide)
      omega
     generalize x * yy / 18446744073709551616 = ph at HM hTS hph
     generalize x * yy % 18446744073709551616 = pl at HM hTS hpl
     generalize hk : kK (i + j) = k at hK h1 h2 hTS
     have q0 := hr.out.bl.cell (i := k) (by omega)
     have q1 := hr.out.bh.cell (i := k) (by omega)
     have f0 := hr.out.bl.free k
     have f1 := hr.out.bh.free k
     obtain ⟨l,hlv⟩ : ∃ l,t0.2.getD k 0 = l := ⟨_,rfl⟩
     obtain ⟨hh,hhv⟩ : ∃ l,t0.1.getD k 0 = l := ⟨_,rfl⟩
     rw [hlv] at q0 h2 hTS
     rw [hhv] at q1 h1 hTS
     obtain ⟨l0,l1⟩ := h2
     obtain ⟨hh0,hh1⟩ := h1
     obtain ⟨p0,p1⟩ := hpl
     obtain ⟨r0,r1⟩ := hph
     have HP := hI' ((hr.out.lo k ((l + pl) % 18446744073709551616)).hi k (IntKind.u64.wrap (hh + IntKind.u64.wrap (ph + (l + pl) / 18446744073709551616))))
     rw [← hTS] at HP
     have A1 : ∀ W,(callFunc 195 #[.int .u64 l,.int .u64 pl,.int .u64 0]).run Tryz.prog W = .ok (.value (.tuple #[.int .u64 ((l + pl) % 18446744073709551616),.int .u64 ((l + pl) / 18446744073709551616)])) W := fun W => by
      have h := yC7 l pl 0 l0 p0 (by decide) (by decide) W
      rw [Int.add_zero] at h
      exact h
     have hc0 : 0 ≤ (l + pl) / 18446744073709551616 := by omega
     have hc1 : (l + pl) / 18446744073709551616 < 18446744073709551616 := by omega
     obtain ⟨ls0,ls1⟩ := xE5 (l + pl)
     generalize (l + pl) % 18446744073709551616 = ls at HP A1 ls0 ls1
     generalize (l + pl) / 18446744073709551616 = cs at HP A1 hc0 hc1
     clear hTS hr hlv hhv hy l0 l1 hTL1 hTL2 hTU1 hTU2 uy
     by_cases h5 : 5 ≤ i + j
     ·have hk5 : kK (i + j) = i + j - 5 := if_pos h5
      have hy5 : yF y (i + j) = IntKind.u64.wrap (y * 19) := if_pos h5
      rw [hyy] at hy5
      rw [hk] at hk5
      have hii : (i : Int) + (j : Int) = (k : Int) + 5 := by omega
      have h5i : (5 : Int) ≤ (k : Int) + 5 := by omega
      have HY5 := hI' hy5.symm
      clear hk5 h5 hy5 hk hyy
      go_upto_region 13 with fail
      rw [HY5.out]
      go_wp2_with fail
      refine (HM.out _).mono ?_
      rintro e w3 ⟨rfl,rfl⟩
      go_wp2
      exact ⟨⟨j + 1,by omega,by go_num,by rw [HT1.out]; exact HP⟩,by simp [intOf]; omega⟩
     ·have hk5 : kK (i + j) = i + j := if_neg h5
      have hy5 : yF y (i + j) = y := if_neg h5
      rw [hyy] at hy5
      rw [hk] at hk5
      have hii : (i : Int) + (j : Int) = (k : Int) := by omega
      have h5i : ¬ ((5 : Int) ≤ (k : Int)) := by omega
      subst hy5
      clear hk5 h5 hk hyy
      go_upto_region 13 with fail
      go_wp2_with fail
      refine (HM.out _).mono ?_
      rintro e w3 ⟨rfl,rfl⟩
      go_wp2
      exact ⟨⟨j + 1,by omega,by go_num,by rw [HT1.out]; exact HP⟩,by simp [intOf]; omega⟩
    ·have hje : j = 5 := by omega
     have hneg : ¬ ((j : Int) < 5) := by omega
     have HS1 := hI' (HS.out j hje)
     clear hje hlt2 hj HTS HTL HS
     go_wp2
     exact ⟨⟨i + 1,by omega,by go_num,by rw [HD1.out,HS1.out]; exact hr⟩,by simp [intOf]; omega⟩
  ·have hie : i = 5 := by omega
   have hneg : ¬ ((i : Int) < 5) := by omega
   have HP := hI' (HR.out i hie)
   obtain ⟨hs1,hs2,hs3,hs4⟩ := HL.out i
   generalize mI na nb i = s at hr HP hs1 hs2 hs3 hs4
   have HE : Hid (∀ n,n = 5 → res = zR (prI s.1 s.2 n)) := hI' (fun n hn => by rw [hn]; exact HP.out)
   clear HP HPS HR HL hie HNa HNb hua hub
   have H5 : Hid (PrM w na nb g s wi.heap.size (prI s.1 s.2 0) (wi.alloc (.cells (xG (List.replicate 5 0)) 210))) := hI' ⟨hr.out.below ((Below.refl wi.heap.size wi).alloc (Nat.le_refl _) _),xM _ _,xI hr.out.bl⟩
   go_upto_region 20 with fail
   refine (fun (h : ∀ W3,Hid (PrM w na nb g s wi.heap.size (prI s.1 s.2 0) W3) → Code.wp _ _ _ _ W3) => h _ H5) ?_
   clear H5 hr hneg hlt hi
   generalize wi.heap.size = gp
   intro W5 H5
   go_wp2_with fail
   go_loopw [67] (fun kv W => ∃ k : Nat,k ≤ 5 ∧ kv = .int .i64 k ∧ Hid (PrM w na nb g s gp (prI s.1 s.2 k) W)) (fun kv _ => 5 - (intOf kv).toNat)
   case atStart => exact ⟨0,by decide,rfl,H5⟩
   case round =>
    clear H5
    rename World => wk
    obtain ⟨k,hk,rfl,hr⟩ := hrel
    by_cases hlk : k < 5
    ·have hpl := xMw s.1 s.2 k
     have hpu := xXe s.1 s.2 k
     have HC : Hid (prC s.1 s.2 k = bits .or .u64 (IntKind.u64.wrap (s.1.getD k 0 * 8192)) (s.2.getD k 0 / 2251799813685248)) := hI' rfl
     obtain ⟨h,hh⟩ : ∃ h,s.1.getD k 0 = h := ⟨_,rfl⟩
     obtain ⟨l,hl⟩ : ∃ l,s.2.getD k 0 = l := ⟨_,rfl⟩
     obtain ⟨h0,h1⟩ := hs3 k
     obtain ⟨l0,l1⟩ := hs4 k
     rw [hh] at h0 h1 HC
     rw [hl] at l0 l1 HC
     have HA : Hid (prA s.2 (prI s.1 s.2 k) k = (prI s.1 s.2 k).set k (IntKind.u64.wrap ((prI s.1 s.2 k).getD k 0 + bits .and .u64 l 2251799813685247))) := hI' (by rw [← hl]; rfl)
     have hal := xTv s.2 (prI s.1 s.2 k) k
     have hau := yAp s.2 hpu k
     have HSt : Hid (∀ j,j = k + 1 → prI s.1 s.2 j = if j < 5 then (prA s.2 (prI s.1 s.2 k) k).set j (IntKind.u64.wrap ((prA s.2 (prI s.1 s.2 k) k).getD j 0 + prC s.1 s.2 k)) else (prA s.2 (prI s.1 s.2 k) k).set 0 (IntKind.u64.wrap ((prA s.2 (prI s.1 s.2 k) k).getD 0 0 + IntKind.u64.wrap (19 * prC s.1 s.2 k)))) := hI' (fun j hj => by rw [hj]; rfl)
     obtain ⟨c,hc⟩ : ∃ c,prC s.1 s.2 k = c := ⟨_,rfl⟩
     rw [hc] at HC HSt
     have hcu : U64 c := by rw [HC.out]; exact zH _ _ _
     obtain ⟨c0,c1⟩ := hcu
     have hcc := HC.out.symm
     obtain ⟨pa,hpa⟩ : ∃ pa,prA s.2 (prI s.1 s.2 k) k = pa := ⟨_,rfl⟩
     rw [hpa] at HA hal hau HSt
     generalize prI s.1 s.2 k = p0 at hr hpl hpu HA hal
     clear hpa hc
     obtain ⟨x,hx⟩ : ∃ x,p0.getD k 0 = x := ⟨_,rfl⟩
     obtain ⟨x0,x1⟩ := hpu k
     rw [hx] at x0 x1 HA
     obtain ⟨m,hm⟩ : ∃ m,bits .and .u64 l 2251799813685247 = m := ⟨_,rfl⟩
     obtain ⟨m0,m1⟩ := hm ▸ zH .and l 2251799813685247
     rw [hm] at HA
     obtain ⟨z,hz⟩ : ∃ z,IntKind.u64.wrap (x + m) = z := ⟨_,rfl⟩
     rw [hz] at HA
     go_upto_region 23 with fail
     refine RG.xR (fun W => Hid (PrM w na nb g s gp p0 W)) (by kernel_rfl) (by kernel_rfl) (hI' hr.out.drew) ?_
     iterate 10
      apply RG.xC
      ·intro w9 hw9
       have q1 := hw9.out.mu.bh.cell (i := k) (by omega)
       have q2 := hw9.out.mu.bl.cell (i := k) (by omega)
       rw [hh] at q1
       rw [hl] at q2
       repeat go_step
       with_reducible exact RG.xB hw9
      ·rfl
     refine RG.xW (fun w9 hw9 => ?_)
     clear hr
     go_upto_region 24 with fail
     refine RG.yN 10 (fun L W => Hid (PrM w na nb g s gp (if L 9 then p0.set k z else p0) W)) (fun L L' W h hI => by rw [← h 9 (by decide)]; exact hI) (by kernel_rfl) (by kernel_rfl) rfl (hI' hw9.out.drew) ?_
     clear hw9
     iterate 2
      apply RG.xJ
      ·rfl
      ·rfl
      ·intro L w9 h0 hcl xH hw9
       repeat go_step
       with_reducible refine RG.xB ?_
       exact ⟨xH,hw9⟩
      ·rfl
     apply RG.xJ
     ·rfl
     ·rfl
     ·intro L w9 h0 hcl xH hw9
      have e1 := hcl.not 10 (i := 9) h0 (by kernel_rfl)
      have hs9 := hw9.out
      rw [e1,if_neg (by simp)] at hs9
      have q := hs9.bp.cell (i := k) (by omega)
      rw [hx] at q
      clear e1 hs9
      repeat go_step
      with_reducible refine RG.xB ?_
      exact ⟨xH,hw9⟩
     ·rfl
     iterate 2
      apply RG.xJ
      ·rfl
      ·rfl
      ·intro L w9 h0 hcl xH hw9
       repeat go_step
       with_reducible refine RG.xB ?_
       exact ⟨xH,hw9⟩
      ·rfl
     apply RG.xJ
     ·rfl
     ·rfl
     ·intro L w9 h0 hcl xH hw9
      have q2 := hw9.out.mu.bl.cell (i := k) (by omega)
      rw [hl] at q2
      repeat go_step
      with_reducible refine RG.xB ?_
      exact ⟨xH,hw9⟩
     ·rfl
     iterate 3
      apply RG.xJ
      ·rfl
      ·rfl
      ·intro L w9 h0 hcl xH hw9
       repeat go_step
       with_reducible refine RG.xB ?_
       exact ⟨xH,hw9⟩
      ·rfl
     apply RG.xJ
     ·rfl
     ·rfl
     ·intro L w9 h0 hcl xH hw9
      have hs9 := hw9.out
      rw [h0,if_neg (by simp)] at hs9
      have q1 := hs9.bp.cell (i := k) (by omega)
      have q2 := hs9.bp.free k
      rw [hx] at q1
      have hp : Hid (PrM w na nb g s gp (p0.set k z) (w9.setCell ⟨gp,k,none⟩ (.int .u64 z))) := hI' (hs9.put k z)
      clear hs9
      repeat go_step
      with_reducible refine RG.xB ?_
      refine ⟨xH,?_⟩
      show Hid (PrM w na nb g s gp (if (true : Bool) = true then p0.set k z else p0) _)
      rw [if_pos rfl]
      with_reducible exact hp
     ·rfl
     refine RG.yP (fun w9 hw9 => ?_)
     rw [if_pos rfl,← HA.out] at hw9
     clear hx hm hz hcc hh hl h0 h1 l0 l1 x0 x1 m0 m1 HA
     by_cases hk1 : k + 1 < 5
     ·have HN := hI' (HSt.out (k + 1) rfl)
      rw [if_pos hk1] at HN
      have hki : (k : Int) + 1 < 5 := by omega
      have q1 := hw9.out.bp.cell (i := k + 1) (by omega)
      have q2 := hw9.out.bp.free (k + 1)
      have hv := hau (k + 1)
      obtain ⟨v,hvv⟩ : ∃ v,pa.getD (k + 1) 0 = v := ⟨_,rfl⟩
      rw [hvv] at q1 hv HN
      obtain ⟨v0,v1⟩ := hv
      have HF := hI' (hw9.out.put (k + 1) (IntKind.u64.wrap (v + c)))
      rw [← HN.out] at HF
      clear hw9 hk1 hvv HSt HN
      go_wp2
      exact ⟨⟨k + 1,by omega,by go_num,HF⟩,by simp [intOf]; omega⟩
     ·have HN := hI' (HSt.out (k + 1) rfl)
      rw [if_neg hk1] at HN
      have hki : ¬ ((k : Int) + 1 < 5) := by omega
      have q1 := hw9.out.bp.cell (i := 0) (by omega)
      have q2 := hw9.out.bp.free 0
      have hv := hau 0
      obtain ⟨v,hvv⟩ : ∃ v,pa.getD 0 0 = v := ⟨_,rfl⟩
      rw [hvv] at q1 hv HN
      obtain ⟨v0,v1⟩ := hv
      have HF := hI' (hw9.out.put 0 (IntKind.u64.wrap (v + IntKind.u64.wrap (19 * c))))
      rw [← HN.out] at HF
      clear hw9 hk1 hvv HSt HN
      go_wp2
      exact ⟨⟨k + 1,by omega,by go_num,HF⟩,by simp [intOf]; omega⟩
    ·have hke : k = 5 := by omega
     have HRi := hI' (HE.out k hke)
     have hxl := xMw s.1 s.2 k
     have hxu := xXe s.1 s.2 k
     generalize prI s.1 s.2 k = xs at hr hxl hxu HRi
     have HIx := hI' (uN hxl)
     have HIr := hI' (uN hrl)
     have HZr : Hid ((xG (List.replicate 5 0)).size = (xG res).size) := hI' (xAq (by simp) hrl)
     have HNx := hI' (fun W => wO xs W hxl hxu)
     rw [← HRi.out] at HNx
     have hneg : ¬ ((k : Int) < 5) := by omega
     clear HRi hxu hxl hke hlk hk HE
     go_upto_region 29 with fail
     refine wp_region_lit ?_
     refine wpList_load_row rfl _ _ rfl gp rfl _ (xG xs) (0,0) _ hr.out.bp Tryz.underlying210 rfl HIx.out ?_
     repeat go_step
     refine (HNx.out _).mono ?_
     rintro e w7 ⟨rfl,hb7⟩
     have h7 := (hr.out.below hb7).mu.two
     go_wp2_with (refine wpList_store_row rfl _ _ _ rfl (w.heap.size + 1 + 1) (xG res) rfl rfl _ _ h7.bz HIr.out HZr.out (xS _) ?_)
     refine bodyPost_ret (results_cell_row rfl _ _ (w.heap.size + 1 + 1) _ _ (0,0) _ rfl (setRow_heap _ _ _ _ _ _ h7.bz) Tryz.underlying210 rfl HIr.out) rfl ?_
     exact ⟨rfl,below_setRow h7.bel (by omega) _⟩
end Go.Proofs.FE
namespace Mailsack
def ovI (n : List Int) : Nat → Int
 | 0 => Go.IntKind.u64.wrap (n.getD 0 0 + 19) / 2251799813685248
 | k + 1 => Go.IntKind.u64.wrap (n.getD (k + 1) 0 + ovI n k) / 2251799813685248
theorem yBy (x : Int) : 0 ≤ Go.IntKind.u64.wrap x / 2251799813685248 ∧ Go.IntKind.u64.wrap x / 2251799813685248 < 8192 := by
 have ⟨h0,h1⟩ := wrap_u64 x
 omega
theorem ovI_lt (n : List Int) : ∀ k,0 ≤ ovI n k ∧ ovI n k < 8192
 | 0 => yBy _
 | _ + 1 => yBy _
def lcI (n : List Int) (o : Int) : Nat → List Int × Int
 | 0 => (n,19 * o)
 | i + 1 => ((lcI n o i).1.set i (Go.bits .and .u64 (Go.IntKind.u64.wrap ((lcI n o i).1.getD i 0 + (lcI n o i).2)) 2251799813685247),Go.IntKind.u64.wrap ((lcI n o i).1.getD i 0 + (lcI n o i).2) / 2251799813685248)
theorem xNa (n : List Int) (o : Int) : ∀ i,(lcI n o i).1.length = n.length
 | 0 => rfl
 | i + 1 => by simp [lcI,xNa n o i]
theorem yB5 {n : List Int} (o : Int) (h : yV n) : ∀ i,yV (lcI n o i).1
 | 0 => h
 | i + 1 => (yB5 o h i).set i (zH _ _ _)
theorem lcI_c (n : List Int) {o : Int} (h0 : 0 ≤ o) (h1 : o < 8192) : ∀ i,0 ≤ (lcI n o i).2 ∧ (lcI n o i).2 < 200000
 | 0 => by simp [lcI]; omega
 | i + 1 => by
  have := yBy ((lcI n o i).1.getD i 0 + (lcI n o i).2)
  simp only [lcI]
  omega
def xAf (a : List Int) : List Int := (lcI (zR a) (ovI (zR a) 4) 5).1
theorem xCe (a : List Int) : (xAf a).length = 5 := by rw [xAf,xNa]; rfl
theorem xVn (a : List Int) : yV (xAf a) := yB5 _ (wX a) 5
def xEf (a : List Int) (n : Int) : List Int := uX a [n,0,0,0,0]
def sqI (a : List Int) : Nat → List Int
 | 0 => a
 | k + 1 => uX (sqI a k) (sqI a k)
theorem xFw {a : List Int} (h : a.length = 5) : ∀ k,(sqI a k).length = 5
 | 0 => h
 | _ + 1 => vK _ _
theorem yAg {a : List Int} (h : yV a) : ∀ k,yV (sqI a k)
 | 0 => h
 | _ + 1 => tY _ _
end Mailsack
namespace Go.Proofs.FE
open Go.RowKit Mailsack MM BB SH
structure xH3 (w : World) (ax : List Int) (W : World) : Prop where
 ba : uY 210 W w.heap.size ax
 bz : uY 210 W (w.heap.size + 1) (List.replicate 5 0)
 bel : Below w.heap.size w W
section
variable {w W W' : World} {ax : List Int}
theorem xH3.start (ax : List Int) : xH3 w ax ((w.alloc (.cells (xG ax) 210)).alloc (.cells (xG (List.replicate 5 0)) 210)) :=
 ⟨zQ _ _ _,zM _ _ _,((Below.refl w.heap.size w).alloc (Nat.le_refl _) _).alloc (by simp) _⟩
theorem xH3.below (h : xH3 w ax W) (hb : Below W.heap.size W W') : xH3 w ax W' := ⟨h.ba.below hb,h.bz.below hb,h.bel.trans (hb.mono h.bel.size)⟩
theorem xH3.put (h : xH3 w ax W) (i : Nat) (x : Int) : xH3 w (ax.set i x) (W.setCell ⟨w.heap.size,i,none⟩ (.int .u64 x)) :=
 ⟨h.ba.put i x,h.bz.far (p := ⟨w.heap.size,i,none⟩) (by simp) _,h.bel.setCell (p := ⟨w.heap.size,i,none⟩) (Nat.le_refl _) _⟩
theorem xH3.row (h : xH3 w ax W) (xs : List Int) : xH3 w xs (W.setRow w.heap.size (xG xs)) :=
 ⟨setRow_heap _ _ _ _ _ _ h.ba,(setRow_other _ _ _ _ (by omega)).trans h.bz,below_setRow h.bel (Nat.le_refl _) _⟩
end
theorem xTe (ax : List Int) (n : Int) (w : World) (hl : ax.length = 5) (hu : yV ax) (hn0 : 0 ≤ n) (hn1 : n < 4294967296) :
  Calls Tryz.prog 192 #[.agg (xG ax),.int .u32 n] w fun e w' => e = .returned (.agg (xG (xEf ax n))) ∧ Below w.heap.size w w' := by
 have HM : Hid (∀ W,Calls Tryz.prog 147 #[.agg (xG ax),.agg #[.int .u64 n,.int .u64 0,.int .u64 0,.int .u64 0,.int .u64 0]] W fun e w' => e = .returned (.agg (xG (xEf ax n))) ∧ Below W.heap.size W w') := hI' (fun W => rT ax [n,0,0,0,0] W hl hu rfl (xDn ⟨hn0,by omega⟩ ⟨by decide,by decide⟩ ⟨by decide,by decide⟩ ⟨by decide,by decide⟩ ⟨by decide,by decide⟩))
 have hrl : (xEf ax n).length = 5 := rfl
 have HI := hI' (uN hl)
 have H0 := hI' (xH3.start (w := w) ax)
 generalize xEf ax n = res at HM hrl ⊢
 have HIr := hI' (uN hrl)
 have HZr : Hid ((xG (List.replicate 5 0)).size = (xG res).size) := hI' (xAq (by simp) hrl)
 clear hl hu
 go_enter Tryz.func192,Tryz.ntmps192
 go_upto_region 1 with fail
 refine (fun (h : ∀ W3,Hid (xH3 w ax W3) → Code.wp _ _ _ _ W3) => h _ H0) ?_
 clear H0
 intro W0 H0
 refine wp_region_lit ?_
 refine wpList_load_row rfl _ _ rfl w.heap.size rfl _ (xG ax) (0,0) _ H0.out.ba Tryz.underlying210 rfl HI.out ?_
 repeat go_step
 refine (HM.out _).mono ?_
 rintro e w7 ⟨rfl,hb7⟩
 have h7 := H0.out.below hb7
 go_wp2_with (refine wpList_store_row rfl _ _ _ rfl (w.heap.size + 1) (xG res) rfl rfl _ _ h7.bz HIr.out HZr.out (xS _) ?_)
 refine bodyPost_ret (results_cell_row rfl _ _ (w.heap.size + 1) _ _ (0,0) _ rfl (setRow_heap _ _ _ _ _ _ h7.bz) Tryz.underlying210 rfl HIr.out) rfl ?_
 exact ⟨rfl,below_setRow h7.bel (by omega) _⟩
theorem xMn (ax : List Int) (n : Nat) (w : World) (hl : ax.length = 5) (hu : yV ax) (hn : n ≤ 1000) :
  Calls Tryz.prog 196 #[.agg (xG ax),.int .i64 n] w fun e w' => e = .returned (.agg (xG (sqI ax n))) ∧ Below w.heap.size w w' := by
 have HM : Hid (∀ k W,Calls Tryz.prog 147 #[.agg (xG (sqI ax k)),.agg (xG (sqI ax k))] W fun e w' => e = .returned (.agg (xG (sqI ax (k + 1)))) ∧ Below W.heap.size W w') := hI' (fun k W => rT _ _ W (xFw hl k) (yAg hu k) (xFw hl k) (yAg hu k))
 have HI : Hid (∀ k,(Tryz.prog.info? 210).map (·.size) = some (xG (sqI ax k)).size) := hI' (fun k => uN (xFw hl k))
 have HZ : Hid (∀ k,(xG (sqI ax k)).size = 5) := hI' (fun k => by rw [xV,xFw hl k])
 have H0 : Hid (xH3 w (sqI ax 0) _) := hI' (xH3.start (w := w) ax)
 have HL := hI' hl
 clear hl hu
 go_enter Tryz.func196,Tryz.ntmps196
 go_upto_region 1 with fail
 refine (fun (h : ∀ W3,Hid (xH3 w (sqI ax 0) W3) → Code.wp _ _ _ _ W3) => h _ H0) ?_
 clear H0
 intro W0 H0
 go_wp2_with fail
 go_loopw [6] (fun iv W => ∃ k : Nat,k ≤ n ∧ iv = .int .i64 k ∧ Hid (xH3 w (sqI ax k) W)) (fun iv _ => n - (intOf iv).toNat)
 case atStart => exact ⟨0,Nat.zero_le _,rfl,H0⟩
 case round =>
  clear H0
  obtain ⟨k,hk,rfl,hr⟩ := hrel
  by_cases hlt : k < n
  ·have HMk := hI' (HM.out k)
   have HIk := hI' (HI.out k)
   have HIn := hI' (HI.out (k + 1))
   have HZk : Hid ((xG (sqI ax k)).size = (xG (sqI ax (k + 1))).size) := hI' (by rw [HZ.out,HZ.out])
   obtain ⟨s1,hs1⟩ : ∃ s,sqI ax (k + 1) = s := ⟨_,rfl⟩
   rw [hs1] at HMk HIn HZk
   have HS1 := hI' hs1
   clear hs1
   generalize sqI ax k = s0 at hr HMk HIk HZk
   go_upto_region 3 with fail
   refine wp_region_lit ?_
   refine wpList_load_row rfl _ _ rfl w.heap.size rfl _ (xG s0) (0,0) _ hr.out.ba Tryz.underlying210 rfl HIk.out ?_
   refine wpList_load_row rfl _ _ rfl w.heap.size rfl _ (xG s0) (0,0) _ hr.out.ba Tryz.underlying210 rfl HIk.out ?_
   repeat go_step
   refine (HMk.out _).mono ?_
   rintro e w7 ⟨rfl,hb7⟩
   have h7 := hr.out.below hb7
   have h8 := hI' (h7.row s1)
   go_wp2_with (refine wpList_store_row rfl _ _ _ rfl w.heap.size (xG s1) rfl rfl _ _ h7.ba HIn.out HZk.out (xS _) ?_)
   exact ⟨⟨k + 1,by omega,by go_num,by rw [HS1.out]; exact h8⟩,by simp [intOf]; omega⟩
  ·have hke : k = n := by omega
   subst hke
   have HIr := hI' (HI.out k)
   have HZr : Hid ((xG (List.replicate 5 0)).size = (xG (sqI ax k)).size) := hI' (by rw [HZ.out]; rfl)
   clear HM
   obtain ⟨res,hres⟩ : ∃ res,sqI ax k = res := ⟨_,rfl⟩
   have HE : Hid (Ending.returned (Value.agg (xG res)) = .returned (.agg (xG (sqI ax k)))) := hI' (by rw [hres])
   rw [hres] at hr HIr HZr
   clear hk hlt hres
   go_upto_region 5 with fail
   refine wp_region_lit ?_
   refine wpList_load_row rfl _ _ rfl w.heap.size rfl _ (xG res) (0,0) _ hr.out.ba Tryz.underlying210 rfl HIr.out ?_
   refine wpList_store_row rfl _ _ _ rfl (w.heap.size + 1) (xG res) rfl rfl _ _ hr.out.bz HIr.out HZr.out (xS _) ?_
   go_wp2
   refine bodyPost_ret (results_cell_row rfl _ _ (w.heap.size + 1) _ _ (0,0) _ rfl (setRow_heap _ _ _ _ _ _ hr.out.bz) Tryz.underlying210 rfl HIr.out) rfl ?_
   exact ⟨(by first | rfl | exact HE.out),below_setRow hr.out.bel (by omega) _⟩
theorem xNp (ax : List Int) (w : World) (hl : ax.length = 5) (hu : yV ax) :
  Calls Tryz.prog 193 #[.agg (xG ax)] w fun e w' => e = .returned (.agg (xG (xAf ax))) ∧ Below w.heap.size w w' := by
 have HN := hI' (fun W => wO ax W hl hu)
 have HIa := hI' (uN hl)
 have HIn := hI' (uN (zN ax))
 have HZa := hI' (xAq hl (zN ax))
 have hnl := zN ax
 have hnu := wX ax
 have H0 := hI' (xH3.start (w := w) ax)
 have HR : Hid (∀ m n,m = 4 → n = 5 → xAf ax = (lcI (zR ax) (ovI (zR ax) m) n).1) := hI' (fun m n hm hn => by rw [hm,hn]; rfl)
 obtain ⟨res,hres⟩ : ∃ x,xAf ax = x := ⟨_,rfl⟩
 rw [hres] at HR ⊢
 clear hl hu hres
 generalize zR ax = na at HN HIn HZa hnl hnu HR
 go_enter Tryz.func193,Tryz.ntmps193
 go_upto_region 1 with fail
 refine (fun (h : ∀ W3,Hid (xH3 w ax W3) → Code.wp _ _ _ _ W3) => h _ H0) ?_
 clear H0
 intro W0 H0
 refine wp_region_lit ?_
 refine wpList_load_row rfl _ _ rfl w.heap.size rfl _ (xG ax) (0,0) _ H0.out.ba Tryz.underlying210 rfl HIa.out ?_
 repeat go_step
 refine (HN.out _).mono ?_
 rintro e w7 ⟨rfl,hb7⟩
 have h7 := H0.out.below hb7
 have H8 := hI' (h7.row na)
 have HV := hI' (fun k => ovI_lt na k)
 have HV0 : Hid (ovI na 0 = IntKind.u64.wrap (na.getD 0 0 + 19) / 2251799813685248) := hI' rfl
 obtain ⟨v,hv⟩ : ∃ v,na.getD 0 0 = v := ⟨_,rfl⟩
 rw [hv] at HV0
 obtain ⟨v0,v1⟩ := hv ▸ hnu 0
 obtain ⟨o0,ho0⟩ : ∃ o,ovI na 0 = o := ⟨_,rfl⟩
 rw [ho0] at HV0
 have HO0 := hI' ho0
 have q0 := H8.out.ba.cell (i := 0) (by omega)
 rw [hv] at q0
 have HU0 := hI' (wrap_u64 (v + 19))
 clear ho0 hv H0 hb7
 go_wp2_with (refine wpList_store_row rfl _ _ _ rfl w.heap.size (xG na) rfl rfl _ _ h7.ba HIn.out HZa.out (xS _) ?_)
 clear q0 h7
 generalize w7.setRow w.heap.size (xG na) = w8 at H8 ⊢
 go_loopw [3,4] (fun ov iv W => ∃ i k : Nat,i = k + 1 ∧ k ≤ 4 ∧ iv = .int .i64 i ∧ ov = .int .u64 (ovI na k) ∧ Hid (xH3 w na W)) (fun _ iv _ => 5 - (intOf iv).toNat)
 case atStart => exact ⟨1,0,rfl,by decide,rfl,by rw [HO0.out,HV0.out],H8⟩
 case round =>
  obtain ⟨i,k,hik,hk,rfl,rfl,hr⟩ := hrel
  clear H8
  obtain ⟨o1,o2⟩ := HV.out k
  by_cases hlt : i < 5
  ·have HS : Hid (∀ j,j = k + 1 → ovI na (k + 1) = IntKind.u64.wrap (na.getD j 0 + ovI na k) / 2251799813685248) := hI' (fun j hj => by rw [hj]; rfl)
   replace HS := hI' (HS.out i hik)
   obtain ⟨s,hs⟩ : ∃ s,ovI na (k + 1) = s := ⟨_,rfl⟩
   rw [hs] at HS
   have HSE := hI' hs
   have q0 := hr.out.ba.cell (i := i) (by omega)
   obtain ⟨x0,x1⟩ := hnu i
   generalize ovI na k = o at o1 o2 HS ⊢
   generalize na.getD i 0 = x at q0 x0 x1 HS
   have HIK := hI' hik
   have HB := hI' (wrap_u64 (x + o))
   clear hs hik v0 v1
   go_wp2
   exact ⟨⟨i + 1,k + 1,by rw [HIK.out],by have := HIK.out; omega,by go_num,by rw [HSE.out,HS.out],hr⟩,by simp [intOf]; omega⟩
  ·have hke : k = 4 := by omega
   have HRk := hI' (fun n hn => HR.out k n hke hn)
   have HLC := hI' (fun i => lcI_c na o1 o2 i)
   have HLL := hI' (fun i => xNa na (ovI na k) i)
   have HLU := hI' (fun i => yB5 (ovI na k) hnu i)
   have H9 : Hid (xH3 w (lcI na (ovI na k) 0).1 wr) := hI' hr.out
   have HC0 : Hid ((lcI na (ovI na k) 0).2 = 19 * ovI na k) := hI' rfl
   generalize ovI na k = o at o1 o2 HRk HLC HLL HLU H9 HC0 ⊢
   clear hr hke hk hik v0 v1
   go_wp2_with fail
   go_loopw [5,26] (fun cv jv W => ∃ j : Nat,j ≤ 5 ∧ jv = .int .i64 j ∧ cv = .int .u64 (lcI na o j).2 ∧ Hid (xH3 w (lcI na o j).1 W)) (fun _ jv _ => 5 - (intOf jv).toNat)
   case atStart => exact ⟨0,by decide,rfl,by rw [HC0.out],H9⟩
   case round =>
    rename World => wj
    obtain ⟨j,hj,rfl,rfl,hr⟩ := hrel
    clear H9
    obtain ⟨c1,c2⟩ := HLC.out j
    have hll := HLL.out j
    have hlu := HLU.out j
    by_cases hlt2 : j < 5
    ·have HS : Hid (lcI na o (j + 1) = ((lcI na o j).1.set j (bits .and .u64 (IntKind.u64.wrap ((lcI na o j).1.getD j 0 + (lcI na o j).2)) 2251799813685247),IntKind.u64.wrap ((lcI na o j).1.getD j 0 + (lcI na o j).2) / 2251799813685248)) := hI' rfl
     obtain ⟨s,hs⟩ : ∃ s,lcI na o (j + 1) = s := ⟨_,rfl⟩
     rw [hs] at HS
     have HSE := hI' hs
     generalize (lcI na o j).1 = l at hr hll hlu HS
     generalize (lcI na o j).2 = c at c1 c2 HS ⊢
     have q0 := hr.out.ba.cell (i := j) (by omega)
     have q1 := hr.out.ba.free j
     obtain ⟨x0,x1⟩ := hlu j
     generalize l.getD j 0 = x at q0 x0 x1 HS
     obtain ⟨y,hy⟩ : ∃ y,IntKind.u64.wrap (x + c) = y := ⟨_,rfl⟩
     obtain ⟨y0,y1⟩ := hy ▸ wrap_u64 (x + c)
     rw [hy] at HS
     have HP := hI' (hr.out.put j (bits .and .u64 y 2251799813685247))
     clear hs hr o1 o2
     go_wp2
     refine ⟨⟨j + 1,by omega,by go_num,by rw [HSE.out,HS.out],?_⟩,by simp [intOf]; omega⟩
     rw [HSE.out,HS.out]
     exact HP
    ·have hje : j = 5 := by omega
     have HRj := hI' (HRk.out j hje)
     have HIr : Hid ((Tryz.prog.info? 210).map (·.size) = some (xG res).size) := hI' (uN (by rw [HRj.out,hll,hnl]))
     have HZr : Hid ((xG (List.replicate 5 0)).size = (xG res).size) := hI' (xAq (by simp) (by rw [HRj.out,hll,hnl]))
     rw [← HRj.out] at hr
     have hneg : ¬ ((j : Int) < 5) := by omega
     clear HRj hll hlu hje hj hlt2 HLC HLL HLU HRk HC0 o1 o2
     go_upto_region 15 with fail
     refine wp_region_lit ?_
     refine wpList_load_row rfl _ _ rfl w.heap.size rfl _ (xG res) (0,0) _ hr.out.ba Tryz.underlying210 rfl HIr.out ?_
     refine wpList_store_row rfl _ _ _ rfl (w.heap.size + 1) (xG res) rfl rfl _ _ hr.out.bz HIr.out HZr.out (xS _) ?_
     go_wp2
     refine bodyPost_ret (results_cell_row rfl _ _ (w.heap.size + 1) _ _ (0,0) _ rfl (setRow_heap _ _ _ _ _ _ hr.out.bz) Tryz.underlying210 rfl HIr.out) rfl ?_
     exact ⟨(by first | rfl | exact HE.out),below_setRow hr.out.bel (by omega) _⟩
end Go.Proofs.FE

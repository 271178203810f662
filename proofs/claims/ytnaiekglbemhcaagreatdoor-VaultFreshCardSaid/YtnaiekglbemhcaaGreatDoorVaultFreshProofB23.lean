/- Contracts of functions of the program. Conditions: those that each theorem states. -/
import Derived.Test.YtnaiekglbemhcaaGreatDoorVaultFreshProofB22
set_option maxHeartbeats 8000000
set_option maxRecDepth 100000
namespace Mailsack
def kK (k : Nat) : Nat := if 5 ≤ k then k - 5 else k
def yK (y : Int) (k : Nat) : Int := if 5 ≤ k then Go.IntKind.u64.wrap (y * 5) else y
def xM2 (x : Int) (i : Nat) (r d : List Int) : Nat → List Int
 | 0 => d
 | j + 1 => (xM2 x i r d j).set (kK (i + j)) (Go.IntKind.u64.wrap ((xM2 x i r d j).getD (kK (i + j)) 0 + Go.IntKind.u64.wrap (x * yK (r.getD j 0) (i + j))))
theorem xJi (x : Int) (i : Nat) (r d : List Int) : ∀ j,(xM2 x i r d j).length = d.length
 | 0 => rfl
 | j + 1 => by rw [xM2,List.length_set,xJi x i r d j]
theorem xUb (x : Int) (i : Nat) (r : List Int) {d : List Int} (h : yV d) : ∀ j,yV (xM2 x i r d j)
 | 0 => h
 | j + 1 => (xUb x i r h j).set _ (wrap_u64 _)
def xN4 (h r : List Int) : Nat → List Int
 | 0 => List.replicate 5 0
 | i + 1 => xM2 (h.getD i 0) i r (xN4 h r i) 5
theorem xJk (h r : List Int) : ∀ i,(xN4 h r i).length = 5
 | 0 => by simp [xN4]
 | i + 1 => by rw [xN4,xJi,xJk h r i]
theorem xUc (h r : List Int) : ∀ i,yV (xN4 h r i)
 | 0 => xC4 5
 | i + 1 => xUb _ _ _ (xUc h r i) 5
def xR6 (c : List Int) : List Int := (c.set 1 (Go.IntKind.u64.wrap (c.getD 1 0 + c.getD 0 0 / 67108864))).set 0 (Go.bits .and .u64 (c.getD 0 0) 67108863)
theorem xOs (c : List Int) : (xR6 c).length = c.length := by simp [xR6]
theorem mulE_u {c : List Int} (h : yV c) : yV (xR6 c) := (h.set 1 (wrap_u64 _)).set 0 (zH _ _ _)
def xXt (h r : List Int) : List Int := xR6 (wZ (xN4 h r 5))
theorem xJj (h r : List Int) : (xXt h r).length = 5 := by rw [xXt,xOs,jI,xJk]
theorem mulP_u (h r : List Int) : yV (xXt h r) := mulE_u (pV (xUc h r 5))
end Mailsack
namespace Go.Proofs.SH
open Go.RowKit Mailsack MM BB
structure xK6 (w : World) (hs rs d : List Int) (W : World) : Prop where
 bh : uR W w.heap.size hs
 br : uR W (w.heap.size + 1) rs
 bz : uR W (w.heap.size + 1 + 1) (List.replicate 5 0)
 bd : uR W (w.heap.size + 1 + 1 + 1) d
 bel : Below w.heap.size w W
theorem xK6.put {w : World} {hs rs d : List Int} {W : World} (h : xK6 w hs rs d W) (i : Nat) (x : Int) : xK6 w hs rs (d.set i x) (W.setCell ⟨w.heap.size + 1 + 1 + 1,i,none⟩ (.int .u64 x)) :=
 ⟨h.bh.far (p := ⟨w.heap.size + 1 + 1 + 1,i,none⟩) (by simp only []; omega) _,h.br.far (p := ⟨w.heap.size + 1 + 1 + 1,i,none⟩) (by simp only []; omega) _,h.bz.far (p := ⟨w.heap.size + 1 + 1 + 1,i,none⟩) (by simp only []; omega) _,h.bd.put i x,h.bel.setCell (p := ⟨w.heap.size + 1 + 1 + 1,i,none⟩) (by simp only []; omega) _⟩
theorem xK6.below {w : World} {hs rs d : List Int} {W W' : World} (h : xK6 w hs rs d W) (hb : Below W.heap.size W W') : xK6 w hs rs d W' :=
 ⟨xE h.bh hb (xI h.bh),xE h.br hb (xI h.br),xE h.bz hb (xI h.bz),xE h.bd hb (xI h.bd),h.bel.trans (hb.mono h.bel.size)⟩
theorem xK6.row {w : World} {hs rs d : List Int} {W : World} (h : xK6 w hs rs d W) (c : List Int) : xK6 w hs rs c (W.setRow (w.heap.size + 1 + 1 + 1) (xG c)) :=
 ⟨by unfold uR; rw [setRow_other _ _ _ _ (by omega)]; exact h.bh,by unfold uR; rw [setRow_other _ _ _ _ (by omega)]; exact h.br,by unfold uR; rw [setRow_other _ _ _ _ (by omega)]; exact h.bz,setRow_heap _ _ _ _ _ _ h.bd,below_setRow h.bel (by omega) _⟩
theorem xUa (hs rs : List Int) (w : World) (hl : hs.length = 5) (hu : yV hs) (rl : rs.length = 5) (ru : yV rs) :
  Calls Tryz.prog 207 #[.agg (xG hs),.agg (xG rs)] w fun e w' => e = .returned (.agg (xG (xXt hs rs))) ∧ Below w.heap.size w w' := by
 have H0 : Hid (xK6 w hs rs (xN4 hs rs 0) ((((w.alloc (.cells (xG hs) 276)).alloc (.cells (xG rs) 276)).alloc (.cells (xG (List.replicate 5 0)) 276)).alloc (.cells (xG (List.replicate 5 0)) 276))) := hI' (by
  have h0 := xM ((w.alloc (.cells (xG hs) 276)).alloc (.cells (xG rs) 276)) (.cells (xG (List.replicate 5 0)) 276)
  simp only [vD] at h0
  have h1 := xM (((w.alloc (.cells (xG hs) 276)).alloc (.cells (xG rs) 276)).alloc (.cells (xG (List.replicate 5 0)) 276)) (.cells (xG (List.replicate 5 0)) 276)
  simp only [vD] at h1
  exact ⟨xP (xP (zQ _ _ _) _) _,xP (xP (zM _ _ _) _) _,xP h0 _,h1,((((Below.refl w.heap.size w).alloc (Nat.le_refl _) _).alloc (by simp) _).alloc (by simp; omega) _).alloc (by simp; omega) _⟩)
 have HI : Hid ((Tryz.prog.info? 276).map (·.size) = some (xG hs).size) := hI' (xBt hl)
 have HJ : Hid ((Tryz.prog.info? 276).map (·.size) = some (xG rs).size) := hI' (xBt rl)
 have HPI : Hid (∀ n,n = 5 → xXt hs rs = xR6 (wZ (xN4 hs rs n))) := hI' (fun n hn => by rw [hn]; rfl)
 have HPS : Hid (∀ i n,n = 5 → xN4 hs rs (i + 1) = xM2 (hs.getD i 0) i rs (xN4 hs rs i) n) := hI' (fun i n hn => by rw [hn]; rfl)
 have HL := hI' (fun i => xJk hs rs i)
 have HU := hI' (fun i => xUc hs rs i)
 go_enter Tryz.func207,Tryz.ntmps207
 go_upto_region 2 with fail
 refine (fun (h : ∀ W3,Hid (xK6 w hs rs (xN4 hs rs 0) W3) → Code.wp _ _ _ _ W3) => h _ H0) ?_
 clear H0
 intro w3 hw3
 refine wp_region_lit ?_
 refine wpList_load_row rfl _ _ rfl w.heap.size rfl _ (xG hs) (0,0) _ hw3.out.bh Tryz.underlying276 rfl HI.out ?_
 go_wp2_with fail
 go_loopw [12] (fun iv W => ∃ i : Nat,i ≤ 5 ∧ iv = .int .i64 i ∧ Hid (xK6 w hs rs (xN4 hs rs i) W)) (fun iv _ => 5 - (intOf iv).toNat)
 case atStart => exact ⟨0,by decide,rfl,hw3⟩
 case round =>
  clear hw3
  rename World => wi
  obtain ⟨i,hi,rfl,hr⟩ := hrel
  by_cases hlt : i < 5
  ·have HS := hI' (HPS.out i)
   have hl0 := HL.out i
   have hu0 := HU.out i
   obtain ⟨x,hx⟩ : ∃ x,hs.getD i 0 = x := ⟨_,rfl⟩
   have ux := hu i
   rw [hx] at ux HS
   have ix := fun W => kD (P := Tryz.prog) Tryz.underlying276 Tryz.underlying208 (by kernel_rfl) (xG hs) (.int .u64 x) i hlt (by rw [xBm (by omega),hx]) W
   obtain ⟨d1,hd1⟩ : ∃ d,xN4 hs rs (i + 1) = d := ⟨_,rfl⟩
   rw [hd1] at HS
   have HD1 := hI' hd1
   clear hd1
   generalize xN4 hs rs i = d0 at hr hl0 hu0 HS
   have HT0 : Hid (xK6 w hs rs (xM2 x i rs d0 0) wi) := hI' hr.out
   have HTS : Hid (∀ j,xM2 x i rs d0 (j + 1) = (xM2 x i rs d0 j).set (kK (i + j)) (IntKind.u64.wrap ((xM2 x i rs d0 j).getD (kK (i + j)) 0 + IntKind.u64.wrap (x * yK (rs.getD j 0) (i + j))))) := hI' (fun j => rfl)
   have HTL : Hid (∀ j,(xM2 x i rs d0 j).length = 5) := hI' (fun j => by rw [xJi,hl0])
   have HTU : Hid (∀ j,yV (xM2 x i rs d0 j)) := hI' (fun j => xUb _ _ _ hu0 j)
   have HX := hI' ux
   have HRU := hI' ru
   have hrr := hr
   clear hr hx ux hl0 hu0 hu ru hl
   go_upto_region 5 with fail
   clear ix
   refine wp_region_lit ?_
   refine wpList_load_row rfl _ _ rfl (w.heap.size + 1) rfl _ (xG rs) (0,0) _ hrr.out.br Tryz.underlying276 rfl HJ.out ?_
   clear hrr
   go_wp2_with fail
   go_loopw [17] (fun jv W => ∃ j : Nat,j ≤ 5 ∧ jv = .int .i64 j ∧ Hid (xK6 w hs rs (xM2 x i rs d0 j) W)) (fun jv _ => 5 - (intOf jv).toNat)
   case atStart => exact ⟨0,by decide,rfl,HT0⟩
   case round =>
    clear HT0
    rename World => wj
    obtain ⟨j,hj,rfl,hr⟩ := hrel
    by_cases hlt2 : j < 5
    ·have hTS := HTS.out j
     have hTL := HTL.out j
     obtain ⟨t1,ht1⟩ : ∃ t,xM2 x i rs d0 (j + 1) = t := ⟨_,rfl⟩
     rw [ht1] at hTS
     have HT1 := hI' ht1
     have hTU := HTU.out j (kK (i + j))
     clear ht1
     generalize xM2 x i rs d0 j = t0 at hr hTS hTL hTU
     obtain ⟨y,hy⟩ : ∃ y,rs.getD j 0 = y := ⟨_,rfl⟩
     have uy := HRU.out j
     rw [hy] at uy hTS
     have ix := fun W => kD (P := Tryz.prog) Tryz.underlying276 Tryz.underlying208 (by kernel_rfl) (xG rs) (.int .u64 y) j hlt2 (by rw [xBm (by omega),hy]) W
     have hK : kK (i + j) < 5 := by unfold kK; split <;> omega
     have q0 := hr.out.bd.cell (i := kK (i + j)) (by omega)
     have q1 := hr.out.bd.free (kK (i + j))
     have HP : Hid (xK6 w hs rs t1 (wj.setCell ⟨w.heap.size + 1 + 1 + 1,kK (i + j),none⟩ (.int .u64 (IntKind.u64.wrap (t0.getD (kK (i + j)) 0 + IntKind.u64.wrap (x * yK y (i + j))))))) := hI' (by
      have h := hr.out.put (kK (i + j)) (IntKind.u64.wrap (t0.getD (kK (i + j)) 0 + IntKind.u64.wrap (x * yK y (i + j))))
      rw [← hTS] at h
      exact h)
     generalize t0.getD (kK (i + j)) 0 = v at q0 hTU HP
     obtain ⟨v0,v1⟩ := hTU
     obtain ⟨y0,y1⟩ := uy
     obtain ⟨x0,x1⟩ := HX.out
     clear hTS hTL hy hr
     by_cases h5 : 5 ≤ i + j
     ·have hk5 : kK (i + j) = i + j - 5 := if_pos h5
      have hy5 : yK y (i + j) = IntKind.u64.wrap (y * 5) := if_pos h5
      rw [hy5] at HP
      generalize kK (i + j) = kk at hk5 hK q0 q1 HP
      have hii : (i : Int) + (j : Int) = (kk : Int) + 5 := by omega
      have h5i : (5 : Int) ≤ (kk : Int) + 5 := by omega
      clear hk5 h5 hy5
      go_wp2
      exact ⟨⟨j + 1,by omega,by go_num,by rw [HT1.out]; exact HP⟩,by simp [intOf]; omega⟩
     ·have hk5 : kK (i + j) = i + j := if_neg h5
      have hy5 : yK y (i + j) = y := if_neg h5
      rw [hy5] at HP
      generalize kK (i + j) = kk at hk5 hK q0 q1 HP
      have hii : (i : Int) + (j : Int) = (kk : Int) := by omega
      have h5i : ¬ ((5 : Int) ≤ (kk : Int)) := by omega
      clear hk5 h5 hy5
      go_wp2
      exact ⟨⟨j + 1,by omega,by go_num,by rw [HT1.out]; exact HP⟩,by simp [intOf]; omega⟩
    ·have hje : j = 5 := by omega
     have hneg : ¬ ((j : Int) < 5) := by omega
     have HS1 := hI' (HS.out j hje)
     clear hje hlt2 hj HTS HTL HTU HS
     go_wp2
     exact ⟨⟨i + 1,by omega,by go_num,by rw [HD1.out,HS1.out]; exact hr⟩,by simp [intOf]; omega⟩
  ·have hie : i = 5 := by omega
   have hneg : ¬ ((i : Int) < 5) := by omega
   have HP := hI' (HPI.out i hie)
   have hdl := HL.out i
   have hdu := HU.out i
   generalize xN4 hs rs i = d0 at hr HP hdl hdu
   have HI5 : Hid ((Tryz.prog.info? 276).map (·.size) = some (xG d0).size) := hI' (xBt hdl)
   have HC := hI' (fun W => xGv d0 W hdl hdu)
   obtain ⟨c,hc⟩ : ∃ c,wZ d0 = c := ⟨_,rfl⟩
   have hcl : c.length = 5 := by rw [← hc,jI,hdl]
   have hcu : yV c := hc ▸ pV hdu
   rw [hc] at HC HP
   clear hc hie hi hlt HL HU HPS HPI hdu
   go_upto_region 15 with fail
   refine wp_region_lit ?_
   refine wpList_load_row rfl _ _ rfl (w.heap.size + 1 + 1 + 1) rfl _ (xG d0) (0,0) _ hr.out.bd Tryz.underlying276 rfl HI5.out ?_
   repeat go_step
   refine (HC.out _).mono ?_
   rintro e w5 ⟨rfl,hb⟩
   have h5 := hr.out.below hb
   have HZ5 : Hid ((xG d0).size = (xG c).size) := hI' (by rw [xV,xV,hcl,hdl])
   have HIc : Hid ((Tryz.prog.info? 276).map (·.size) = some (xG c).size) := hI' (xBt hcl)
   have HR := hI' (h5.row c)
   simp only []
   rename ∀ (a : Act) (w : World),wpList _ _ _ _ a w → _ => hk
   refine hk _ _ ?_
   clear hk
   refine wpList_store_row rfl _ _ _ rfl (w.heap.size + 1 + 1 + 1) (xG c) rfl rfl _ _ h5.bd HIc.out HZ5.out (xS _) ?_
   clear hr hb h5
   refine (fun (h : ∀ W3,Hid (xK6 w hs rs c W3) → wpList _ _ _ _ _ W3) => h _ HR) ?_
   clear HR
   intro w6 hw6
   obtain ⟨a0,a1⟩ := hcu 0
   obtain ⟨b0,b1⟩ := hcu 1
   obtain ⟨a,ha⟩ : ∃ a,c.getD 0 0 = a := ⟨_,rfl⟩
   obtain ⟨b,hbb⟩ : ∃ b,c.getD 1 0 = b := ⟨_,rfl⟩
   have q0 := hw6.out.bd.cell (i := 0) (by omega)
   have q1 := hw6.out.bd.cell (i := 1) (by omega)
   have y0 := hw6.out.bd.free 0
   have y1 := hw6.out.bd.free 1
   have HE : Hid (xR6 c = (c.set 1 (IntKind.u64.wrap (c.getD 1 0 + c.getD 0 0 / 67108864))).set 0 (bits .and .u64 (c.getD 0 0) 67108863)) := hI' rfl
   rw [ha] at a0 a1 q0 HE
   rw [hbb] at b0 b1 q1 HE
   clear ha hbb
   have HA : Hid (xK6 w hs rs (xR6 c) ((w6.setCell ⟨w.heap.size + 1 + 1 + 1,1,none⟩ (.int .u64 (IntKind.u64.wrap (b + a / 67108864)))).setCell ⟨w.heap.size + 1 + 1 + 1,0,none⟩ (.int .u64 (bits .and .u64 a 67108863)))) := hI' (by rw [HE.out]; exact (hw6.out.put 1 _).put 0 _)
   have hel : (xR6 c).length = 5 := by rw [xOs,hcl]
   have HI6 : Hid ((Tryz.prog.info? 276).map (·.size) = some (xG (xR6 c)).size) := hI' (xBt hel)
   have HZ6 : Hid ((xG (List.replicate 5 0)).size = (xG (xR6 c)).size) := hI' (by rw [xV,xV,hel]; rfl)
   clear hw6 HE hel
   go_upto_region 18 with fail
   clear q0 q1 y0 y1 a0 a1 b0 b1
   refine (fun (h : ∀ W3,Hid (xK6 w hs rs (xR6 c) W3) → Code.wp _ _ _ _ W3) => h _ HA) ?_
   clear HA
   intro w7 hw7
   refine wp_region_lit ?_
   refine wpList_load_row rfl _ _ rfl (w.heap.size + 1 + 1 + 1) rfl _ (xG (xR6 c)) (0,0) _ hw7.out.bd Tryz.underlying276 rfl HI6.out ?_
   refine wpList_store_row rfl _ _ _ rfl (w.heap.size + 1 + 1) (xG (xR6 c)) rfl rfl _ _ hw7.out.bz HI6.out HZ6.out (xS _) ?_
   go_wp2
   refine bodyPost_ret (results_cell_row rfl _ _ (w.heap.size + 1 + 1) _ _ (0,0) _ rfl (setRow_heap _ _ _ _ _ _ hw7.out.bz) Tryz.underlying276 rfl HI6.out) rfl ?_
   rw [HP.out]
   exact ⟨rfl,below_setRow hw7.out.bel (by omega) _⟩
end Go.Proofs.SH
namespace Mailsack
def xG7 (c : List Int) : List Int := c.set 0 (Go.IntKind.u64.wrap (c.getD 0 0 + 5))
def xI5 (c d : List Int) (o : Int) : List Int := if 0 < o then d else c
def rQ (h : List Int) : List Int := xI5 (wZ (wZ h)) (yM (xG7 (wZ (wZ h))) 5).1 (yM (xG7 (wZ (wZ h))) 5).2
theorem xRa (h : List Int) : (rQ h).length = h.length := by
 unfold rQ xI5
 split
 ·rw [rV,xG7,List.length_set,jI,jI]
 ·rw [jI,jI]
theorem xXz {h : List Int} (hh : yV h) : yV (rQ h) := by
 unfold rQ xI5
 split
 ·exact xDj ((pV (pV hh)).set 0 (wrap_u64 _)) 5
 ·exact pV (pV hh)
end Mailsack
namespace Go.Proofs.SH
open Go.RowKit Mailsack MM BB
structure xS5 (w : World) (c : List Int) (g : Nat) (d : List Int) (W : World) : Prop where
 bh : uR W w.heap.size c
 bz : uR W (w.heap.size + 1) (List.replicate 5 0)
 bd : uR W g d
 ge : w.heap.size + 2 ≤ g
 bel : Below w.heap.size w W
theorem xS5.put {w : World} {c : List Int} {g : Nat} {d : List Int} {W : World} (h : xS5 w c g d W) (i : Nat) (x : Int) : xS5 w c g (d.set i x) (W.setCell ⟨g,i,none⟩ (.int .u64 x)) := by
 have hg := h.ge
 exact ⟨h.bh.far (p := ⟨g,i,none⟩) (by simp only []; omega) _,h.bz.far (p := ⟨g,i,none⟩) (by simp only []; omega) _,h.bd.put i x,hg,h.bel.setCell (p := ⟨g,i,none⟩) (by simp only []; omega) _⟩
theorem xUg (hs : List Int) (w : World) (hl : hs.length = 5) (hu : yV hs) :
  Calls Tryz.prog 209 #[.agg (xG hs)] w fun e w' => e = .returned (.agg (xG (rQ hs))) ∧ Below w.heap.size w w' := by
 have H0 : Hid (xK8 w hs ((w.alloc (.cells (xG hs) 276)).alloc (.cells (xG (List.replicate 5 0)) 276))) := hI' ⟨zQ _ _ _,zM _ _ _,((Below.refl w.heap.size w).alloc (Nat.le_refl _) _).alloc (by simp) _⟩
 have HI : Hid ((Tryz.prog.info? 276).map (·.size) = some (xG hs).size) := hI' (xBt hl)
 have HC1 := hI' (fun W => xGv hs W hl hu)
 have HP : Hid (∀ n,n = 5 → rQ hs = xI5 (wZ (wZ hs)) (yM (xG7 (wZ (wZ hs))) n).1 (yM (xG7 (wZ (wZ hs))) n).2) := hI' (fun n hn => by rw [hn]; rfl)
 obtain ⟨c1,hc1⟩ : ∃ c,wZ hs = c := ⟨_,rfl⟩
 have h1l : c1.length = 5 := by rw [← hc1,jI,hl]
 have h1u : yV c1 := hc1 ▸ pV hu
 rw [hc1] at HC1 HP
 have HC2 := hI' (fun W => xGv c1 W h1l h1u)
 obtain ⟨c,hc⟩ : ∃ c,wZ c1 = c := ⟨_,rfl⟩
 have hcl : c.length = 5 := by rw [← hc,jI,h1l]
 have hcu : yV c := hc ▸ pV h1u
 rw [hc] at HC2 HP
 have HIc : Hid ((Tryz.prog.info? 276).map (·.size) = some (xG c).size) := hI' (xBt hcl)
 have HZ1 : Hid ((xG hs).size = (xG c).size) := hI' (by rw [xV,xV,hl,hcl])
 have HZ0 : Hid ((xG (List.replicate 5 0)).size = (xG c).size) := hI' (by rw [xV,xV,hcl]; rfl)
 clear hc hc1 h1l h1u
 go_enter Tryz.func209,Tryz.ntmps209
 go_upto_region 1 with fail
 refine (fun (h : ∀ W3,Hid (xK8 w hs W3) → Code.wp _ _ _ _ W3) => h _ H0) ?_
 clear H0
 intro w3 hw3
 refine wp_region_lit ?_
 refine wpList_load_row rfl _ _ rfl w.heap.size rfl _ (xG hs) (0,0) _ hw3.out.st Tryz.underlying276 rfl HI.out ?_
 repeat go_step
 refine (HC1.out _).mono ?_
 rintro e w4 ⟨rfl,hb⟩
 have hw4 : Hid (xK8 w hs w4) := hI' ⟨xE hw3.out.st hb (xI hw3.out.st),xE hw3.out.res hb (xI hw3.out.res),hw3.out.bel.trans (hb.mono hw3.out.bel.size)⟩
 clear hw3 hb
 simp only []
 rename ∀ (a : Act) (w : World),wpList _ _ _ _ a w → _ => hk
 refine hk _ _ ?_
 clear hk
 repeat go_step
 refine (HC2.out _).mono ?_
 rintro e w5 ⟨rfl,hb⟩
 have hw5 : Hid (xK8 w hs w5) := hI' ⟨xE hw4.out.st hb (xI hw4.out.st),xE hw4.out.res hb (xI hw4.out.res),hw4.out.bel.trans (hb.mono hw4.out.bel.size)⟩
 clear hw4 hb
 simp only []
 rename ∀ (a : Act) (w : World),wpList _ _ _ _ a w → _ => hk
 refine hk _ _ ?_
 clear hk
 refine wpList_store_row rfl _ _ _ rfl w.heap.size (xG c) rfl rfl _ _ hw5.out.st HIc.out HZ1.out (xS _) ?_
 have hw6 : Hid (xK8 w c (w5.setRow w.heap.size (xG c))) := hI' ⟨setRow_heap _ _ _ _ _ _ hw5.out.st,by unfold uR; rw [setRow_other _ _ _ _ (by omega)]; exact hw5.out.res,below_setRow hw5.out.bel (Nat.le_refl _) _⟩
 refine (fun (h : ∀ W3,Hid (xK8 w c W3) → wpList _ _ _ _ _ W3) => h _ hw6) ?_
 clear hw5 hw6 HC1 HC2 HZ1
 intro w7 hw7
 go_upto_region 2 with fail
 refine wp_region_lit ?_
 refine wpList_load_row rfl _ _ rfl w.heap.size rfl _ (xG c) (0,0) _ hw7.out.st Tryz.underlying276 rfl HIc.out ?_
 iterate 3 go_step
 refine wpList_store_row rfl _ _ _ rfl w7.heap.size (xG c) rfl rfl _ (xG (List.replicate 5 0)) (xM _ _) HIc.out HZ0.out (xS _) ?_
 have hz7 := xI hw7.out.res
 have hw8 : Hid (xS5 w c w7.heap.size c ((w7.alloc (.cells (xG (List.replicate 5 0)) 276)).setRow w7.heap.size (xG c))) := hI' ⟨by unfold uR; rw [setRow_other _ _ _ _ (by omega)]; exact xP hw7.out.st _,by unfold uR; rw [setRow_other _ _ _ _ (by omega)]; exact xP hw7.out.res _,setRow_heap _ _ _ _ _ _ (xM _ _),by omega,below_setRow (hw7.out.bel.alloc hw7.out.bel.size _) (by omega) _⟩
 refine (fun (h : ∀ W3,Hid (xS5 w c w7.heap.size c W3) → wpList _ _ _ _ _ W3) => h _ hw8) ?_
 clear hw8
 generalize w7.heap.size = g at hz7 ⊢
 clear hw7
 intro w8 hw8
 obtain ⟨a0,a1⟩ := hcu 0
 obtain ⟨a,ha⟩ : ∃ a,c.getD 0 0 = a := ⟨_,rfl⟩
 have q0 := hw8.out.bd.cell (i := 0) (by omega)
 have y0 := hw8.out.bd.free 0
 obtain ⟨t,ht⟩ : ∃ t,xG7 c = t := ⟨_,rfl⟩
 have HA : Hid (xS5 w c g (yM t 0).1 (w8.setCell ⟨g,0,none⟩ (.int .u64 (IntKind.u64.wrap (c.getD 0 0 + 5))))) := hI' (by rw [← ht]; exact hw8.out.put 0 _)
 have htl : t.length = 5 := by rw [← ht,xG7,List.length_set,hcl]
 have htu : yV t := ht ▸ hcu.set 0 (wrap_u64 _)
 have HO0 : Hid ((yM t 0).2 = 0) := hI' rfl
 rw [ha] at a0 a1 q0 HA
 rw [ht] at HP
 have HL : Hid (∀ i,(yM t i).1.length = 5) := hI' (fun i => by rw [rV,htl])
 have HU := hI' (fun i => xDj htu i)
 have HV := hI' (fun i => xGw t i)
 have HS : Hid (∀ i,(yM t (i + 1)).1 = (yM t i).1.set i (bits .and .u64 (IntKind.u64.wrap ((yM t i).1.getD i 0 + (yM t i).2)) 67108863) ∧ (yM t (i + 1)).2 = IntKind.u64.wrap ((yM t i).1.getD i 0 + (yM t i).2) / 67108864) := hI' (fun i => ⟨rfl,rfl⟩)
 clear ha ht htl htu hw8 hcu hl hu
 go_upto_region 5 with fail
 clear q0 y0 a0 a1
 refine (fun (h : ∀ W3,Hid (xS5 w c g (yM t 0).1 W3) → Code.wp _ _ _ _ W3) => h _ HA) ?_
 clear HA
 intro w9 hw9
 go_wp2_with fail
 go_loopw [4,14] (fun ov iv wr => ∃ i : Nat,i ≤ 5 ∧ iv = .int .i64 i ∧ ov = .int .u64 (yM t i).2 ∧ Hid (xS5 w c g (yM t i).1 wr)) (fun _ iv _ => 5 - (intOf iv).toNat)
 case atStart => exact ⟨0,by decide,rfl,by rw [HO0.out],hw9⟩
 case round =>
  clear hw9 HO0
  obtain ⟨i,hi,rfl,rfl,hr⟩ := hrel
  obtain ⟨v0,v1⟩ := HV.out i
  by_cases hlt : i < 5
  ·have hl5 := HL.out i
   obtain ⟨u0,u1⟩ := HU.out i i
   obtain ⟨s1,s2⟩ := HS.out i
   obtain ⟨x1,hx1⟩ : ∃ x,(yM t (i + 1)).1 = x := ⟨_,rfl⟩
   obtain ⟨o1,ho1⟩ : ∃ x,(yM t (i + 1)).2 = x := ⟨_,rfl⟩
   rw [hx1] at s1
   rw [ho1] at s2
   have HX1 := hI' hx1
   have HO1 := hI' ho1
   clear hx1 ho1
   generalize (yM t i).2 = o at v0 v1 s1 s2 ⊢
   generalize (yM t i).1 = xs at hr hl5 u0 u1 s1 s2
   have q0 := hr.out.bd.cell (i := i) (by omega)
   have q1 := hr.out.bd.free i
   obtain ⟨x,hx⟩ : ∃ x,xs.getD i 0 = x := ⟨_,rfl⟩
   rw [hx] at q0 u0 u1 s1 s2
   obtain ⟨z,hz⟩ : ∃ z,IntKind.u64.wrap (x + o) = z := ⟨_,rfl⟩
   rw [hz] at s1 s2
   have hzr := wrap_u64 (x + o)
   rw [hz] at hzr
   obtain ⟨z0,z1⟩ := hzr
   have HZ := hI' hz
   have HA : Hid (xS5 w c g (xs.set i z) (wr.setCell ⟨g,i,none⟩ (.int .u64 z))) := hI' (hr.out.put i z)
   have HB : Hid (xS5 w c g x1 ((wr.setCell ⟨g,i,none⟩ (.int .u64 z)).setCell ⟨g,i,none⟩ (.int .u64 (bits .and .u64 z 67108863)))) := hI' (by
    have h := HA.out.put i (bits .and .u64 z 67108863)
    rw [List.set_set,← s1] at h
    exact h)
   have HS2 := hI' s2
   have HQ : Hid (∀ W,Hid (xS5 w c g (xs.set i z) W) → W.cell? ⟨g,i,none⟩ = some (.int .u64 z) ∧ W.frozen? ⟨g,i,none⟩ = false) := hI' (fun W h => by
    have q := h.out.bd.cell (i := i) (by rw [List.length_set]; omega)
    rw [List.getD_eq_getElem?_getD,List.getElem?_set_self (by omega)] at q
    exact ⟨q,h.out.bd.free i⟩)
   clear hx hz s1 s2 hr hl5
   go_upto_region 9 with fail
   rw [HZ.out]
   clear q0 q1 u0 u1
   revert HB
   refine (fun (h : ∀ W3,Hid (xS5 w c g (xs.set i z) W3) → Hid (xS5 w c g x1 (W3.setCell ⟨g,i,none⟩ (.int .u64 (bits .and .u64 z 67108863)))) → Code.wp _ _ _ _ W3) => h _ HA) ?_
   clear HA
   intro w3 hw3 HB
   obtain ⟨q0,q1⟩ := HQ.out w3 hw3
   clear HQ
   go_wp2
   refine ⟨⟨i + 1,by omega,?_,?_,?_⟩,?_⟩
   ·exact congrArg (Value.int .i64) (by omega)
   ·rw [HO1.out,HS2.out]
   ·rw [HX1.out]
    exact HB
   ·simp [intOf]
    omega
  ·have hi5 : i = 5 := by omega
   have hneg : ¬ ((i : Int) < 5) := by omega
   have HF := hI' (HP.out i hi5)
   have hl5 := HL.out i
   generalize (yM t i).2 = o at v0 v1 HF ⊢
   generalize (yM t i).1 = xs at hr hl5 HF
   have HIx : Hid ((Tryz.prog.info? 276).map (·.size) = some (xG xs).size) := hI' (xBt hl5)
   have HZx : Hid ((xG (List.replicate 5 0)).size = (xG xs).size) := hI' (by rw [xV,xV,hl5]; rfl)
   have ho : Hid ((0 : Int) < o ∨ ¬ (0 : Int) < o) := hI' (by omega)
   clear hi5 hlt hi HP HL HU HV HS hl5
   rcases ho.out with hp | hp
   ·have HG : Hid (rQ hs = xs) := hI' (by rw [HF.out,xI5,if_pos hp])
    go_upto_region 13 with fail
    refine wp_region_lit ?_
    refine wpList_load_row rfl _ _ rfl g rfl _ (xG xs) (0,0) _ hr.out.bd Tryz.underlying276 rfl HIx.out ?_
    refine wpList_store_row rfl _ _ _ rfl (w.heap.size + 1) (xG xs) rfl rfl _ _ hr.out.bz HIx.out HZx.out (xS _) ?_
    go_wp2
    refine bodyPost_ret (results_cell_row rfl _ _ (w.heap.size + 1) _ _ (0,0) _ rfl (setRow_heap _ _ _ _ _ _ hr.out.bz) Tryz.underlying276 rfl HIx.out) rfl ?_
    rw [HG.out]
    exact ⟨rfl,below_setRow hr.out.bel (by omega) _⟩
   ·have HG : Hid (rQ hs = c) := hI' (by rw [HF.out,xI5,if_neg hp])
    go_upto_region 14 with fail
    refine wp_region_lit ?_
    refine wpList_load_row rfl _ _ rfl w.heap.size rfl _ (xG c) (0,0) _ hr.out.bh Tryz.underlying276 rfl HIc.out ?_
    refine wpList_store_row rfl _ _ _ rfl (w.heap.size + 1) (xG c) rfl rfl _ _ hr.out.bz HIc.out HZ0.out (xS _) ?_
    go_wp2
    refine bodyPost_ret (results_cell_row rfl _ _ (w.heap.size + 1) _ _ (0,0) _ rfl (setRow_heap _ _ _ _ _ _ hr.out.bz) Tryz.underlying276 rfl HIc.out) rfl ?_
    rw [HG.out]
    exact ⟨rfl,below_setRow hr.out.bel (by omega) _⟩
end Go.Proofs.SH
namespace Mailsack
def padB (s : Bs) : Bs := (s ++ (xQ 16).drop s.length).set s.length 1
def qK (s : ByteArray) : ByteArray := if s.size = 16 then s else bsA (padB s.data.toList)
theorem xXi (s : Bs) (h : s.length ≤ 16) : (padB s).length = 16 := by
 unfold padB
 rw [List.length_set,List.length_append,List.length_drop,yT]
 omega
theorem xU1 (s : ByteArray) (h : s.size ≤ 16) : (qK s).size = 16 := by
 unfold qK
 split
 ·assumption
 ·have := xXi s.data.toList (by simpa using h)
  simpa [bsA,ByteArray.size] using this
end Mailsack
namespace Go.Proofs.SH
open Go.RowKit Mailsack MM BB
theorem xRs {W : World} {g : Nat} {l : Bs} {t : TypeId} (h : W.heap[g]? = some (.cells (yJ l) t (0,0))) (ty : TypeId) (dLen dCap : Nat) (s : ByteArray) (h1 : s.size ≤ dLen) (h2 : s.size ≤ l.length) :
  (Builtin.copy_ #[113,9] ty #[.slice (some ⟨g,0,none⟩) dLen dCap,.string s]).run Tryz.prog W = .ok (goInt s.size) (W.setRow g (yJ (s.data.toList ++ l.drop s.size))) := by
 have h3 := Lib.run_copy_row_string (P := Tryz.prog) W 113 9 ty 5 g 0 dLen dCap s (yJ l) _ Tryz.underlying113 (by kernel_rfl) h h1 (by rw [vC]; omega)
 have h4 : ((yJ l).toList.take 0 ++ Lib.byteCells s.data.toList ++ (yJ l).toList.drop (0 + s.size)).toArray = yJ (s.data.toList ++ l.drop s.size) := by
  simp [yJ,Lib.byteCells,List.map_drop]
 rw [h3,h4]
theorem xQx (s : ByteArray) (w : World) (hs : s.size ≤ 16) :
  Calls Tryz.prog 206 #[.string s] w fun e w' => e = .returned (.string (qK s)) ∧ Below w.heap.size w w' := by
 by_cases h16 : s.size = 16
 ·have HP : Hid (qK s = s) := hI' (if_pos h16)
  have h16i : (s.size : Int) = 16 := by omega
  clear h16 hs
  go_enter Tryz.func206,Tryz.ntmps206
  go_wp2
  go_ret
  rw [HP.out]
  exact ⟨rfl,Below.refl _ _⟩
 ·have hlt : s.size < 16 := by omega
  have hsl : s.data.toList.length = s.size := by simp
  have HP : Hid (qK s = bsA (padB s.data.toList)) := hI' (if_neg h16)
  have HB0 : Hid ((w.alloc (.cells (yJ (xQ 16)) 292)).heap[w.heap.size]? = some (.cells (yJ (xQ 16)) 292 (0,0))) := hI' (xM _ _)
  have HW0 := hI' ((Below.refl w.heap.size w).alloc (Nat.le_refl _) (.cells (yJ (xQ 16)) 292))
  have HB1 := hI' (setRow_heap (w.alloc (.cells (yJ (xQ 16)) 292)) w.heap.size _ (yJ (s.data.toList ++ (xQ 16).drop s.size)) _ _ HB0.out)
  have HW1 := hI' (below_setRow HW0.out (Nat.le_refl _) (yJ (s.data.toList ++ (xQ 16).drop s.size)))
  have hll : (s.data.toList ++ (xQ 16).drop s.size).length = 16 := by rw [List.length_append,List.length_drop,yT,hsl]; omega
  have HPB : Hid (padB s.data.toList = (s.data.toList ++ (xQ 16).drop s.size).set s.size 1) := hI' (by unfold padB; rw [hsl])
  have HCP := hI' (xRs HB0.out 3 16 16 s (by omega) (by rw [yT]; omega))
  have h16i : ¬ ((s.size : Int) = 16) := by omega
  clear hs h16
  go_enter Tryz.func206,Tryz.ntmps206
  go_upto_region 4 with fail
  refine wp_region_lit ?_
  iterate 6 go_step
  refine Lib.wpList_copy_run _ rfl _ _ _ _ rfl _ _ rfl rfl HCP.out ?_
  clear HCP HB0 HW0
  generalize (w.alloc (.cells (yJ (xQ 16)) 292)).setRow w.heap.size (yJ (s.data.toList ++ (xQ 16).drop s.size)) = w1 at HB1 HW1 ⊢
  generalize s.data.toList ++ (xQ 16).drop s.size = l at HB1 hll HPB
  have q0 : w1.cell? ⟨w.heap.size,s.size,none⟩ = some (.int .u8 ((l.getD s.size 0).toNat : Int)) := by rw [xA HB1.out,tL (by omega)]
  have q1 := xK HB1.out s.size
  generalize ((l.getD s.size 0).toNat : Int) = old at q0
  have HB2 : Hid ((w1.setCell ⟨w.heap.size,s.size,none⟩ (.int .u8 1)).heap[w.heap.size]? = some (.cells (yJ (l.set s.size 1)) 292 (0,0))) := hI' (by
   have h := yB HB1.out s.size (.int .u8 1)
   rw [show (Value.int .u8 1) = .int .u8 (((1 : UInt8)).toNat : Int) from rfl,xPr] at h
   exact h)
  have HW2 := hI' (HW1.out.setCell (p := ⟨w.heap.size,s.size,none⟩) (Nat.le_refl _) (.int .u8 1))
  have HL2 : Hid ((l.set s.size 1).length = 16) := hI' (by rw [List.length_set]; exact hll)
  clear HB1 HW1 hll hsl
  go_upto_region 6 with fail
  clear q0 q1
  revert HW2
  refine (fun (h : ∀ W3,Hid (W3.heap[w.heap.size]? = some (.cells (yJ (l.set s.size 1)) 292 (0,0))) → Hid (Below w.heap.size w W3) → Code.wp _ _ _ _ W3) => h _ HB2) ?_
  clear HB2
  intro w3 hw3 hb3
  have HT := xCr (t := 292) hw3.out 16 16 HL2.out
  generalize l.set s.size 1 = l2 at HPB hw3 HL2 HT
  go_wp2
  go_ret
  rw [HP.out,HPB.out]
  exact ⟨rfl,hb3.out⟩
end Go.Proofs.SH

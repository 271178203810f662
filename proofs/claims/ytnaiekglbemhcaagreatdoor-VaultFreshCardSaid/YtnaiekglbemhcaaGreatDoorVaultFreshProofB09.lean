/- Contracts of functions of the program. Conditions: those that each theorem states. -/
import Derived.Test.YtnaiekglbemhcaaGreatDoorVaultFreshProofB08
import Derived.Test.YtnaiekglbemhcaaGreatDoorVaultFreshProofB04
import Derived.Test.YtnaiekglbemhcaaGreatDoorVaultFreshProofB06
set_option maxHeartbeats 8000000
set_option maxRecDepth 100000
namespace Mailsack
def xSz (c0 c1 c2 c3 : Int) : Int := Go.bits .or .u32 (Go.bits .or .u32 (Go.bits .or .u32 c0 (c1 * 256)) (c2 * 65536)) (c3 * 16777216)
def xQd (b : ByteArray) (k : Nat) : Int := xSz (yZ (b.extract (4 * k) (4 * k + 4)) 0) (yZ (b.extract (4 * k) (4 * k + 4)) 1) (yZ (b.extract (4 * k) (4 * k + 4)) 2) (yZ (b.extract (4 * k) (4 * k + 4)) 3)
theorem xSw (b : ByteArray) (k : Nat) : U32 (xQd b k) := by unfold xQd xSz; exact xAg _ _ _
def xB8 (ws : List Int) (off : Nat) (b : ByteArray) : Nat → List Int
 | 0 => ws
 | k + 1 => (xB8 ws off b k).set (off + k) (xQd b k)
theorem qM (ws : List Int) (off : Nat) (b : ByteArray) : ∀ k,(xB8 ws off b k).length = ws.length
 | 0 => rfl
 | k + 1 => by simp [xB8,qM ws off b k]
theorem xJx {ws : List Int} (h : jO ws) (off : Nat) (b : ByteArray) : ∀ k,jO (xB8 ws off b k)
 | 0 => h
 | k + 1 => (xJx h off b k).set (off + k) (xSw b k)
end Mailsack
namespace Go.Proofs.SH
open Go.RowKit Mailsack MM BB
structure xWn (w : World) (g : Nat) (xs : List Int) (W : World) : Prop where
 st : W.heap[g]? = some (.cells (yX xs) 232 (0,0))
 grn : w.grownBy W (some g)
theorem xWn.drew {w : World} {g : Nat} {xs : List Int} {W : World} (h : xWn w g xs W) : xWn w g xs W.drew := ⟨h.st,xP9 h.grn⟩
theorem xWn.put {w : World} {g : Nat} {xs : List Int} {W : World} (h : xWn w g xs W) (p : Nat) (x : Int) : xWn w g (xs.set p x) (W.setCell ⟨g,p,none⟩ (.int .u32 x)) := by
 refine ⟨?_,xV7 h.grn _ _⟩
 have := yB h.st p (.int .u32 x)
 rw [xDe] at this
 exact this
theorem pR (ws : List Int) (g off n cap : Nat) (b : ByteArray) (w : World) (hg : w.heap[g]? = some (.cells (yX ws) 232 (0,0))) (hn : off + n ≤ ws.length) (hb : 4 * n ≤ b.size) (hn2 : n ≤ 16) :
  Calls Tryz.prog 202 #[.slice (some ⟨g,off,none⟩) n cap,.string b] w fun e w' => e = .returned (.tuple #[]) ∧ w'.heap[g]? = some (.cells (yX (xB8 ws off b n)) 232 (0,0)) ∧ w.grownBy w' (some g) := by
 have H0 : Hid (xWn w g (xB8 ws off b 0) w) := hI' ⟨hg,⟨rfl,rfl,rfl,Nat.le_refl _,fun _ _ _ => rfl⟩⟩
 have HL := hI' (fun k => qM ws off b k)
 clear hg
 go_enter Tryz.func202,Tryz.ntmps202
 go_wp2_with fail
 go_loopw [8] (fun iv wr => ∃ k : Nat,k ≤ n ∧ iv = .int .i64 k ∧ Hid (xWn w g (xB8 ws off b k) wr)) (fun iv _ => n - (intOf iv).toNat)
 case atStart => exact ⟨0,Nat.zero_le _,rfl,H0⟩
 case round =>
  obtain ⟨k,hk,rfl,hr⟩ := hrel
  clear H0
  by_cases hlt : k < n
  ·have hl := HL.out k
   have HW : Hid (xB8 ws off b (k + 1) = (xB8 ws off b k).set (off + k) (xQd b k)) := hI' rfl
   obtain ⟨z,hz⟩ : ∃ z,xQd b k = z := ⟨_,rfl⟩
   rw [hz] at HW
   generalize xB8 ws off b k = xs at hr hl HW
   go_upto_region 4 with fail
   refine RG.vE [21] (fun L W => Hid (xWn w g (if L 21 then xs.set (off + k) z else xs) W)) (fun L L' W h hI => by rw [← h 21 (by decide)]; exact hI) (by kernel_rfl) (by kernel_rfl) (by decide) (hI' hr.out.drew) ?_
   iterate 3
    apply RG.zL
    ·rfl
    ·intro L w9 hw9
     repeat go_step
     with_reducible exact RG.xB hw9
    ·rfl
   unfold xQd at hz
   obtain ⟨x,hx⟩ : ∃ x,b.extract (4 * k) (4 * k + 4) = x := ⟨_,rfl⟩
   rw [hx] at hz ⊢
   have hxs : x.size = 4 := by rw [← hx,ByteArray.size_extract]; omega
   have i0 := fun w => zU (P := Tryz.prog) Tryz.underlying9 x 0 0 rfl (by omega) w
   have i1 := fun w => zU (P := Tryz.prog) Tryz.underlying9 x 1 1 rfl (by omega) w
   have i2 := fun w => zU (P := Tryz.prog) Tryz.underlying9 x 2 2 rfl (by omega) w
   have i3 := fun w => zU (P := Tryz.prog) Tryz.underlying9 x 3 3 rfl (by omega) w
   obtain ⟨r00,r01⟩ := zG x 0
   obtain ⟨r10,r11⟩ := zG x 1
   obtain ⟨r20,r21⟩ := zG x 2
   obtain ⟨r30,r31⟩ := zG x 3
   generalize yZ x 0 = c0 at i0 r00 r01 hz
   generalize yZ x 1 = c1 at i1 r10 r11 hz
   generalize yZ x 2 = c2 at i2 r20 r21 hz
   generalize yZ x 3 = c3 at i3 r30 r31 hz
   unfold xSz at hz
   have HZ := hI' hz
   clear hx hz
   iterate 17
    apply RG.zL
    ·rfl
    ·intro L w9 hw9
     repeat go_step
     with_reducible exact RG.xB hw9
    ·rfl
   rw [HZ.out]
   apply RG.zL
   ·rfl
   ·intro L w9 hw9
    repeat go_step
    with_reducible exact RG.xB hw9
   ·rfl
   apply RG.uJ
   ·rfl
   ·intro L w9 h0 _ hw9
    rw [h0,if_neg (by simp)] at hw9
    have q1 := xA hw9.out.st (off + k)
    rw [uV (by omega)] at q1
    have q2 := xK hw9.out.st (off + k)
    repeat go_step
    with_reducible refine RG.xB ?_
    have hp := hI' (hw9.out.put (off + k) z)
    rw [if_pos (by simp)]
    with_reducible exact hp
   ·rfl
   refine RG.yP (fun w9 hw9 => ?_)
   rw [if_pos rfl,← HW.out] at hw9
   clear i0 i1 i2 i3
   go_wp2
   exact ⟨⟨k + 1,by omega,by go_num,hw9⟩,by simp [intOf]; omega⟩
  ·have hke : k = n := by omega
   have hneg : ¬ ((k : Int) < (n : Int)) := by omega
   have HR : Hid (xWn w g (xB8 ws off b n) wr) := by rw [← hke]; exact hr
   clear hr hke hlt hk
   go_wp2
   go_end0
   exact ⟨rfl,HR.out.st,HR.out.grn⟩
end Go.Proofs.SH
namespace Mailsack
def xGk (xs : List Int) : List Int := rJ (rJ (rJ (rJ (rJ (rJ (rJ (rJ (xs) 0 4 8 12) 1 5 9 13) 2 6 10 14) 3 7 11 15) 0 5 10 15) 1 6 11 12) 2 7 8 13) 3 4 9 14
theorem xNt (xs : List Int) : (xGk xs).length = 16 := kP _ _ _ _ _
theorem xVw {xs : List Int} (h : jO xs) : jO (xGk xs) := jM (jM (jM (jM (jM (jM (jM (jM h _ _ _ _) _ _ _ _) _ _ _ _) _ _ _ _) _ _ _ _) _ _ _ _) _ _ _ _) _ _ _ _
def jY (ws : List Int) : Nat → List Int
 | 0 => ws
 | k + 1 => xGk (jY ws k)
theorem xLk {ws : List Int} (h : ws.length = 16) : ∀ k,(jY ws k).length = 16
 | 0 => h
 | _ + 1 => xNt _
theorem xId {ws : List Int} (h : jO ws) : ∀ k,jO (jY ws k)
 | 0 => h
 | k + 1 => xVw (xId h k)
def xWh (l : Bs) (i : Nat) (x : Int) : Nat → Bs
 | 0 => l
 | j + 1 => (xWh l i x j).set (4 * i + j) (oct (x / 2 ^ (8 * j)))
def xSa (ws xs : List Int) : Nat → Bs
 | 0 => xQ 64
 | i + 1 => xWh (xSa ws xs i) i ((xs.getD i 0 + ws.getD i 0) % 4294967296) 4
def qU (ws : List Int) : Bs := xSa ws (jY ws 10) 16
theorem xJa (l : Bs) (i : Nat) (x : Int) : ∀ j,(xWh l i x j).length = l.length
 | 0 => rfl
 | j + 1 => by simp [xWh,xJa l i x j]
theorem xFg (ws xs : List Int) : ∀ i,(xSa ws xs i).length = 64
 | 0 => yT 64
 | i + 1 => by unfold xSa; rw [xJa,xFg ws xs i]
theorem xCd (ws : List Int) : (qU ws).length = 64 := xFg _ _ _
end Mailsack
namespace Go.Proofs.SH
open Go.RowKit Mailsack MM BB
structure FnI (w : World) (ws xs : List Int) (W : World) : Prop where
 b1 : W.heap[w.heap.size]? = some (.cells (yX ws) 232 (0,0))
 b2 : W.heap[w.heap.size + 1]? = some (.cells (yJ (xQ 64)) 235 (0,0))
 b3 : W.heap[w.heap.size + 2]? = some (.cells (yX xs) 232 (0,0))
 bel : Below w.heap.size w W
theorem FnI.turned {w : World} {ws xs ys : List Int} {W W' : World} (h : FnI w ws xs W) (hst : W'.heap[w.heap.size + 2]? = some (.cells (yX ys) 232 (0,0))) (hg : W.grownBy W' (some (w.heap.size + 2))) : FnI w ws ys W' :=
 ⟨kX h.b1 hg (by simp),kX h.b2 hg (by simp),hst,h.bel.grown hg h.bel.size (fun k hk => by injection hk with hk; omega)⟩
theorem xI9 (ws : List Int) (w : World) (hl : ws.length = 16) (hu : jO ws) :
  Calls Tryz.prog 161 #[.agg (yX ws)] w fun e w' => e = .returned (.agg (yJ (qU ws))) ∧ Below w.heap.size w w' := by
 have HL := hI' (fun k => xLk hl k)
 have HU := hI' (fun k => xId hu k)
 have HI : Hid ((Tryz.prog.info? 232).map (·.size) = some (yX ws).size) := hI' (by rw [zB,hl]; kernel_rfl)
 have HZ : Hid ((yX (List.replicate 16 0)).size = (yX ws).size) := hI' (by rw [zB,zB,hl,List.length_replicate])
 have HB : Hid (FnI w ws (jY ws 0) ((((w.alloc (.cells (yX ws) 232)).alloc (.cells (yJ (xQ 64)) 235)).alloc (.cells (yX (List.replicate 16 0)) 232)).setRow (w.heap.size + 1 + 1) (yX ws))) := hI' (by
  have h0 := xM ((w.alloc (.cells (yX ws) 232)).alloc (.cells (yJ (xQ 64)) 235)) (.cells (yX (List.replicate 16 0)) 232)
  simp only [vD] at h0
  refine ⟨?_,?_,setRow_heap _ _ _ _ _ _ h0,below_setRow ((((Below.refl w.heap.size w).alloc (Nat.le_refl _) _).alloc (by simp) _).alloc (by simp; omega) _) (by omega) _⟩
  ·rw [setRow_other _ _ _ _ (by omega)]
   exact xP (zQ _ _ _) _
  ·rw [setRow_other _ _ _ _ (by omega)]
   exact xP (zM _ _ _) _)
 have HDS : Hid (∀ k,jY ws (k + 1) = xGk (jY ws k)) := hI' (fun k => rfl)
 go_enter Tryz.func161,Tryz.ntmps161
 go_upto_region 1 with fail
 refine wp_region_lit ?_
 refine wpList_load_row rfl _ _ rfl w.heap.size rfl _ (yX ws) (0,0) _ (zQ _ _ _) Tryz.underlying232 rfl HI.out ?_
 iterate 3 go_step
 refine wpList_store_row rfl _ _ _ rfl (w.heap.size + 1 + 1) (yX ws) rfl rfl _ (yX (List.replicate 16 0)) (by have h := xM ((w.alloc (.cells (yX ws) 232)).alloc (.cells (yJ (xQ 64)) 235)) (.cells (yX (List.replicate 16 0)) 232); simp only [vD] at h; exact h) HI.out HZ.out (pU ws) ?_
 refine (fun (h : ∀ W3,Hid (FnI w ws (jY ws 0) W3) → wpList _ _ _ _ _ W3) => h _ HB) ?_
 intro w3 hw3
 clear HB HZ
 go_wp2_with fail
 go_loopw [9] (fun iv wr => ∃ k : Nat,k ≤ 10 ∧ iv = .int .i64 k ∧ Hid (FnI w ws (jY ws k) wr)) (fun iv _ => 10 - (intOf iv).toNat)
 case atStart => exact ⟨0,by decide,rfl,hw3⟩
 case round =>
  obtain ⟨k,hk,rfl,hr0⟩ := hrel
  clear hw3
  by_cases hlt : k < 10
  ·have hl0 := HL.out k
   have hu0 := HU.out k
   have HD := HDS.out k
   generalize jY ws k = x0 at hr0 hl0 hu0 HD
   unfold xGk at HD
   rename World => wr0
   go_wp2_with fail
   refine (pJ x0 (w.heap.size + 2) 0 4 8 12 wr0 hr0.out.b3 hl0 hu0 (by decide) (by decide) (by decide) (by decide) (by decide)).mono ?_
   rintro e wr1 ⟨rfl,hst,hgr⟩
   obtain ⟨x1,hx1⟩ : ∃ x,rJ x0 0 4 8 12 = x := ⟨_,rfl⟩
   have hl1 : x1.length = 16 := hx1 ▸ kP _ _ _ _ _
   have hu1 : jO x1 := hx1 ▸ jM hu0 _ _ _ _
   rw [hx1] at hst HD
   have hr1 := hI' (hr0.out.turned hst hgr)
   clear hst hgr hx1 hr0 hl0 hu0
   go_wp2_with fail
   refine (pJ x1 (w.heap.size + 2) 1 5 9 13 wr1 hr1.out.b3 hl1 hu1 (by decide) (by decide) (by decide) (by decide) (by decide)).mono ?_
   rintro e wr2 ⟨rfl,hst,hgr⟩
   obtain ⟨x2,hx2⟩ : ∃ x,rJ x1 1 5 9 13 = x := ⟨_,rfl⟩
   have hl2 : x2.length = 16 := hx2 ▸ kP _ _ _ _ _
   have hu2 : jO x2 := hx2 ▸ jM hu1 _ _ _ _
   rw [hx2] at hst HD
   have hr2 := hI' (hr1.out.turned hst hgr)
   clear hst hgr hx2 hr1 hl1 hu1
   go_wp2_with fail
   refine (pJ x2 (w.heap.size + 2) 2 6 10 14 wr2 hr2.out.b3 hl2 hu2 (by decide) (by decide) (by decide) (by decide) (by decide)).mono ?_
   rintro e wr3 ⟨rfl,hst,hgr⟩
   obtain ⟨x3,hx3⟩ : ∃ x,rJ x2 2 6 10 14 = x := ⟨_,rfl⟩
   have hl3 : x3.length = 16 := hx3 ▸ kP _ _ _ _ _
   have hu3 : jO x3 := hx3 ▸ jM hu2 _ _ _ _
   rw [hx3] at hst HD
   have hr3 := hI' (hr2.out.turned hst hgr)
   clear hst hgr hx3 hr2 hl2 hu2
   go_wp2_with fail
   refine (pJ x3 (w.heap.size + 2) 3 7 11 15 wr3 hr3.out.b3 hl3 hu3 (by decide) (by decide) (by decide) (by decide) (by decide)).mono ?_
   rintro e wr4 ⟨rfl,hst,hgr⟩
   obtain ⟨x4,hx4⟩ : ∃ x,rJ x3 3 7 11 15 = x := ⟨_,rfl⟩
   have hl4 : x4.length = 16 := hx4 ▸ kP _ _ _ _ _
   have hu4 : jO x4 := hx4 ▸ jM hu3 _ _ _ _
   rw [hx4] at hst HD
   have hr4 := hI' (hr3.out.turned hst hgr)
   clear hst hgr hx4 hr3 hl3 hu3
   go_wp2_with fail
   refine (pJ x4 (w.heap.size + 2) 0 5 10 15 wr4 hr4.out.b3 hl4 hu4 (by decide) (by decide) (by decide) (by decide) (by decide)).mono ?_
   rintro e wr5 ⟨rfl,hst,hgr⟩
   obtain ⟨x5,hx5⟩ : ∃ x,rJ x4 0 5 10 15 = x := ⟨_,rfl⟩
   have hl5 : x5.length = 16 := hx5 ▸ kP _ _ _ _ _
   have hu5 : jO x5 := hx5 ▸ jM hu4 _ _ _ _
   rw [hx5] at hst HD
   have hr5 := hI' (hr4.out.turned hst hgr)
   clear hst hgr hx5 hr4 hl4 hu4
   go_wp2_with fail
   refine (pJ x5 (w.heap.size + 2) 1 6 11 12 wr5 hr5.out.b3 hl5 hu5 (by decide) (by decide) (by decide) (by decide) (by decide)).mono ?_
   rintro e wr6 ⟨rfl,hst,hgr⟩
   obtain ⟨x6,hx6⟩ : ∃ x,rJ x5 1 6 11 12 = x := ⟨_,rfl⟩
   have hl6 : x6.length = 16 := hx6 ▸ kP _ _ _ _ _
   have hu6 : jO x6 := hx6 ▸ jM hu5 _ _ _ _
   rw [hx6] at hst HD
   have hr6 := hI' (hr5.out.turned hst hgr)
   clear hst hgr hx6 hr5 hl5 hu5
   go_wp2_with fail
   refine (pJ x6 (w.heap.size + 2) 2 7 8 13 wr6 hr6.out.b3 hl6 hu6 (by decide) (by decide) (by decide) (by decide) (by decide)).mono ?_
   rintro e wr7 ⟨rfl,hst,hgr⟩
   obtain ⟨x7,hx7⟩ : ∃ x,rJ x6 2 7 8 13 = x := ⟨_,rfl⟩
   have hl7 : x7.length = 16 := hx7 ▸ kP _ _ _ _ _
   have hu7 : jO x7 := hx7 ▸ jM hu6 _ _ _ _
   rw [hx7] at hst HD
   have hr7 := hI' (hr6.out.turned hst hgr)
   clear hst hgr hx7 hr6 hl6 hu6
   go_wp2_with fail
   refine (pJ x7 (w.heap.size + 2) 3 4 9 14 wr7 hr7.out.b3 hl7 hu7 (by decide) (by decide) (by decide) (by decide) (by decide)).mono ?_
   rintro e wr8 ⟨rfl,hst,hgr⟩
   obtain ⟨x8,hx8⟩ : ∃ x,rJ x7 3 4 9 14 = x := ⟨_,rfl⟩
   have hl8 : x8.length = 16 := hx8 ▸ kP _ _ _ _ _
   have hu8 : jO x8 := hx8 ▸ jM hu7 _ _ _ _
   rw [hx8] at hst HD
   have hr8 := hI' (hr7.out.turned hst hgr)
   clear hst hgr hx8 hr7 hl7 hu7
   have HDk := hI' HD
   clear HD hl8 hu8
   go_wp2
   exact ⟨⟨k + 1,by omega,by go_num,hI' (by rw [HDk.out]; exact hr8.out)⟩,by simp [intOf]; omega⟩
  ·have hke : k = 10 := by omega
   have HPk : Hid (∀ m,m = 16 → qU ws = xSa ws (jY ws k) m) := hI' (fun m hm => by rw [hke,hm]; rfl)
   have hxl := HL.out k
   have hxu := HU.out k
   have hneg : ¬ ((k : Int) < 10) := by omega
   generalize jY ws k = xs at hr0 HPk hxl hxu
   have HXU := hI' hxu
   have HWU := hI' hu
   have HIx : Hid ((Tryz.prog.info? 232).map (·.size) = some (yX xs).size) := hI' (by rw [zB,hxl]; kernel_rfl)
   have HO : Hid (FnI w ws xs (wr.alloc (.cells (yJ (xQ 64)) 235)) ∧ (wr.alloc (.cells (yJ (xQ 64)) 235)).heap[wr.heap.size]? = some (.cells (yJ (xSa ws xs 0)) 235 (0,0))) := hI' ⟨⟨xP hr0.out.b1 _,xP hr0.out.b2 _,xP hr0.out.b3 _,hr0.out.bel.alloc hr0.out.bel.size _⟩,xM _ _⟩
   have HG : Hid (w.heap.size + 2 < wr.heap.size) := hI' (xI hr0.out.b3)
   have HB3 := hI' (xP hr0.out.b3 (.cells (yJ (xQ 64)) 235))
   clear HL HU HDS hke hlt hk hxu hu hr0
   go_upto_region 14 with fail
   refine wp_region_lit ?_
   refine wpList_load_row rfl _ _ rfl (w.heap.size + 1 + 1) rfl _ (yX xs) (0,0) _ HB3.out Tryz.underlying232 rfl HIx.out ?_
   refine (fun (h : ∀ W3,Hid (FnI w ws xs W3 ∧ W3.heap[wr.heap.size]? = some (.cells (yJ (xSa ws xs 0)) 235 (0,0))) → wpList _ _ _ _ _ W3) => h _ HO) ?_
   intro w4 hw4
   generalize wr.heap.size = g4 at HG hw4 ⊢
   clear HO HB3 hneg
   go_wp2_with fail
   go_loopw [21] (fun iv W => ∃ i : Nat,i ≤ 16 ∧ iv = .int .i64 i ∧ Hid (FnI w ws xs W ∧ W.heap[g4]? = some (.cells (yJ (xSa ws xs i)) 235 (0,0)))) (fun iv _ => 16 - (intOf iv).toNat)
   case atStart => exact ⟨0,by decide,rfl,hw4⟩
   case round =>
    clear hw4
    rename World => wi
    obtain ⟨i,hi,rfl,hr⟩ := hrel
    by_cases hlt : i < 16
    ·have HOS : Hid (∀ m,m = 4 → xSa ws xs (i + 1) = xWh (xSa ws xs i) i ((xs.getD i 0 + ws.getD i 0) % 4294967296) m) := hI' (fun m hm => by rw [hm]; rfl)
     have HOL := hI' (xFg ws xs i)
     have HJL := hI' (fun (l : Bs) (x : Int) (j : Nat) => xJa l i x j)
     obtain ⟨x,hx⟩ : ∃ x,xs.getD i 0 = x := ⟨_,rfl⟩
     obtain ⟨s,hs⟩ : ∃ s,ws.getD i 0 = s := ⟨_,rfl⟩
     have ux := HXU.out i
     have us := HWU.out i
     rw [hx] at ux HOS
     rw [hs] at us HOS
     have ix := fun W => kD (P := Tryz.prog) Tryz.underlying232 Tryz.underlying184 (by kernel_rfl) (yX xs) (.int .u32 x) i hlt (by rw [uV (by omega),hx]) W
     have q0 : wi.cell? ⟨w.heap.size,i,none⟩ = some (.int .u32 s) := by rw [xA hr.out.1.b1,uV (by omega),hs]
     obtain ⟨x0,x1⟩ := ux
     obtain ⟨s0,s1⟩ := us
     clear hx hs
     generalize xSa ws xs i = acc at hr HOS HOL
     go_upto_region 18 with fail
     clear ix q0
     have hz := wG (x + s)
     generalize (x + s) % 4294967296 = z at HOS hz ⊢
     obtain ⟨z0,z1⟩ := hz
     clear x0 x1 s0 s1
     go_wp2_with fail
     go_loopw [30] (fun jv W => ∃ j : Nat,j ≤ 4 ∧ jv = .int .i64 j ∧ Hid (FnI w ws xs W ∧ W.heap[g4]? = some (.cells (yJ (xWh acc i z j)) 235 (0,0)))) (fun jv _ => 4 - (intOf jv).toNat)
     case atStart => exact ⟨0,by decide,rfl,hr⟩
     case round =>
      clear hr
      rename World => wj
      obtain ⟨j,hj,rfl,hr⟩ := hrel
      by_cases hlt2 : j < 4
      ·have HJS : Hid (xWh acc i z (j + 1) = (xWh acc i z j).set (4 * i + j) (oct (z / 2 ^ (8 * j)))) := hI' rfl
       have HJk := HJL.out acc z j
       generalize xWh acc i z j = l at hr HJS HJk
       have q1 := xA hr.out.2 (4 * i + j)
       rw [tL (by rw [HJk,HOL.out]; omega)] at q1
       have q2 := xK hr.out.2 (4 * i + j)
       generalize ((l.getD (4 * i + j) 0).toNat : Int) = old at q1
       have hp : Hid (FnI w ws xs (wj.setCell ⟨g4,4 * i + j,none⟩ (.int .u8 (z / 2 ^ (8 * j) % 256))) ∧ (wj.setCell ⟨g4,4 * i + j,none⟩ (.int .u8 (z / 2 ^ (8 * j) % 256))).heap[g4]? = some (.cells (yJ (xWh acc i z (j + 1))) 235 (0,0))) := hI' (by
        have hg := HG.out
        refine ⟨⟨xZ hr.out.1.b1 (p := ⟨g4,4 * i + j,none⟩) (by simp; omega) _,xZ hr.out.1.b2 (p := ⟨g4,4 * i + j,none⟩) (by simp; omega) _,xZ hr.out.1.b3 (p := ⟨g4,4 * i + j,none⟩) (by simp; omega) _,hr.out.1.bel.setCell (p := ⟨g4,4 * i + j,none⟩) (by simp; omega) _⟩,?_⟩
        have h := yB hr.out.2 (4 * i + j) (.int .u8 (z / 2 ^ (8 * j) % 256))
        rw [xDf] at h
        rw [HJS.out]
        exact h)
       clear hr HJk
       go_wp2
       exact ⟨⟨j + 1,by omega,by go_num,hp⟩,by simp [intOf]; omega⟩
      ·have hje : j = 4 := by omega
       have HOk := hI' (HOS.out j hje)
       have hneg : ¬ ((j : Int) < 4) := by omega
       clear HOS hlt2 hj hje
       go_wp2
       exact ⟨⟨i + 1,by omega,by go_num,hI' (by rw [HOk.out]; exact hr.out)⟩,by simp [intOf]; omega⟩
    ·have hie : i = 16 := by omega
     have HPi := hI' (HPk.out i hie)
     have hol := xFg ws xs i
     have hneg : ¬ ((i : Int) < 16) := by omega
     generalize xSa ws xs i = out at hr HPi hol
     have HI8 : Hid ((Tryz.prog.info? 235).map (·.size) = some (yJ out).size) := hI' (by rw [vC,hol]; kernel_rfl)
     have HZ8 : Hid ((yJ (xQ 64)).size = (yJ out).size) := hI' (by rw [vC,vC,hol,yT])
     have H18 : Hid ((yJ out).all (·.oneCell') = true) := hI' (Array.all_eq_true_iff_forall_mem.2 (fun v hv => xJz out v (by simpa using hv)))
     clear HPk hlt hi hie hol
     go_upto_region 24 with fail
     refine wp_region_lit ?_
     refine wpList_load_row rfl _ _ rfl g4 rfl _ (yJ out) (0,0) _ hr.out.2 Tryz.underlying235 rfl HI8.out ?_
     refine wpList_store_row rfl _ _ _ rfl (w.heap.size + 1) (yJ out) rfl rfl _ _ hr.out.1.b2 HI8.out HZ8.out H18.out ?_
     go_wp2
     refine bodyPost_ret (results_cell_row rfl _ _ (w.heap.size + 1) _ _ (0,0) _ rfl (setRow_heap _ _ _ _ _ _ hr.out.1.b2) Tryz.underlying235 rfl HI8.out) rfl ?_
     rw [HPi.out]
     exact ⟨rfl,below_setRow hr.out.1.bel (by omega) _⟩
end Go.Proofs.SH
namespace Mailsack
def xNq : ByteArray := ⟨#[101,120,112,97,110,100,32,51,50,45,98,121,116,101,32,107]⟩
def tC (key xD : ByteArray) (counter : Int) : List Int := xB8 ((xB8 (xB8 (List.replicate 16 0) 0 xNq 4) 4 key 8).set 12 counter) 13 xD 3
theorem yA2 (n : Nat) : jO (List.replicate n 0) := by
 intro i
 rw [List.getD_eq_getElem?_getD,List.getElem?_replicate]
 split <;> exact ⟨by decide,by decide⟩
theorem xEp (key xD : ByteArray) (counter : Int) : (tC key xD counter).length = 16 := by
 unfold tC
 rw [qM,List.length_set,qM,qM,List.length_replicate]
theorem xQ1 (key xD : ByteArray) {counter : Int} (h : U32 counter) : jO (tC key xD counter) := xJx ((xJx (xJx (yA2 16) _ _ _) _ _ _).set 12 h) _ _ _
end Mailsack
namespace Go.Proofs.SH
open Go.RowKit Mailsack MM BB
theorem results_cell_tmp {P : Program} {fn : Func} {p u : Tmp} {ty : TypeId} (h : fn.results = #[.cell p ty,.tmp u]) (tmps : Array Value) (w : World) (g : Nat) (t : TypeId) (cs : Array Value) (fr : Nat × Nat) (d : TypeDesc)
  (hp : tmps.getD p undef = .pointer (some ⟨g,0,none⟩)) (hg : w.heap[g]? = some (.cells cs t fr))
  (hu : P.underlying ty = some d) (hd : (match d with | .struct _ | .array _ _ => true | _ => false) = true) (hi : (P.info? ty).map (·.size) = some cs.size) :
  (results fn tmps).run P w = .ok (.tuple #[.agg cs,tmps.getD u undef]) w := by
 have hp' : tmps[p]?.getD undef = .pointer (some ⟨g,0,none⟩) := by simpa using hp
 simp [results,h,hp',asAddr,run_loadVar_row w g t ty cs fr d hg hu hd hi]
structure BegI (w : World) (xs : List Int) (W : World) : Prop where
 res : W.heap[w.heap.size]? = some (.cells (yX (List.replicate 16 0)) 232 (0,0))
 st : W.heap[w.heap.size + 1]? = some (.cells (yX xs) 232 (0,0))
 bel : Below w.heap.size w W
theorem BegI.filled {w : World} {xs ys : List Int} {W W' : World} (h : BegI w xs W) (hst : W'.heap[w.heap.size + 1]? = some (.cells (yX ys) 232 (0,0))) (hg : W.grownBy W' (some (w.heap.size + 1))) : BegI w ys W' :=
 ⟨kX h.res hg (by simp),hst,h.bel.grown hg h.bel.size (fun k hk => by injection hk with hk; omega)⟩
theorem xQ0 (key xD : ByteArray) (counter : Int) (w : World) (hk : key.size = 32) (hn : xD.size = 12) :
  Calls Tryz.prog 160 #[.string key,.string xD,.int .u32 counter] w fun e w' => e = .returned (.tuple #[.agg (yX (tC key xD counter)),.bool true]) ∧ Below w.heap.size w w' := by
 have HB : Hid (BegI w (List.replicate 16 0) ((w.alloc (.cells (yX (List.replicate 16 0)) 232)).alloc (.cells (yX (List.replicate 16 0)) 232))) := hI' ⟨zQ _ _ _,zM _ _ _,((Below.refl w.heap.size w).alloc (Nat.le_refl _) _).alloc (by simp) _⟩
 obtain ⟨x1,hx1⟩ : ∃ x,xB8 (List.replicate 16 0) 0 xNq 4 = x := ⟨_,rfl⟩
 have hl1 : x1.length = 16 := by rw [← hx1,qM,List.length_replicate]
 obtain ⟨x2,hx2⟩ : ∃ x,xB8 x1 4 key 8 = x := ⟨_,rfl⟩
 have hl2 : x2.length = 16 := by rw [← hx2,qM,hl1]
 obtain ⟨x3,hx3⟩ : ∃ x,x2.set 12 counter = x := ⟨_,rfl⟩
 have hl3 : x3.length = 16 := by rw [← hx3,List.length_set,hl2]
 obtain ⟨x4,hx4⟩ : ∃ x,xB8 x3 13 xD 3 = x := ⟨_,rfl⟩
 have hl4 : x4.length = 16 := by rw [← hx4,qM,hl3]
 have HP : Hid (tC key xD counter = x4) := hI' (by unfold tC; rw [hx1,hx2,hx3,hx4])
 have F1 := hI' (fun W h => pR (List.replicate 16 0) (w.heap.size + 1) 0 4 16 xNq W h (by simp) (by decide) (by decide))
 have F2 := hI' (fun W h => pR x1 (w.heap.size + 1) 4 8 12 key W h (by omega) (by omega) (by decide))
 have F3 := hI' (fun W h => pR x3 (w.heap.size + 1) 13 3 3 xD W h (by omega) (by omega) (by decide))
 rw [hx1] at F1
 rw [hx2] at F2
 rw [hx4] at F3
 have HX3 := hI' hx3
 have h2 : ((key.size : Int) != 32) = false := by simp [hk]
 have h3 : ((xD.size : Int) != 12) = false := by simp [hn]
 have HI : Hid ((Tryz.prog.info? 232).map (·.size) = some (yX x4).size) := hI' (by rw [zB,hl4]; kernel_rfl)
 have HZ : Hid ((yX (List.replicate 16 0)).size = (yX x4).size) := hI' (by rw [zB,zB,hl4,List.length_replicate])
 have HL2 := hI' hl2
 clear hx1 hx2 hx3 hx4 hk hn hl1 hl3 hl4 hl2
 go_enter Tryz.func160,Tryz.ntmps160
 go_wp2_with fail
 refine (F1.out _ HB.out.st).mono ?_
 rintro e w1 ⟨rfl,hst,hgr⟩
 have H1 := hI' (HB.out.filled hst hgr)
 clear hst hgr HB F1 h2 h3
 go_wp2_with fail
 refine (F2.out _ H1.out.st).mono ?_
 rintro e w2 ⟨rfl,hst,hgr⟩
 have H2 := hI' (H1.out.filled hst hgr)
 clear hst hgr H1 F2
 have q1 := xA H2.out.st 12
 rw [uV (by rw [HL2.out]; decide)] at q1
 have q2 := xK H2.out.st 12
 generalize x2.getD 12 0 = old at q1
 have H3 : Hid (BegI w x3 (w2.setCell ⟨w.heap.size + 1,12,none⟩ (.int .u32 counter))) := hI' (by
  refine ⟨xZ H2.out.res (p := ⟨w.heap.size + 1,12,none⟩) (by simp) _,?_,H2.out.bel.setCell (p := ⟨w.heap.size + 1,12,none⟩) (by simp) _⟩
  have h := yB H2.out.st 12 (.int .u32 counter)
  rw [xDe,HX3.out] at h
  exact h)
 go_wp2_with fail
 clear q1 q2 H2
 refine (F3.out _ H3.out.st).mono ?_
 rintro e w4 ⟨rfl,hst,hgr⟩
 have H4 := hI' (H3.out.filled hst hgr)
 clear hst hgr H3 F3
 go_upto_region 8 with fail
 refine wp_region_lit ?_
 refine wpList_load_row rfl _ _ rfl (w.heap.size + 1) rfl _ (yX x4) (0,0) _ H4.out.st Tryz.underlying232 rfl HI.out ?_
 refine wpList_store_row rfl _ _ _ rfl w.heap.size (yX x4) rfl rfl _ _ H4.out.res HI.out HZ.out (pU x4) ?_
 go_wp2
 refine bodyPost_ret (results_cell_tmp rfl _ _ w.heap.size _ _ (0,0) _ rfl (setRow_heap _ _ _ _ _ _ H4.out.res) Tryz.underlying232 rfl HI.out) rfl ?_
 rw [HP.out]
 exact ⟨rfl,below_setRow H4.out.bel (Nat.le_refl _) _⟩
end Go.Proofs.SH
namespace Mailsack
def xDt (key xD : ByteArray) (counter : Int) : Bs := qU (tC key xD counter)
end Mailsack
namespace Go.Proofs.SH
open Go.RowKit Mailsack MM BB
theorem xCr {W : World} {g : Nat} {l : Bs} {t : TypeId} (h : W.heap[g]? = some (.cells (yJ l) t (0,0))) (n cap : Nat) (hn : l.length = n) : (convert 113 9 (.slice (some ⟨g,0,none⟩) n cap)).run Tryz.prog W = .ok (.string (bsA l)) W := by
 subst hn
 exact run_convert_bytes_back (P := Tryz.prog) W 113 9 5 ⟨g,0,none⟩ cap l Tryz.underlying113 Tryz.underlying5 Tryz.underlying9 (fun j hj => by
  have hadd : (⟨g,0,none⟩ : Addr).add j = ⟨g,j,none⟩ := by unfold Addr.add; split <;> simp_all
  rw [hadd,xA h,tL hj,List.getD_eq_getElem?_getD,List.getElem?_eq_getElem hj]
  rfl)
theorem xNz (key xD : ByteArray) (counter : Int) (w : World) (hk : key.size = 32) (hn : xD.size = 12) (hc : U32 counter) :
  Calls Tryz.prog 162 #[.string key,.string xD,.int .u32 counter] w fun e w' => e = .returned (.tuple #[.string (bsA (xDt key xD counter)),.bool true]) ∧ Below w.heap.size w w' := by
 have HB := hI' (xQ0 key xD counter w hk hn)
 have HF := hI' (fun W => xI9 (tC key xD counter) W (xEp _ _ _) (xQ1 _ _ hc))
 have hl := xEp key xD counter
 have HP : Hid (bsA (xDt key xD counter) = bsA (qU (tC key xD counter))) := hI' rfl
 have HFL := hI' (xCd (tC key xD counter))
 generalize tC key xD counter = xs at HB HF hl HP HFL
 generalize qU xs = fo at HF HP HFL
 have HI : Hid ((Tryz.prog.info? 232).map (·.size) = some (yX xs).size) := hI' (by rw [zB,hl]; kernel_rfl)
 have HO : Hid ((yX (List.replicate 16 0)).size = (yX xs).size) := hI' (by rw [zB,zB,hl,List.length_replicate])
 have HI8 : Hid ((Tryz.prog.info? 235).map (·.size) = some (yJ fo).size) := hI' (by rw [vC,HFL.out]; kernel_rfl)
 have HO8 : Hid ((yJ (xQ 64)).size = (yJ fo).size) := hI' (by rw [vC,vC,HFL.out,yT])
 have H18 : Hid ((yJ fo).all (·.oneCell') = true) := hI' (Array.all_eq_true_iff_forall_mem.2 (fun v hv => xJz fo v (by simpa using hv)))
 have HSZ : Hid ((yX xs).size = 16) := hI' (by rw [zB,hl])
 have HSZ8 : Hid ((yJ fo).size = 64) := hI' (by rw [vC,HFL.out])
 clear hl hk hn hc
 go_enter Tryz.func162,Tryz.ntmps162
 go_wp2_with fail
 refine HB.out.mono ?_
 rintro e w1 ⟨rfl,hb1⟩
 have B1 := hI' hb1
 clear hb1 HB
 have hst : (storeCells ⟨w1.heap.size,0,none⟩ (yX xs).toList).run Tryz.prog (w1.alloc (.cells #[.int .u32 0,.int .u32 0,.int .u32 0,.int .u32 0,.int .u32 0,.int .u32 0,.int .u32 0,.int .u32 0,.int .u32 0,.int .u32 0,.int .u32 0,.int .u32 0,.int .u32 0,.int .u32 0,.int .u32 0,.int .u32 0] 232)) = .ok () (w1.alloc (.cells (yX xs) 232)) := run_storeCells_new w1 _ _ _ HI.out HO.out (pU xs)
 have hsz := HSZ.out
 have B2 := hI' (B1.out.alloc B1.out.size (.cells (yX xs) 232))
 go_upto_region 4 with fail
 clear hst hsz
 refine wp_region_lit ?_
 refine wpList_load_row rfl _ _ rfl w1.heap.size rfl _ (yX xs) (0,0) _ (xM _ _) Tryz.underlying232 rfl HI.out ?_
 go_wp2_with fail
 refine (HF.out _).mono ?_
 rintro e w3 ⟨rfl,hb3⟩
 have B3 := hI' (B2.out.trans (hb3.mono B2.out.size))
 clear hb3 HF B1 B2
 have hst : (storeCells ⟨w3.heap.size,0,none⟩ (yJ fo).toList).run Tryz.prog (w3.alloc (.cells #[.int .u8 0,.int .u8 0,.int .u8 0,.int .u8 0,.int .u8 0,.int .u8 0,.int .u8 0,.int .u8 0,.int .u8 0,.int .u8 0,.int .u8 0,.int .u8 0,.int .u8 0,.int .u8 0,.int .u8 0,.int .u8 0,.int .u8 0,.int .u8 0,.int .u8 0,.int .u8 0,.int .u8 0,.int .u8 0,.int .u8 0,.int .u8 0,.int .u8 0,.int .u8 0,.int .u8 0,.int .u8 0,.int .u8 0,.int .u8 0,.int .u8 0,.int .u8 0,.int .u8 0,.int .u8 0,.int .u8 0,.int .u8 0,.int .u8 0,.int .u8 0,.int .u8 0,.int .u8 0,.int .u8 0,.int .u8 0,.int .u8 0,.int .u8 0,.int .u8 0,.int .u8 0,.int .u8 0,.int .u8 0,.int .u8 0,.int .u8 0,.int .u8 0,.int .u8 0,.int .u8 0,.int .u8 0,.int .u8 0,.int .u8 0,.int .u8 0,.int .u8 0,.int .u8 0,.int .u8 0,.int .u8 0,.int .u8 0,.int .u8 0,.int .u8 0] 235)) = .ok () (w3.alloc (.cells (yJ fo) 235)) := run_storeCells_new w3 _ _ _ HI8.out HO8.out H18.out
 have hsz := HSZ8.out
 have ht := xCr (xM w3 (.cells (yJ fo) 235)) 64 64 HFL.out
 have B4 := hI' (B3.out.alloc B3.out.size (.cells (yJ fo) 235))
 go_wp2
 go_ret2
 rw [HP.out]
 exact ⟨rfl,B4.out⟩
end Go.Proofs.SH

/- What sha.schedule returns. Conditions: a block of 64 bytes. -/
import Derived.Test.YtnaiekglbemhcaaGreatDoorVaultFreshProofB01
import Derived.Deep.Cut
import Derived.Laws.Rows
import Derived.Laws.CopyOwn
set_option maxHeartbeats 8000000
set_option maxRecDepth 100000
namespace Mailsack
def yZ (s : ByteArray) (i : Nat) : Int := ((s.data.toList.getD i 0).toNat : Int)
theorem zG (s : ByteArray) (i : Nat) : 0 ≤ yZ s i ∧ yZ s i < 256 := by
 unfold yZ
 have := (s.data.toList.getD i 0).toNat_lt
 omega
def yA5 (c0 c1 c2 c3 : Int) : Int := Go.bits .or .u32 (Go.bits .or .u32 (Go.bits .or .u32 (c0 * 16777216) (c1 * 65536)) (c2 * 256)) c3
def xHp (b : ByteArray) (k : Nat) : Int := yA5 (yZ (b.extract (4 * k) (4 * k + 4)) 0) (yZ (b.extract (4 * k) (4 * k + 4)) 1) (yZ (b.extract (4 * k) (4 * k + 4)) 2) (yZ (b.extract (4 * k) (4 * k + 4)) 3)
theorem xQe (b : ByteArray) (k : Nat) : U32 (xHp b k) := by unfold xHp yA5; exact xAg _ _ _
def xTh (b : ByteArray) : Nat → List Int
 | 0 => List.replicate 64 0
 | k + 1 => (xTh b k).set k (xHp b k)
def xXq (ws : List Int) (i : Nat) : Int :=
 ((ws.getD (i - 16) 0 + Go.bits .xor .u32 (Go.bits .xor .u32 (xHt (ws.getD (i - 15) 0) 25) (xHt (ws.getD (i - 15) 0) 14)) (ws.getD (i - 15) 0 / 8) + ws.getD (i - 7) 0) % 4294967296 + Go.bits .xor .u32 (Go.bits .xor .u32 (xHt (ws.getD (i - 2) 0) 15) (xHt (ws.getD (i - 2) 0) 13)) (ws.getD (i - 2) 0 / 1024)) % 4294967296
def xQs (b : ByteArray) : Nat → List Int
 | 0 => xTh b 16
 | k + 1 => (xQs b k).set (16 + k) (xXq (xQs b k) (16 + k))
def tT (b : ByteArray) : List Int := xQs b 48
def jO (ws : List Int) : Prop := ∀ i,U32 (ws.getD i 0)
theorem jO.set {ws : List Int} (h : jO ws) (i : Nat) {x : Int} (hx : U32 x) : jO (ws.set i x) := by
 intro j
 rw [List.getD_eq_getElem?_getD,List.getElem?_set]
 split
 ·split
  ·exact hx
  ·exact ⟨by decide,by decide⟩
 ·have := h j
  rwa [List.getD_eq_getElem?_getD] at this
theorem xJ1 (b : ByteArray) : ∀ k,(xTh b k).length = 64
 | 0 => by simp [xTh]
 | k + 1 => by simp [xTh,xJ1 b k]
theorem xCx (b : ByteArray) : ∀ k,(xQs b k).length = 64
 | 0 => xJ1 b 16
 | k + 1 => by simp [xQs,xCx b k]
theorem xZa (b : ByteArray) : ∀ k,jO (xTh b k)
 | 0 => fun i => by
  unfold xTh
  rw [List.getD_eq_getElem?_getD,List.getElem?_replicate]
  split <;> exact ⟨by decide,by decide⟩
 | k + 1 => (xZa b k).set k (xQe b k)
theorem wG (x : Int) : U32 (x % 4294967296) := ⟨by omega,by omega⟩
theorem xTg (b : ByteArray) : ∀ k,jO (xQs b k)
 | 0 => xZa b 16
 | k + 1 => (xTg b k).set (16 + k) (wG _)
end Mailsack
namespace Go.Proofs.SH
open Go.RowKit Mailsack MM
theorem zU {P : Program} {t : TypeId} (ht : P.underlying t = some .string) (s : ByteArray) (n : Int) (i : Nat) (hn : n = i) (hi : i < s.size) (w : World) : (Instr.index t (.string s) (.int .i64 n)).run P w = .ok (.int .u8 (yZ s i)) w := by
 subst hn
 rw [run_index_string _ _ _ _ _ ht,dif_pos ⟨by omega,by omega⟩]
 simp [yZ,List.getD_eq_getElem?_getD,List.getElem?_eq_getElem (show i < s.data.toList.length by simpa using hi)]
 rfl
theorem pU (ws : List Int) : (yX ws).all (·.oneCell') = true := by
 simp [yX,Value.oneCell']
structure xH2 (w : World) (ws : List Int) (W : World) : Prop where
 blk : W.heap[w.heap.size + 1]? = some (.cells (yX ws) 268 (0,0))
 res : W.heap[w.heap.size]? = some (.cells (yX (List.replicate 64 0)) 268 (0,0))
 bel : Below w.heap.size w W
theorem xH2.drew {w : World} {ws : List Int} {W : World} (h : xH2 w ws W) : xH2 w ws W.drew := ⟨h.blk,h.res,h.bel.drew⟩
theorem xH2.put {w : World} {ws : List Int} {W : World} (h : xH2 w ws W) (i : Nat) (x : Int) : xH2 w (ws.set i x) (W.setCell ⟨w.heap.size + 1,i,none⟩ (.int .u32 x)) := by
 refine ⟨?_,xZ h.res (p := ⟨w.heap.size + 1,i,none⟩) (by simp) _,h.bel.setCell (p := ⟨w.heap.size + 1,i,none⟩) (by simp) _⟩
 have := yB h.blk i (.int .u32 x)
 rw [xDe] at this
 exact this
theorem xOh {w : World} {ws : List Int} {z : Int} {i j : Nat} {c : Bool} {W : World} (hj : j < ws.length) (hne : j ≠ i) (h : xH2 w (if c = true then ws.set i z else ws) W) : W.cell? ⟨w.heap.size + 1,j,none⟩ = some (.int .u32 (ws.getD j 0)) := by
 rw [xA h.blk]
 cases c
 ·exact uV hj
 ·rw [if_pos rfl,uV (by simpa using hj),List.getD_eq_getElem?_getD,List.getElem?_set,if_neg (Ne.symm hne),← List.getD_eq_getElem?_getD]
theorem xKn (b : ByteArray) (w : World) (hb : b.size = 64) :
  Calls Tryz.prog 198 #[.string b] w fun e w' => e = .returned (.agg (yX (tT b))) ∧ Below w.heap.size w w' := by
 go_enter Tryz.func198,Tryz.ntmps198
 go_wp2_with fail
 go_loopw [11] (fun iv wr => ∃ k : Nat,k ≤ 16 ∧ iv = .int .i64 k ∧ Hid (xH2 w (xTh b k) wr)) (fun iv _ => 16 - (intOf iv).toNat)
 case atStart => exact ⟨0,by decide,rfl,hI' ⟨zM _ _ _,zQ _ _ _,(((Below.refl w.heap.size w).alloc (Nat.le_refl _) _).alloc (by simp) _)⟩⟩
 case round =>
  obtain ⟨k,hk,rfl,hr⟩ := hrel
  by_cases hlt : k < 16
  ·go_upto_region 6 with fail
   have hl := xJ1 b k
   have HW : Hid (xTh b (k + 1) = (xTh b k).set k (xHp b k)) := hI' rfl
   obtain ⟨z,hz⟩ : ∃ z,xHp b k = z := ⟨_,rfl⟩
   rw [hz] at HW
   generalize xTh b k = ws at hr hl HW
   refine RG.vE [20] (fun L W => Hid (xH2 w (if L 20 then ws.set k z else ws) W)) (fun L L' W h hI => by rw [← h 20 (by decide)]; exact hI) (by kernel_rfl) (by kernel_rfl) (by decide) (hI' hr.out.drew) ?_
   iterate 2
    apply RG.zL
    ·rfl
    ·intro L w9 hw9
     repeat go_step
     with_reducible exact RG.xB hw9
    ·rfl
   unfold xHp at hz
   obtain ⟨x,hx⟩ : ∃ x,b.extract (4 * k) (4 * k + 4) = x := ⟨_,rfl⟩
   rw [hx] at hz ⊢
   have hxs : x.size = 4 := by rw [← hx,ByteArray.size_extract]; omega
   have i0 := fun w => zU (P := Tryz.prog) Tryz.underlying9 x 0 0 rfl (by omega) w
   have i1 := fun w => zU (P := Tryz.prog) Tryz.underlying9 x 1 1 rfl (by omega) w
   have i2 := fun w => zU (P := Tryz.prog) Tryz.underlying9 x 2 2 rfl (by omega) w
   have i3 := fun w => zU (P := Tryz.prog) Tryz.underlying9 x 3 3 rfl (by omega) w
   obtain ⟨r00,r01⟩ := zG x 0
   obtain ⟨r10,r11⟩ := zG x 1
   obtain ⟨r20,r21⟩ := zG x 2
   obtain ⟨r30,r31⟩ := zG x 3
   generalize yZ x 0 = c0 at i0 r00 r01 hz
   generalize yZ x 1 = c1 at i1 r10 r11 hz
   generalize yZ x 2 = c2 at i2 r20 r21 hz
   generalize yZ x 3 = c3 at i3 r30 r31 hz
   unfold yA5 at hz
   have HZ := hI' hz
   clear hx hz
   iterate 17
    apply RG.zL
    ·rfl
    ·intro L w9 hw9
     repeat go_step
     with_reducible exact RG.xB hw9
    ·rfl
   rw [HZ.out]
   apply RG.zL
   ·rfl
   ·intro L w9 hw9
    repeat go_step
    with_reducible exact RG.xB hw9
   ·rfl
   apply RG.uJ
   ·rfl
   ·intro L w9 h0 _ hw9
    rw [h0,if_neg (by simp)] at hw9
    have q1 := xA hw9.out.blk k
    rw [uV (by omega)] at q1
    have q2 := xK hw9.out.blk k
    repeat go_step
    with_reducible refine RG.xB ?_
    have hp := hI' (hw9.out.put k z)
    rw [if_pos (by simp)]
    with_reducible exact hp
   ·rfl
   refine RG.yP (fun w9 hw9 => ?_)
   rw [if_pos rfl,← HW.out] at hw9
   clear i0 i1 i2 i3
   go_wp2
   exact ⟨⟨k + 1,by omega,by go_num,hw9⟩,by simp [intOf]; omega⟩
  ·obtain rfl : k = 16 := by omega
   have hr0 : Hid (xH2 w (xQs b 0) wr) := hr
   clear hr
   go_wp2_with fail
   go_loopw [6] (fun iv wr => ∃ i : Nat,16 ≤ i ∧ i ≤ 64 ∧ iv = .int .i64 i ∧ Hid (xH2 w (xQs b (i - 16)) wr)) (fun iv _ => 64 - (intOf iv).toNat)
   case atStart => exact ⟨16,by decide,by decide,rfl,hr0⟩
   case round =>
    clear hr0
    obtain ⟨i,hi,hk,rfl,hr⟩ := hrel
    by_cases hlt : i < 64
    ·have hl := xCx b (i - 16)
     have hu := xTg b (i - 16)
     have HW : Hid (xQs b (i + 1 - 16) = (xQs b (i - 16)).set i (xXq (xQs b (i - 16)) i)) := hI' (by
      obtain ⟨k,rfl⟩ : ∃ k,i = 16 + k := ⟨i - 16,by omega⟩
      rw [show 16 + k + 1 - 16 = k + 1 by omega,show 16 + k - 16 = k by omega]
      rfl)
     obtain ⟨z,hz⟩ : ∃ z,xXq (xQs b (i - 16)) i = z := ⟨_,rfl⟩
     rw [hz] at HW
     generalize xQs b (i - 16) = ws at hr hl HW hz hu
     unfold xXq at hz
     have u16 := hu (i - 16)
     have u15 := hu (i - 15)
     have u7' := hu (i - 7)
     have u2 := hu (i - 2)
     have g16 : ∀ W,Hid (xH2 w ws W) → W.cell? ⟨w.heap.size + 1,i - 16,none⟩ = some (.int .u32 (ws.getD (i - 16) 0)) := fun W h => by rw [xA h.out.blk,uV (by omega)]
     have g15 : ∀ W,Hid (xH2 w ws W) → W.cell? ⟨w.heap.size + 1,i - 15,none⟩ = some (.int .u32 (ws.getD (i - 15) 0)) := fun W h => by rw [xA h.out.blk,uV (by omega)]
     have g7 : ∀ W,Hid (xH2 w ws W) → W.cell? ⟨w.heap.size + 1,i - 7,none⟩ = some (.int .u32 (ws.getD (i - 7) 0)) := fun W h => by rw [xA h.out.blk,uV (by omega)]
     have g2 : ∀ W,Hid (xH2 w ws W) → W.cell? ⟨w.heap.size + 1,i - 2,none⟩ = some (.int .u32 (ws.getD (i - 2) 0)) := fun W h => by rw [xA h.out.blk,uV (by omega)]
     have c16 : ∀ (c : Bool) W,Hid (xH2 w (if c = true then ws.set i z else ws) W) → W.cell? ⟨w.heap.size + 1,i - 16,none⟩ = some (.int .u32 (ws.getD (i - 16) 0)) := fun c W h => xOh (i := i) (by omega) (by omega) h.out
     have c7 : ∀ (c : Bool) W,Hid (xH2 w (if c = true then ws.set i z else ws) W) → W.cell? ⟨w.heap.size + 1,i - 7,none⟩ = some (.int .u32 (ws.getD (i - 7) 0)) := fun c W h => xOh (i := i) (by omega) (by omega) h.out
     generalize ws.getD (i - 16) 0 = v16 at hz u16 g16 c16
     generalize ws.getD (i - 15) 0 = v15 at hz u15 g15
     generalize ws.getD (i - 7) 0 = v7 at hz u7' g7 c7
     generalize ws.getD (i - 2) 0 = v2 at hz u2 g2
     have C16 := hI' c16
     have C7 := hI' c7
     have G15 := hI' g15
     have G2 := hI' g2
     have HZ := hI' hz
     have R1 := hI' (fun W => kR v15 (-7) 25 W u15 (by decide) (by decide))
     have R2 := hI' (fun W => kR v15 (-18) 14 W u15 (by decide) (by decide))
     have R3 := hI' (fun W => kR v2 (-17) 15 W u2 (by decide) (by decide))
     have R4 := hI' (fun W => kR v2 (-19) 13 W u2 (by decide) (by decide))
     obtain ⟨u160,u161⟩ := u16
     obtain ⟨u150,u151⟩ := u15
     obtain ⟨u70',u71'⟩ := u7'
     obtain ⟨u20',u21'⟩ := u2
     clear hu hz g16 g15 g7 g2 c16 c7
     go_upto_region 11 with fail
     refine RG.xR (fun W => Hid (xH2 w ws W)) (by kernel_rfl) (by kernel_rfl) (hI' hr.out.drew) ?_
     iterate 2
      apply RG.xC
      ·intro w9 hw9
       repeat go_step
       with_reducible exact RG.xB hw9
      ·rfl
     rw [show ((i : Int) - 15) = ((i - 15 : Nat) : Int) by omega]
     iterate 2
      apply RG.xC
      ·intro w9 hw9
       have q := G15.out _ hw9
       repeat go_step
       with_reducible exact RG.xB hw9
      ·rfl
     iterate 2
      apply RG.xC
      ·intro w9 hw9
       repeat go_step
       with_reducible exact RG.xB hw9
      ·rfl
     rw [show ((i : Int) - 2) = ((i - 2 : Nat) : Int) by omega]
     iterate 2
      apply RG.xC
      ·intro w9 hw9
       have q := G2.out _ hw9
       repeat go_step
       with_reducible exact RG.xB hw9
      ·rfl
     iterate 2
      apply RG.xC
      ·intro w9 hw9
       repeat go_step
       with_reducible exact RG.xB hw9
      ·rfl
     refine RG.xW (fun w9 hw9 => ?_)
     clear hr
     go_upto_region 12 with fail
     refine RG.zK (fun W => Hid (xH2 w ws W)) hw9 ?_
     clear hw9
     apply RG.xC
     ·intro w9 hw9
      repeat go_step
      with_reducible exact RG.xB hw9
     ·rfl
     apply RG.xC
     ·intro w9 hw9
      repeat go_step
      refine (R1.out _).mono ?_
      rintro e w10 ⟨rfl,rfl⟩
      simp only []
      repeat go_step
      with_reducible exact RG.xB hw9
     ·rfl
     apply RG.xC
     ·intro w9 hw9
      repeat go_step
      with_reducible exact RG.xB hw9
     ·rfl
     apply RG.xC
     ·intro w9 hw9
      repeat go_step
      refine (R2.out _).mono ?_
      rintro e w10 ⟨rfl,rfl⟩
      simp only []
      repeat go_step
      with_reducible exact RG.xB hw9
     ·rfl
     iterate 5
      apply RG.xC
      ·intro w9 hw9
       repeat go_step
       with_reducible exact RG.xB hw9
      ·rfl
     refine RG.xW (fun w10 xV1 => ?_)
     go_upto_region 13 with fail
     refine RG.zK (fun W => Hid (xH2 w ws W)) xV1 ?_
     clear xV1
     apply RG.xC
     ·intro w9 hw9
      repeat go_step
      with_reducible exact RG.xB hw9
     ·rfl
     apply RG.xC
     ·intro w9 hw9
      repeat go_step
      refine (R3.out _).mono ?_
      rintro e w10 ⟨rfl,rfl⟩
      simp only []
      repeat go_step
      with_reducible exact RG.xB hw9
     ·rfl
     apply RG.xC
     ·intro w9 hw9
      repeat go_step
      with_reducible exact RG.xB hw9
     ·rfl
     apply RG.xC
     ·intro w9 hw9
      repeat go_step
      refine (R4.out _).mono ?_
      rintro e w10 ⟨rfl,rfl⟩
      simp only []
      repeat go_step
      with_reducible exact RG.xB hw9
     ·rfl
     iterate 5
      apply RG.xC
      ·intro w9 hw9
       repeat go_step
       with_reducible exact RG.xB hw9
      ·rfl
     refine RG.xW (fun w11 hw11 => ?_)
     go_upto_region 14 with fail
     refine RG.vE [15] (fun L W => Hid (xH2 w (if L 15 then ws.set i z else ws) W)) (fun L L' W h hI => by rw [← h 15 (by decide)]; exact hI) (by kernel_rfl) (by kernel_rfl) (by decide) (hI' hw11.out.drew) ?_
     iterate 3
      apply RG.zL
      ·rfl
      ·intro L w9 hw9
       repeat go_step
       with_reducible exact RG.xB hw9
      ·rfl
     rw [show ((i : Int) - 16) = ((i - 16 : Nat) : Int) by omega]
     iterate 2
      apply RG.zL
      ·rfl
      ·intro L w9 hw9
       have q := C16.out _ _ hw9
       repeat go_step
       with_reducible exact RG.xB hw9
      ·rfl
     iterate 4
      apply RG.zL
      ·rfl
      ·intro L w9 hw9
       repeat go_step
       with_reducible exact RG.xB hw9
      ·rfl
     rw [show ((i : Int) - 7) = ((i - 7 : Nat) : Int) by omega]
     iterate 2
      apply RG.zL
      ·rfl
      ·intro L w9 hw9
       have q := C7.out _ _ hw9
       repeat go_step
       with_reducible exact RG.xB hw9
      ·rfl
     iterate 3
      apply RG.zL
      ·rfl
      ·intro L w9 hw9
       repeat go_step
       with_reducible exact RG.xB hw9
      ·rfl
     rw [HZ.out]
     apply RG.zL
     ·rfl
     ·intro L w9 hw9
      repeat go_step
      with_reducible exact RG.xB hw9
     ·rfl
     apply RG.uJ
     ·rfl
     ·intro L w9 h0 _ hw9
      rw [h0,if_neg (by simp)] at hw9
      have q1 := xA hw9.out.blk i
      rw [uV (by omega)] at q1
      have q2 := xK hw9.out.blk i
      repeat go_step
      with_reducible refine RG.xB ?_
      have hp := hI' (hw9.out.put i z)
      rw [if_pos (by simp)]
      with_reducible exact hp
     ·rfl
     refine RG.yP (fun w12 hw12 => ?_)
     rw [if_pos rfl,← HW.out] at hw12
     go_wp2
     exact ⟨⟨i + 1,by omega,by omega,by go_num,hw12⟩,by simp [intOf]; omega⟩
    ·obtain rfl : i = 64 := by omega
     have hr2 : Hid (xH2 w (tT b) wr) := hr
     clear hr
     have hi64 : (Tryz.prog.info? 268).map (·.size) = some (yX (tT b)).size := by rw [zB]; unfold tT; rw [xCx]; kernel_rfl
     have ho64 : (yX (List.replicate 64 0)).size = (yX (tT b)).size := by rw [zB,zB]; unfold tT; rw [xCx,List.length_replicate]
     have h1 := pU (tT b)
     have HI := hI' hi64
     have HO := hI' ho64
     have H1 := hI' h1
     clear hi64 ho64 h1
     go_wp2_with (first | refine wpList_load_row rfl _ _ rfl (w.heap.size + 1) rfl _ _ (0,0) _ hr2.out.blk Tryz.underlying268 rfl HI.out ?_ | refine wpList_store_row rfl _ _ _ rfl w.heap.size _ rfl rfl _ _ hr2.out.res HI.out HO.out H1.out ?_)
     refine bodyPost_ret (results_cell_row rfl _ _ w.heap.size _ _ (0,0) _ rfl (setRow_heap _ _ _ _ _ _ hr2.out.res) Tryz.underlying268 rfl HI.out) rfl ?_
     exact ⟨rfl,below_setRow hr2.out.bel (Nat.le_refl _) _⟩
end Go.Proofs.SH

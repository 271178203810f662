/- What sha.schedule returns. Conditions: a block of 64 bytes. -/
import Derived.Test.YtomnljigoljldaaGreatDoorShaRot
import Derived.Test.YtomnljigoljldaaGreatDoorRegL
import Derived.Deep.Cut
import Derived.Laws.Rows
import Derived.Laws.CopyOwn
namespace Mailsack
/-- a byte of a text, as a number -/
def byteI (s : ByteArray) (i : Nat) : Int := ((s.data.toList.getD i 0).toNat : Int)
theorem byteI_range (s : ByteArray) (i : Nat) : 0 ≤ byteI s i ∧ byteI s i < 256 := by
  unfold byteI
  have := (s.data.toList.getD i 0).toNat_lt
  omega
def word4 (c0 c1 c2 c3 : Int) : Int := Go.bits .or .u32 (Go.bits .or .u32 (Go.bits .or .u32 (c0 * 16777216) (c1 * 65536)) (c2 * 256)) c3
/-- the word of the four bytes at 4 * k -/
def wordAt (b : ByteArray) (k : Nat) : Int := word4 (byteI (b.extract (4 * k) (4 * k + 4)) 0) (byteI (b.extract (4 * k) (4 * k + 4)) 1) (byteI (b.extract (4 * k) (4 * k + 4)) 2) (byteI (b.extract (4 * k) (4 * k + 4)) 3)
theorem wordAt_u32 (b : ByteArray) (k : Nat) : U32 (wordAt b k) := by unfold wordAt word4; exact bits_u32 _ _ _
/-- the first k words -/
def schA (b : ByteArray) : Nat → List Int
  | 0 => List.replicate 64 0
  | k + 1 => (schA b k).set k (wordAt b k)
/-- the next word of the words so far -/
def nextW (ws : List Int) (i : Nat) : Int :=
  ((ws.getD (i - 16) 0 + Go.bits .xor .u32 (Go.bits .xor .u32 (rotU (ws.getD (i - 15) 0) 25) (rotU (ws.getD (i - 15) 0) 14)) (ws.getD (i - 15) 0 / 8) + ws.getD (i - 7) 0) % 4294967296 + Go.bits .xor .u32 (Go.bits .xor .u32 (rotU (ws.getD (i - 2) 0) 15) (rotU (ws.getD (i - 2) 0) 13)) (ws.getD (i - 2) 0 / 1024)) % 4294967296
def schB (b : ByteArray) : Nat → List Int
  | 0 => schA b 16
  | k + 1 => (schB b k).set (16 + k) (nextW (schB b k) (16 + k))
def schedW (b : ByteArray) : List Int := schB b 48
def AllU (ws : List Int) : Prop := ∀ i, U32 (ws.getD i 0)
theorem AllU.set {ws : List Int} (h : AllU ws) (i : Nat) {x : Int} (hx : U32 x) : AllU (ws.set i x) := by
  intro j
  rw [List.getD_eq_getElem?_getD, List.getElem?_set]
  split
  · split
    · exact hx
    · exact ⟨by decide, by decide⟩
  · have := h j
    rwa [List.getD_eq_getElem?_getD] at this
theorem schA_len (b : ByteArray) : ∀ k, (schA b k).length = 64
  | 0 => by simp [schA]
  | k + 1 => by simp [schA, schA_len b k]
theorem schB_len (b : ByteArray) : ∀ k, (schB b k).length = 64
  | 0 => schA_len b 16
  | k + 1 => by simp [schB, schB_len b k]
theorem schA_u (b : ByteArray) : ∀ k, AllU (schA b k)
  | 0 => fun i => by
    unfold schA
    rw [List.getD_eq_getElem?_getD, List.getElem?_replicate]
    split <;> exact ⟨by decide, by decide⟩
  | k + 1 => (schA_u b k).set k (wordAt_u32 b k)
theorem mod_u32 (x : Int) : U32 (x % 4294967296) := ⟨by omega, by omega⟩
theorem schB_u (b : ByteArray) : ∀ k, AllU (schB b k)
  | 0 => schA_u b 16
  | k + 1 => (schB_u b k).set (16 + k) (mod_u32 _)
end Mailsack
namespace Go.Proofs.YtomnljigoljldaaGreatDoor.SH
open Go.RowKit Mailsack MM

theorem run_idx {P : Program} {t : TypeId} (ht : P.underlying t = some .string) (s : ByteArray) (n : Int) (i : Nat) (hn : n = i) (hi : i < s.size) (w : World) : (Instr.index t (.string s) (.int .i64 n)).run P w = .ok (.int .u8 (byteI s i)) w := by
  subst hn
  rw [run_index_string _ _ _ _ _ ht, dif_pos ⟨by omega, by omega⟩]
  simp [byteI, List.getD_eq_getElem?_getD, List.getElem?_eq_getElem (show i < s.data.toList.length by simpa using hi)]
  rfl

theorem encW_one (ws : List Int) : (encW ws).all (·.oneCell') = true := by
  simp [encW, Value.oneCell']
/-- the memory of schedule's loops: the words' block -/
structure SchI (w : World) (ws : List Int) (W : World) : Prop where
  blk : W.heap[w.heap.size + 1]? = some (.cells (encW ws) 432 (0, 0))
  res : W.heap[w.heap.size]? = some (.cells (encW (List.replicate 64 0)) 432 (0, 0))
  bel : Below w.heap.size w W
theorem SchI.drew {w : World} {ws : List Int} {W : World} (h : SchI w ws W) : SchI w ws W.drew := ⟨h.blk, h.res, h.bel.drew⟩
theorem SchI.put {w : World} {ws : List Int} {W : World} (h : SchI w ws W) (i : Nat) (x : Int) : SchI w (ws.set i x) (W.setCell ⟨w.heap.size + 1, i, none⟩ (.int .u32 x)) := by
  refine ⟨?_, blk_far h.res (p := ⟨w.heap.size + 1, i, none⟩) (by simp) _, h.bel.setCell (p := ⟨w.heap.size + 1, i, none⟩) (by simp) _⟩
  have := blk_set h.blk i (.int .u32 x)
  rw [encW_set] at this
  exact this

theorem sch_cell {w : World} {ws : List Int} {z : Int} {i j : Nat} {c : Bool} {W : World} (hj : j < ws.length) (hne : j ≠ i) (h : SchI w (if c = true then ws.set i z else ws) W) : W.cell? ⟨w.heap.size + 1, j, none⟩ = some (.int .u32 (ws.getD j 0)) := by
  rw [cell_blk h.blk]
  cases c
  · exact encW_get hj
  · rw [if_pos rfl, encW_get (by simpa using hj), List.getD_eq_getElem?_getD, List.getElem?_set, if_neg (Ne.symm hne), ← List.getD_eq_getElem?_getD]

set_option maxHeartbeats 2000000 in
set_option maxRecDepth 100000 in
theorem schedule_any (b : ByteArray) (w : World) (hb : b.size = 64) :
    Calls Tryz.prog 355 #[.string b] w fun e w' => e = .returned (.agg (encW (schedW b))) ∧ Below w.heap.size w w' := by
  go_enter Tryz.func355, Tryz.ntmps355
  go_wp2_with fail
  go_loopw [11] (fun iv wr => ∃ k : Nat, k ≤ 16 ∧ iv = .int .i64 k ∧ Hid (SchI w (schA b k) wr)) (fun iv _ => 16 - (intOf iv).toNat)
  case atStart => exact ⟨0, by decide, rfl, Lib.hid ⟨two_new _ _ _, two_old _ _ _, (((Below.refl w.heap.size w).alloc (Nat.le_refl _) _).alloc (by simp) _)⟩⟩
  case round =>
    obtain ⟨k, hk, rfl, hr⟩ := hrel
    by_cases hlt : k < 16
    · go_upto_region 6 with fail
      have hl := schA_len b k
      have HW : Hid (schA b (k + 1) = (schA b k).set k (wordAt b k)) := Lib.hid rfl
      obtain ⟨z, hz⟩ : ∃ z, wordAt b k = z := ⟨_, rfl⟩
      rw [hz] at HW
      generalize schA b k = ws at hr hl HW
      refine RG.wp_region_detL [20] (fun L W => Hid (SchI w (if L 20 then ws.set k z else ws) W)) (fun L L' W h hI => by rw [← h 20 (by decide)]; exact hI) (by kernel_rfl) (by kernel_rfl) (by decide) (Lib.hid hr.out.drew) ?_
      iterate 2
        apply RG.wpDetL_still
        · rfl
        · intro L w9 hw9
          repeat go_step
          with_reducible refine RG.only_mk ?_
          exact hw9
        · rfl
      unfold wordAt at hz
      obtain ⟨x, hx⟩ : ∃ x, b.extract (4 * k) (4 * k + 4) = x := ⟨_, rfl⟩
      rw [hx] at hz ⊢
      have hxs : x.size = 4 := by rw [← hx, ByteArray.size_extract]; omega
      have i0 := fun w => run_idx (P := Tryz.prog) Tryz.underlying9 x 0 0 rfl (by omega) w
      have i1 := fun w => run_idx (P := Tryz.prog) Tryz.underlying9 x 1 1 rfl (by omega) w
      have i2 := fun w => run_idx (P := Tryz.prog) Tryz.underlying9 x 2 2 rfl (by omega) w
      have i3 := fun w => run_idx (P := Tryz.prog) Tryz.underlying9 x 3 3 rfl (by omega) w
      obtain ⟨r00, r01⟩ := byteI_range x 0
      obtain ⟨r10, r11⟩ := byteI_range x 1
      obtain ⟨r20, r21⟩ := byteI_range x 2
      obtain ⟨r30, r31⟩ := byteI_range x 3
      generalize byteI x 0 = c0 at i0 r00 r01 hz
      generalize byteI x 1 = c1 at i1 r10 r11 hz
      generalize byteI x 2 = c2 at i2 r20 r21 hz
      generalize byteI x 3 = c3 at i3 r30 r31 hz
      unfold word4 at hz
      have HZ := Lib.hid hz
      clear hx hz
      iterate 17
        apply RG.wpDetL_still
        · rfl
        · intro L w9 hw9
          repeat go_step
          with_reducible refine RG.only_mk ?_
          exact hw9
        · rfl
      rw [HZ.out]
      apply RG.wpDetL_still
      · rfl
      · intro L w9 hw9
        repeat go_step
        with_reducible refine RG.only_mk ?_
        exact hw9
      · rfl
      apply RG.wpDetL_turn
      · rfl
      · intro L w9 h0 _ hw9
        rw [h0, if_neg (by simp)] at hw9
        have q1 := cell_blk hw9.out.blk k
        rw [encW_get (by omega)] at q1
        have q2 := free_blk hw9.out.blk k
        repeat go_step
        with_reducible refine RG.only_mk ?_
        have hp := Lib.hid (hw9.out.put k z)
        rw [if_pos (by simp)]
        with_reducible exact hp
      · rfl
      refine RG.wpDetL_nil (fun w9 hw9 => ?_)
      rw [if_pos rfl, ← HW.out] at hw9
      clear i0 i1 i2 i3
      go_wp2
      exact ⟨⟨k + 1, by omega, by go_num, hw9⟩, by simp [intOf]; omega⟩
    · obtain rfl : k = 16 := by omega
      have hr0 : Hid (SchI w (schB b 0) wr) := hr
      clear hr
      go_wp2_with fail
      go_loopw [6] (fun iv wr => ∃ i : Nat, 16 ≤ i ∧ i ≤ 64 ∧ iv = .int .i64 i ∧ Hid (SchI w (schB b (i - 16)) wr)) (fun iv _ => 64 - (intOf iv).toNat)
      case atStart => exact ⟨16, by decide, by decide, rfl, hr0⟩
      case round =>
        clear hr0
        obtain ⟨i, hi, hk, rfl, hr⟩ := hrel
        by_cases hlt : i < 64
        · have hl := schB_len b (i - 16)
          have hu := schB_u b (i - 16)
          have HW : Hid (schB b (i + 1 - 16) = (schB b (i - 16)).set i (nextW (schB b (i - 16)) i)) := Lib.hid (by
            obtain ⟨k, rfl⟩ : ∃ k, i = 16 + k := ⟨i - 16, by omega⟩
            rw [show 16 + k + 1 - 16 = k + 1 by omega, show 16 + k - 16 = k by omega]
            rfl)
          obtain ⟨z, hz⟩ : ∃ z, nextW (schB b (i - 16)) i = z := ⟨_, rfl⟩
          rw [hz] at HW
          generalize schB b (i - 16) = ws at hr hl HW hz hu
          unfold nextW at hz
          have u16 := hu (i - 16)
          have u15 := hu (i - 15)
          have u7' := hu (i - 7)
          have u2 := hu (i - 2)
          have g16 : ∀ W, Hid (SchI w ws W) → W.cell? ⟨w.heap.size + 1, i - 16, none⟩ = some (.int .u32 (ws.getD (i - 16) 0)) := fun W h => by rw [cell_blk h.out.blk, encW_get (by omega)]
          have g15 : ∀ W, Hid (SchI w ws W) → W.cell? ⟨w.heap.size + 1, i - 15, none⟩ = some (.int .u32 (ws.getD (i - 15) 0)) := fun W h => by rw [cell_blk h.out.blk, encW_get (by omega)]
          have g7 : ∀ W, Hid (SchI w ws W) → W.cell? ⟨w.heap.size + 1, i - 7, none⟩ = some (.int .u32 (ws.getD (i - 7) 0)) := fun W h => by rw [cell_blk h.out.blk, encW_get (by omega)]
          have g2 : ∀ W, Hid (SchI w ws W) → W.cell? ⟨w.heap.size + 1, i - 2, none⟩ = some (.int .u32 (ws.getD (i - 2) 0)) := fun W h => by rw [cell_blk h.out.blk, encW_get (by omega)]
          have c16 : ∀ (c : Bool) W, Hid (SchI w (if c = true then ws.set i z else ws) W) → W.cell? ⟨w.heap.size + 1, i - 16, none⟩ = some (.int .u32 (ws.getD (i - 16) 0)) := fun c W h => sch_cell (i := i) (by omega) (by omega) h.out
          have c7 : ∀ (c : Bool) W, Hid (SchI w (if c = true then ws.set i z else ws) W) → W.cell? ⟨w.heap.size + 1, i - 7, none⟩ = some (.int .u32 (ws.getD (i - 7) 0)) := fun c W h => sch_cell (i := i) (by omega) (by omega) h.out
          generalize ws.getD (i - 16) 0 = v16 at hz u16 g16 c16
          generalize ws.getD (i - 15) 0 = v15 at hz u15 g15
          generalize ws.getD (i - 7) 0 = v7 at hz u7' g7 c7
          generalize ws.getD (i - 2) 0 = v2 at hz u2 g2
          have C16 := Lib.hid c16
          have C7 := Lib.hid c7
          have G15 := Lib.hid g15
          have G2 := Lib.hid g2
          have HZ := Lib.hid hz
          have R1 := Lib.hid (fun W => rot_any v15 (-7) 25 W u15 (by decide) (by decide))
          have R2 := Lib.hid (fun W => rot_any v15 (-18) 14 W u15 (by decide) (by decide))
          have R3 := Lib.hid (fun W => rot_any v2 (-17) 15 W u2 (by decide) (by decide))
          have R4 := Lib.hid (fun W => rot_any v2 (-19) 13 W u2 (by decide) (by decide))
          obtain ⟨u160, u161⟩ := u16
          obtain ⟨u150, u151⟩ := u15
          obtain ⟨u70', u71'⟩ := u7'
          obtain ⟨u20', u21'⟩ := u2
          clear hu hz g16 g15 g7 g2 c16 c7
          go_upto_region 11 with fail
          refine RG.wp_region_det (fun W => Hid (SchI w ws W)) (by kernel_rfl) (by kernel_rfl) (Lib.hid hr.out.drew) ?_
          iterate 2
            apply RG.wpDet_cons
            · intro w9 hw9
              repeat go_step
              with_reducible refine RG.only_mk ?_
              exact hw9
            · rfl
          rw [show ((i : Int) - 15) = ((i - 15 : Nat) : Int) by omega]
          iterate 2
            apply RG.wpDet_cons
            · intro w9 hw9
              have q := G15.out _ hw9
              repeat go_step
              with_reducible refine RG.only_mk ?_
              exact hw9
            · rfl
          iterate 2
            apply RG.wpDet_cons
            · intro w9 hw9
              repeat go_step
              with_reducible refine RG.only_mk ?_
              exact hw9
            · rfl
          rw [show ((i : Int) - 2) = ((i - 2 : Nat) : Int) by omega]
          iterate 2
            apply RG.wpDet_cons
            · intro w9 hw9
              have q := G2.out _ hw9
              repeat go_step
              with_reducible refine RG.only_mk ?_
              exact hw9
            · rfl
          iterate 2
            apply RG.wpDet_cons
            · intro w9 hw9
              repeat go_step
              with_reducible refine RG.only_mk ?_
              exact hw9
            · rfl
          refine RG.wpDet_nil (fun w9 hw9 => ?_)
          clear hr
          go_upto_region 12 with fail
          refine RG.wp_region_plain (fun W => Hid (SchI w ws W)) hw9 ?_
          clear hw9
          apply RG.wpDet_cons
          · intro w9 hw9
            repeat go_step
            with_reducible refine RG.only_mk ?_
            exact hw9
          · rfl
          apply RG.wpDet_cons
          · intro w9 hw9
            repeat go_step
            refine (R1.out _).mono ?_
            rintro e w10 ⟨rfl, rfl⟩
            simp only []
            repeat go_step
            with_reducible refine RG.only_mk ?_
            exact hw9
          · rfl
          apply RG.wpDet_cons
          · intro w9 hw9
            repeat go_step
            with_reducible refine RG.only_mk ?_
            exact hw9
          · rfl
          apply RG.wpDet_cons
          · intro w9 hw9
            repeat go_step
            refine (R2.out _).mono ?_
            rintro e w10 ⟨rfl, rfl⟩
            simp only []
            repeat go_step
            with_reducible refine RG.only_mk ?_
            exact hw9
          · rfl
          iterate 5
            apply RG.wpDet_cons
            · intro w9 hw9
              repeat go_step
              with_reducible refine RG.only_mk ?_
              exact hw9
            · rfl
          refine RG.wpDet_nil (fun w10 hw10 => ?_)
          go_upto_region 13 with fail
          refine RG.wp_region_plain (fun W => Hid (SchI w ws W)) hw10 ?_
          clear hw10
          apply RG.wpDet_cons
          · intro w9 hw9
            repeat go_step
            with_reducible refine RG.only_mk ?_
            exact hw9
          · rfl
          apply RG.wpDet_cons
          · intro w9 hw9
            repeat go_step
            refine (R3.out _).mono ?_
            rintro e w10 ⟨rfl, rfl⟩
            simp only []
            repeat go_step
            with_reducible refine RG.only_mk ?_
            exact hw9
          · rfl
          apply RG.wpDet_cons
          · intro w9 hw9
            repeat go_step
            with_reducible refine RG.only_mk ?_
            exact hw9
          · rfl
          apply RG.wpDet_cons
          · intro w9 hw9
            repeat go_step
            refine (R4.out _).mono ?_
            rintro e w10 ⟨rfl, rfl⟩
            simp only []
            repeat go_step
            with_reducible refine RG.only_mk ?_
            exact hw9
          · rfl
          iterate 5
            apply RG.wpDet_cons
            · intro w9 hw9
              repeat go_step
              with_reducible refine RG.only_mk ?_
              exact hw9
            · rfl
          refine RG.wpDet_nil (fun w11 hw11 => ?_)
          go_upto_region 14 with fail
          refine RG.wp_region_detL [15] (fun L W => Hid (SchI w (if L 15 then ws.set i z else ws) W)) (fun L L' W h hI => by rw [← h 15 (by decide)]; exact hI) (by kernel_rfl) (by kernel_rfl) (by decide) (Lib.hid hw11.out.drew) ?_
          iterate 3
            apply RG.wpDetL_still
            · rfl
            · intro L w9 hw9
              repeat go_step
              with_reducible refine RG.only_mk ?_
              exact hw9
            · rfl
          rw [show ((i : Int) - 16) = ((i - 16 : Nat) : Int) by omega]
          iterate 2
            apply RG.wpDetL_still
            · rfl
            · intro L w9 hw9
              have q := C16.out _ _ hw9
              repeat go_step
              with_reducible refine RG.only_mk ?_
              exact hw9
            · rfl
          iterate 4
            apply RG.wpDetL_still
            · rfl
            · intro L w9 hw9
              repeat go_step
              with_reducible refine RG.only_mk ?_
              exact hw9
            · rfl
          rw [show ((i : Int) - 7) = ((i - 7 : Nat) : Int) by omega]
          iterate 2
            apply RG.wpDetL_still
            · rfl
            · intro L w9 hw9
              have q := C7.out _ _ hw9
              repeat go_step
              with_reducible refine RG.only_mk ?_
              exact hw9
            · rfl
          iterate 3
            apply RG.wpDetL_still
            · rfl
            · intro L w9 hw9
              repeat go_step
              with_reducible refine RG.only_mk ?_
              exact hw9
            · rfl
          rw [HZ.out]
          apply RG.wpDetL_still
          · rfl
          · intro L w9 hw9
            repeat go_step
            with_reducible refine RG.only_mk ?_
            exact hw9
          · rfl
          apply RG.wpDetL_turn
          · rfl
          · intro L w9 h0 _ hw9
            rw [h0, if_neg (by simp)] at hw9
            have q1 := cell_blk hw9.out.blk i
            rw [encW_get (by omega)] at q1
            have q2 := free_blk hw9.out.blk i
            repeat go_step
            with_reducible refine RG.only_mk ?_
            have hp := Lib.hid (hw9.out.put i z)
            rw [if_pos (by simp)]
            with_reducible exact hp
          · rfl
          refine RG.wpDetL_nil (fun w12 hw12 => ?_)
          rw [if_pos rfl, ← HW.out] at hw12
          go_wp2
          exact ⟨⟨i + 1, by omega, by omega, by go_num, hw12⟩, by simp [intOf]; omega⟩
        · obtain rfl : i = 64 := by omega
          have hr2 : Hid (SchI w (schedW b) wr) := hr
          clear hr
          have hi64 : (Tryz.prog.info? 432).map (·.size) = some (encW (schedW b)).size := by rw [encW_size]; unfold schedW; rw [schB_len]; kernel_rfl
          have ho64 : (encW (List.replicate 64 0)).size = (encW (schedW b)).size := by rw [encW_size, encW_size]; unfold schedW; rw [schB_len, List.length_replicate]
          have h1 := encW_one (schedW b)
          have HI := Lib.hid hi64
          have HO := Lib.hid ho64
          have H1 := Lib.hid h1
          clear hi64 ho64 h1
          go_wp2_with (first | refine wpList_load_row rfl _ _ rfl (w.heap.size + 1) rfl _ _ (0, 0) _ hr2.out.blk Tryz.underlying432 rfl HI.out ?_ | refine wpList_store_row rfl _ _ _ rfl w.heap.size _ rfl rfl _ _ hr2.out.res HI.out HO.out H1.out ?_)
          refine bodyPost_ret (results_cell_row rfl _ _ w.heap.size _ _ (0, 0) _ rfl (setRow_heap _ _ _ _ _ _ hr2.out.res) Tryz.underlying432 rfl HI.out) rfl ?_
          exact ⟨rfl, below_setRow hr2.out.bel (Nat.le_refl _) _⟩
end Go.Proofs.YtomnljigoljldaaGreatDoor.SH

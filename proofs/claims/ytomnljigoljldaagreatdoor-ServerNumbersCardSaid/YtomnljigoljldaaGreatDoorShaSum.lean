/- What sha.Sum returns. Conditions: a text of at most 2^60 bytes; the package's two tables. -/
import Derived.Test.YtomnljigoljldaaGreatDoorShaBlock
import Derived.Test.YtomnljigoljldaaGreatDoorShaEnd
import Derived.Test.YtomnljigoljldaaGreatDoorByteOwn
namespace Mailsack
def initS : S8 := ⟨0x6a09e667, 0xbb67ae85, 0x3c6ef372, 0xa54ff53a, 0x510e527f, 0x9b05688c, 0x1f83d9ab, 0x5be0cd19⟩
theorem initS_ok : initS.ok := ⟨⟨by decide, by decide⟩, ⟨by decide, by decide⟩, ⟨by decide, by decide⟩, ⟨by decide, by decide⟩, ⟨by decide, by decide⟩, ⟨by decide, by decide⟩, ⟨by decide, by decide⟩, ⟨by decide, by decide⟩⟩
/-- the state behind k blocks of a text -/
def runB (s : S8) (b : ByteArray) : Nat → S8
  | 0 => s
  | k + 1 => blockF (runB s b k) (b.extract (64 * k) (64 * k + 64))
theorem runB_ok {s : S8} (h : s.ok) (b : ByteArray) : ∀ k, (runB s b k).ok
  | 0 => h
  | _ + 1 => blockF_ok _ _
theorem runB_succ (s : S8) (b : ByteArray) (k : Nat) : runB s b (k + 1) = blockF (runB s b k) (b.extract (64 * k) (64 * k + 64)) := rfl
def word8 (x : Int) : Bs := [oct (x / 16777216), oct (x / 65536), oct (x / 256), oct x]
/-- the first k words as bytes -/
def wordsB (l : List Int) : Nat → Bs
  | 0 => []
  | k + 1 => wordsB l k ++ word8 (l.getD k 0)
theorem wordsB_len (l : List Int) : ∀ k, (wordsB l k).length = 4 * k
  | 0 => rfl
  | k + 1 => by simp [wordsB, wordsB_len l k, word8]; omega
theorem wordsB_succ (l : List Int) (k : Nat) : wordsB l (k + 1) = wordsB l k ++ word8 (l.getD k 0) := rfl
def restB (b : ByteArray) : ByteArray := b.extract (64 * (b.size / 64)) b.size
theorem restB_size (b : ByteArray) : (restB b).size < 64 := by unfold restB; rw [ByteArray.size_extract]; omega
def tailP (b : ByteArray) : ByteArray := ⟨(endP (restB b).data.toList ((b.size : Int) * 8)).toArray⟩
def shaS (b : ByteArray) : S8 := runB (runB initS b (b.size / 64)) (tailP b) ((tailP b).size / 64)
def shaP (b : ByteArray) : Bs := wordsB (shaS b).list 8
theorem shaP_len (b : ByteArray) : (shaP b).length = 32 := wordsB_len _ 8
theorem tailP_len (b : ByteArray) : (tailP b).size = endN (restB b).data.toList := by
  have hz : (restB b).data.toList.length < 64 := by
    have := restB_size b
    simpa using this
  have h : (endP (restB b).data.toList ((b.size : Int) * 8)).length = endN (restB b).data.toList := by
    unfold endP
    exact endI_len _ _ hz 8
  unfold tailP
  generalize endP (restB b).data.toList ((b.size : Int) * 8) = l at h
  rw [← h]
  simp [ByteArray.size]
theorem tailP_size (b : ByteArray) : (tailP b).size = 64 ∨ (tailP b).size = 128 := by
  rw [tailP_len]
  unfold endN
  split
  · exact .inr rfl
  · exact .inl rfl
end Mailsack
namespace Go.Proofs.YtomnljigoljldaaGreatDoor.SH
open Go.RowKit Mailsack MM BB

/-- the memory of Sum's walk -/
structure SumI (w : World) (s : S8) (W : World) : Prop where
  st : W.heap[w.heap.size]? = some (.cells (encW s.list) 353 (0, 0))
  bel : Below w.heap.size w W
theorem SumI.drew {w : World} {s : S8} {W : World} (h : SumI w s W) : SumI w s W.drew := ⟨h.st, h.bel.drew⟩
theorem SumI.below {w : World} {s : S8} {W W' : World} (h : SumI w s W) (hb : Below W.heap.size W W') : SumI w s W' :=
  ⟨blk_below h.st hb (blk_lt h.st), h.bel.trans (hb.mono h.bel.size)⟩
theorem SumI.put {w : World} {s : S8} {W : World} (h : SumI w s W) (s' : S8) : SumI w s' (W.setRow w.heap.size (encW s'.list)) :=
  ⟨setRow_heap _ _ _ _ _ _ h.st, below_setRow h.bel (Nat.le_refl _) _⟩
theorem SumI.tab {w : World} {s : S8} {W : World} (h : SumI w s W) (ht : ShaT w) : ShaT W := ht.below h.bel (Nat.le_refl _)

theorem ext_all (b : ByteArray) : b.extract 0 b.size = b := by simp
theorem list_u {s : S8} (h : s.ok) : AllU s.list := by
  obtain ⟨h0, h1, h2, h3, h4, h5, h6, h7⟩ := h
  intro i
  match i with
  | 0 => exact h0
  | 1 => exact h1
  | 2 => exact h2
  | 3 => exact h3
  | 4 => exact h4
  | 5 => exact h5
  | 6 => exact h6
  | 7 => exact h7
  | n + 8 =>
    rw [List.getD_eq_getElem?_getD, List.getElem?_eq_none (by simp [S8.list])]
    exact ⟨by decide, by decide⟩
/-- the memory inside a round's drawn region: which of load, call, store are done -/
def SI (w : World) (s s' : S8) (l0 l3 l4 : Bool) (W : World) : Prop := (l3 = true → l0 = true) ∧ (l4 = true → l3 = true) ∧ SumI w (if l4 then s' else s) W
theorem SI.no4 {w : World} {s s' : S8} {l0 l3 l4 : Bool} {W : World} (h : SI w s s' l0 l3 l4 W) (h4 : l4 = false) : SumI w s W := by
  have := h.2.2
  rw [h4, if_neg (by simp)] at this
  exact this
theorem SI.no3 {w : World} {s s' : S8} {l0 l3 l4 : Bool} {W : World} (h : SI w s s' l0 l3 l4 W) (h3 : l3 = false) : SumI w s W :=
  h.no4 (by cases l4 with
    | false => rfl
    | true => rw [h3] at h; exact absurd (h.2.1 rfl) (by simp))
theorem SI.no0 {w : World} {s s' : S8} {l0 l3 l4 : Bool} {W : World} (h : SI w s s' l0 l3 l4 W) (h0 : l0 = false) : SumI w s W :=
  h.no3 (by cases l3 with
    | false => rfl
    | true => rw [h0] at h; exact absurd (h.1 rfl) (by simp))
theorem SI.done0 {w : World} {s s' : S8} {l0 l3 l4 : Bool} {W : World} (h : SI w s s' l0 l3 l4 W) (_ : l0 = false) : SI w s s' true l3 l4 W := ⟨fun _ => rfl, h.2.1, h.2.2⟩
theorem SI.done3 {w : World} {s s' : S8} {l0 l3 l4 : Bool} {W W' : World} (h : SI w s s' l0 l3 l4 W) (h3 : l3 = false) (h0 : l0 = true) (hb : Below W.heap.size W W') : SI w s s' l0 true l4 W' := by
  refine ⟨fun _ => h0, fun _ => rfl, ?_⟩
  have h4 : l4 = false := by cases l4 with
    | false => rfl
    | true => rw [h3] at h; exact absurd (h.2.1 rfl) (by simp)
  rw [h4, if_neg (by simp)]
  exact (h.no3 h3).below hb
theorem SI.done4 {w : World} {s s' : S8} {l0 l3 l4 : Bool} {W : World} (h : SI w s s' l0 l3 l4 W) (h4 : l4 = false) (h3 : l3 = true) : SI w s s' l0 l3 true (W.setRow w.heap.size (encW s'.list)) := by
  refine ⟨h.1, fun _ => h3, ?_⟩
  rw [if_pos rfl]
  exact (h.no4 h4).put s'

set_option maxHeartbeats 4000000 in
set_option maxRecDepth 100000 in
theorem sum_any (b : ByteArray) (w : World) (hb : b.size ≤ 1152921504606846976) (hT : ShaT w) :
    Calls Tryz.prog 177 #[.string b] w fun e w' => e = .returned (strV (shaP b)) ∧ Below w.heap.size w w' := by
  have HT := Lib.hid hT
  have hi8 : Hid (∀ s : S8, (Tryz.prog.info? 353).map (·.size) = some (encW s.list).size) := Lib.hid (fun s => by rw [encW_size]; kernel_rfl)
  have HBk := Lib.hid (fun (S : S8) (c : ByteArray) (W : World) (h1 : S.ok) (h2 : c.size = 64) (h3 : ShaT W) => block_any S c W h1 h2 h3)
  obtain ⟨t1, fr1, hini⟩ := hT.ini
  have i0 : w.cell? ⟨0, 0, none⟩ = some (.int .u32 1779033703) := cell_of_row _ _ _ _ _ _ hini
  have i1 : w.cell? ⟨0, 1, none⟩ = some (.int .u32 3144134277) := cell_of_row _ _ _ _ _ _ hini
  have i2 : w.cell? ⟨0, 2, none⟩ = some (.int .u32 1013904242) := cell_of_row _ _ _ _ _ _ hini
  have i3 : w.cell? ⟨0, 3, none⟩ = some (.int .u32 2773480762) := cell_of_row _ _ _ _ _ _ hini
  have i4 : w.cell? ⟨0, 4, none⟩ = some (.int .u32 1359893119) := cell_of_row _ _ _ _ _ _ hini
  have i5 : w.cell? ⟨0, 5, none⟩ = some (.int .u32 2600822924) := cell_of_row _ _ _ _ _ _ hini
  have i6 : w.cell? ⟨0, 6, none⟩ = some (.int .u32 528734635) := cell_of_row _ _ _ _ _ _ hini
  have i7 : w.cell? ⟨0, 7, none⟩ = some (.int .u32 1541459225) := cell_of_row _ _ _ _ _ _ hini
  clear hini hT
  have HS0 : Hid (SumI w (runB initS b 0) (w.alloc (.cells (encW initS.list) 353))) := Lib.hid ⟨blk_new _ _, (Below.refl w.heap.size w).alloc (Nat.le_refl _) _⟩
  go_enter Tryz.func177, Tryz.ntmps177
  go_wp2_with fail
  clear i0 i1 i2 i3 i4 i5 i6 i7
  go_loopw [4] (fun rv wr => ∃ k : Nat, 64 * k ≤ (b).size ∧ rv = .string ((b).extract (64 * k) (b).size) ∧ Hid (SumI w (runB (initS) (b) k) wr)) (fun rv _ => lenOf rv)
  case atStart => exact ⟨0, by omega, by rw [Nat.mul_zero, ext_all], HS0⟩
  case round =>
    clear HS0
    obtain ⟨k, hk, rfl, hr⟩ := hrel
    by_cases hlt : 64 * k + 64 ≤ (b).size
    · obtain ⟨c, hc⟩ : ∃ c, (b).extract (64 * k) (b).size = c := ⟨_, rfl⟩
      have hcs : c.size = (b).size - 64 * k := by rw [← hc, ByteArray.size_extract]; omega
      have HC0 : Hid ((b).extract (64 * k) (64 * k + 64) = c.extract 0 64) := Lib.hid (by rw [← hc, ByteArray.extract_extract]; congr 1; omega)
      have HC1 : Hid ((b).extract (64 * (k + 1)) (b).size = c.extract 64 ((b).size - 64 * k)) := Lib.hid (by rw [← hc, ByteArray.extract_extract]; congr 1 <;> omega)
      rw [hc]
      clear hc
      have hok := runB_ok initS_ok (b) k
      have HRS := Lib.hid (runB_succ (initS) (b) k)
      generalize runB (initS) (b) k = s at hr hok HRS
      have HOK := Lib.hid hok
      clear hok
      have hc64 : 64 ≤ c.size := by omega
      go_upto_region 4 with fail
      refine RG.wp_region_detL [0, 3, 4] (fun L W => Hid (SI w s (blockF s (c.extract 0 64)) (L 0) (L 3) (L 4) W)) (fun L L' W h hI => by rw [← h 0 (by decide), ← h 3 (by decide), ← h 4 (by decide)]; exact hI) (by kernel_rfl) (by kernel_rfl) (by decide) (Lib.hid ⟨(by intro h; cases h), (by intro h; cases h), hr.out.drew⟩) ?_
      apply RG.wpDetL_turn
      · rfl
      · intro L w9 h0 _ hw9
        have hs := hw9.out.no0 h0
        refine wpList_load_row rfl _ _ rfl w.heap.size rfl _ _ (0, 0) _ hs.st Tryz.underlying353 rfl (hi8.out s) ?_
        repeat go_step
        with_reducible refine RG.only_mk ?_
        exact Lib.hid (hw9.out.done0 h0)
      · rfl
      iterate 2
        apply RG.wpDetL_still
        · rfl
        · intro L w9 hw9
          repeat go_step
          with_reducible refine RG.only_mk ?_
          exact hw9
        · rfl
      apply RG.wpDetL_turn
      · rfl
      · intro L w9 h0 hd hw9
        have hs := hw9.out.no3 h0
        repeat go_step
        refine (HBk.out s _ w9 HOK.out (by rw [ByteArray.size_extract]; omega) (hs.tab HT.out)).mono ?_
        rintro e w10 ⟨rfl, hb10⟩
        simp only []
        repeat go_step
        with_reducible refine RG.only_mk ?_
        exact Lib.hid (hw9.out.done3 h0 (hd 0 (by decide)) hb10)
      · rfl
      apply RG.wpDetL_turn
      · rfl
      · intro L w9 h0 hd hw9
        have hs := hw9.out.no4 h0
        refine wpList_store_row rfl _ _ _ rfl w.heap.size _ rfl rfl _ _ hs.st (hi8.out _) (by rw [encW_size, encW_size]; rfl) (encW_one _) ?_
        repeat go_step
        with_reducible refine RG.only_mk ?_
        exact Lib.hid (hw9.out.done4 h0 (hd 3 (by decide)))
      · rfl
      refine RG.wpDetL_nil (fun w5 hw5 => ?_)
      have hw6 := Lib.hid hw5.out.2.2
      rw [if_pos rfl, ← HC0.out, ← HRS.out] at hw6
      clear hw5 hr
      go_wp2
      exact ⟨⟨k + 1, by omega, by rw [HC1.out], hw6⟩, by simp [lenOf, ByteArray.size_extract]; omega⟩
    · have hke : b.size / 64 = k := by omega
      have hs64 : (b.size : Int) * 8 < 18446744073709551616 := by omega
      have HE : Hid (∀ W, Calls Tryz.prog 274 #[.string (b.extract (64 * (b.size / 64)) b.size), .int .u64 ((b.size : Int) * 8)] W fun e w' => e = .returned (.string (tailP b)) ∧ Below W.heap.size W w') := Lib.hid (fun W => ending_any (restB b) ((b.size : Int) * 8) W (restB_size b))
      have HT2 := Lib.hid (tailP_size b)
      have HP : Hid (shaP b = wordsB (runB (runB initS b (b.size / 64)) (tailP b) ((tailP b).size / 64)).list 8) := Lib.hid rfl
      have HOK1 := Lib.hid (runB_ok initS_ok b (b.size / 64))
      rw [hke] at HE HP HOK1
      clear hke
      generalize tailP b = tl at HE HT2 HP
      generalize runB initS b k = S1 at hr HP HOK1
      have hrs : (b.extract (64 * k) b.size).size < 64 := by rw [ByteArray.size_extract]; omega
      generalize b.extract (64 * k) b.size = rs at HE hrs ⊢
      have HS64 := Lib.hid hs64
      have hneg : ¬ (64 ≤ (rs.size : Int)) := by omega
      clear hlt hk hs64 hrs
      go_upto_region 6 with fail
      have hs64 := HS64.out
      clear hneg
      go_wp2_with fail
      refine (HE.out _).mono ?_
      rintro e w4 ⟨rfl, hb4⟩
      have HS1 : Hid (SumI w (runB S1 tl 0) w4) := Lib.hid (hr.out.below hb4)
      clear hr hb4 HE hs64 HS64
      go_wp2_with fail
      go_loopw [5] (fun rv wr => ∃ k : Nat, 64 * k ≤ (tl).size ∧ rv = .string ((tl).extract (64 * k) (tl).size) ∧ Hid (SumI w (runB (S1) (tl) k) wr)) (fun rv _ => lenOf rv)
      case atStart => exact ⟨0, by omega, by rw [Nat.mul_zero, ext_all], HS1⟩
      case round =>
        clear HS1
        obtain ⟨k, hk, rfl, hr⟩ := hrel
        by_cases hlt : 64 * k + 64 ≤ (tl).size
        · obtain ⟨c, hc⟩ : ∃ c, (tl).extract (64 * k) (tl).size = c := ⟨_, rfl⟩
          have hcs : c.size = (tl).size - 64 * k := by rw [← hc, ByteArray.size_extract]; omega
          have HC0 : Hid ((tl).extract (64 * k) (64 * k + 64) = c.extract 0 64) := Lib.hid (by rw [← hc, ByteArray.extract_extract]; congr 1; omega)
          have HC1 : Hid ((tl).extract (64 * (k + 1)) (tl).size = c.extract 64 ((tl).size - 64 * k)) := Lib.hid (by rw [← hc, ByteArray.extract_extract]; congr 1 <;> omega)
          rw [hc]
          clear hc
          have hok := runB_ok HOK1.out (tl) k
          have HRS := Lib.hid (runB_succ (S1) (tl) k)
          generalize runB (S1) (tl) k = s at hr hok HRS
          have HOK := Lib.hid hok
          clear hok
          have hc64 : 64 ≤ c.size := by omega
          go_upto_region 8 with fail
          refine RG.wp_region_detL [0, 3, 4] (fun L W => Hid (SI w s (blockF s (c.extract 0 64)) (L 0) (L 3) (L 4) W)) (fun L L' W h hI => by rw [← h 0 (by decide), ← h 3 (by decide), ← h 4 (by decide)]; exact hI) (by kernel_rfl) (by kernel_rfl) (by decide) (Lib.hid ⟨(by intro h; cases h), (by intro h; cases h), hr.out.drew⟩) ?_
          apply RG.wpDetL_turn
          · rfl
          · intro L w9 h0 _ hw9
            have hs := hw9.out.no0 h0
            refine wpList_load_row rfl _ _ rfl w.heap.size rfl _ _ (0, 0) _ hs.st Tryz.underlying353 rfl (hi8.out s) ?_
            repeat go_step
            with_reducible refine RG.only_mk ?_
            exact Lib.hid (hw9.out.done0 h0)
          · rfl
          iterate 2
            apply RG.wpDetL_still
            · rfl
            · intro L w9 hw9
              repeat go_step
              with_reducible refine RG.only_mk ?_
              exact hw9
            · rfl
          apply RG.wpDetL_turn
          · rfl
          · intro L w9 h0 hd hw9
            have hs := hw9.out.no3 h0
            repeat go_step
            refine (HBk.out s _ w9 HOK.out (by rw [ByteArray.size_extract]; omega) (hs.tab HT.out)).mono ?_
            rintro e w10 ⟨rfl, hb10⟩
            simp only []
            repeat go_step
            with_reducible refine RG.only_mk ?_
            exact Lib.hid (hw9.out.done3 h0 (hd 0 (by decide)) hb10)
          · rfl
          apply RG.wpDetL_turn
          · rfl
          · intro L w9 h0 hd hw9
            have hs := hw9.out.no4 h0
            refine wpList_store_row rfl _ _ _ rfl w.heap.size _ rfl rfl _ _ hs.st (hi8.out _) (by rw [encW_size, encW_size]; rfl) (encW_one _) ?_
            repeat go_step
            with_reducible refine RG.only_mk ?_
            exact Lib.hid (hw9.out.done4 h0 (hd 3 (by decide)))
          · rfl
          refine RG.wpDetL_nil (fun w5 hw5 => ?_)
          have hw6 := Lib.hid hw5.out.2.2
          rw [if_pos rfl, ← HC0.out, ← HRS.out] at hw6
          clear hw5 hr
          go_wp2
          exact ⟨⟨k + 1, by omega, by rw [HC1.out], hw6⟩, by simp [lenOf, ByteArray.size_extract]; omega⟩
        · have hke : tl.size / 64 = k := by omega
          rw [hke] at HP
          clear hke
          have hok2 := runB_ok HOK1.out tl k
          generalize runB S1 tl k = S2 at hr HP hok2
          have hneg : ¬ (64 ≤ ((tl.extract (64 * k) tl.size).size : Int)) := by rw [ByteArray.size_extract]; omega
          generalize tl.extract (64 * k) tl.size = rs2 at hneg ⊢
          have HU := Lib.hid (list_u hok2)
          obtain ⟨s0, s1, s2, s3, s4, s5, s6, s7⟩ := S2
          clear hlt hk hok2 HT2 HOK1
          have HLst : Hid (shaP b = wordsB [s0, s1, s2, s3, s4, s5, s6, s7] 8) := HP
          have HUl : Hid (AllU [s0, s1, s2, s3, s4, s5, s6, s7]) := HU
          clear HP HU
          have hmk : ∀ W : World, (Instr.makeSlice 88 (.int .i64 0) (.int .i64 32)).run Tryz.prog W = .ok (.slice (some ⟨W.heap.size, 0, none⟩) 0 32) (W.alloc (.cells (encB (zerosB 32)) 5)) := fun W => made W 0 32 (by decide) (by decide)
          have HBW := Lib.hid (hr.out.bel.alloc hr.out.bel.size (.cells (encB (zerosB 32)) 5))
          have HOW := Lib.hid (OwnY.room wr 32 w.heap.size hr.out.bel.size (by decide))
          have hst := blk_alloc hr.out.st (.cells (encB (zerosB 32)) 5)
          have q0 : (wr.alloc (.cells (encB (zerosB 32)) 5)).cell? ⟨w.heap.size, 0, none⟩ = some (.int .u32 s0) := cell_blk hst 0
          have q1 : (wr.alloc (.cells (encB (zerosB 32)) 5)).cell? ⟨w.heap.size, 1, none⟩ = some (.int .u32 s1) := cell_blk hst 1
          have q2 : (wr.alloc (.cells (encB (zerosB 32)) 5)).cell? ⟨w.heap.size, 2, none⟩ = some (.int .u32 s2) := cell_blk hst 2
          have q3 : (wr.alloc (.cells (encB (zerosB 32)) 5)).cell? ⟨w.heap.size, 3, none⟩ = some (.int .u32 s3) := cell_blk hst 3
          have q4 : (wr.alloc (.cells (encB (zerosB 32)) 5)).cell? ⟨w.heap.size, 4, none⟩ = some (.int .u32 s4) := cell_blk hst 4
          have q5 : (wr.alloc (.cells (encB (zerosB 32)) 5)).cell? ⟨w.heap.size, 5, none⟩ = some (.int .u32 s5) := cell_blk hst 5
          have q6 : (wr.alloc (.cells (encB (zerosB 32)) 5)).cell? ⟨w.heap.size, 6, none⟩ = some (.int .u32 s6) := cell_blk hst 6
          have q7 : (wr.alloc (.cells (encB (zerosB 32)) 5)).cell? ⟨w.heap.size, 7, none⟩ = some (.int .u32 s7) := cell_blk hst 7
          clear hst hr
          go_wp2_with fail
          clear q0 q1 q2 q3 q4 q5 q6 q7 hneg hmk
          obtain ⟨i0, hi, hz0, hz1, hz2⟩ := info_row infoY
          go_loopw [6, 37] (fun ov iv wr => ∃ k : Nat, k ≤ 8 ∧ iv = .int .i64 k ∧ Hid (OwnY wr w.heap.size ov (wordsB [s0, s1, s2, s3, s4, s5, s6, s7] k)) ∧ Hid (Below w.heap.size w wr)) (fun _ iv _ => 8 - (intOf iv).toNat)
          case atStart => exact ⟨0, by decide, rfl, HOW, HBW⟩
          case round =>
            obtain ⟨k, hk, rfl, ho, hb⟩ := hrel
            clear HOW HBW
            by_cases hlt : k < 8
            · have HWS := Lib.hid (wordsB_succ [s0, s1, s2, s3, s4, s5, s6, s7] k)
              have HWL := Lib.hid (wordsB_len [s0, s1, s2, s3, s4, s5, s6, s7] k)
              obtain ⟨x, hx⟩ : ∃ x, [s0, s1, s2, s3, s4, s5, s6, s7].getD k 0 = x := ⟨_, rfl⟩
              have ux := HUl.out k
              rw [hx] at ux HWS
              have ix : ∀ W : World, (Instr.index 353 (.agg #[.int .u32 s0, .int .u32 s1, .int .u32 s2, .int .u32 s3, .int .u32 s4, .int .u32 s5, .int .u32 s6, .int .u32 s7]) (.int .i64 k)).run Tryz.prog W = .ok (.int .u32 x) W := fun W => run_idx_arr (P := Tryz.prog) Tryz.underlying353 Tryz.underlying214 (by kernel_rfl) (encW [s0, s1, s2, s3, s4, s5, s6, s7]) (.int .u32 x) k hlt (by rw [encW_get (by simpa using hlt), hx]) W
              obtain ⟨u0, u1⟩ := ux
              clear hx
              generalize wordsB [s0, s1, s2, s3, s4, s5, s6, s7] k = acc at ho HWS HWL
              obtain ⟨A, c, rfl, hc⟩ := ho.out.form
              go_upto_region 14 with fail
              clear ix
              have hv : [Value.int .u8 (x / 16777216), .int .u8 (x / 65536 % 256), .int .u8 (x / 256 % 256), .int .u8 (x % 256)] = (word8 x).map fun c => Value.int .u8 (c.toNat : Int) := by
                have e0 : x / 16777216 % 256 = x / 16777216 := by omega
                simp [word8, oct_int, e0]
              have HV := Lib.hid hv
              have HBH := Lib.hid (show w.heap.size ≤ wr.heap.size from hb.out.size)
              have HK := Lib.hid hlt
              clear hv
              go_wp2_with (at_builtin; refine wpList_append_lies _ rfl _ _ 88 rfl w.heap.size 5 i0 (.int .u8 0) 1 1 Tryz.underlying88 hi hz0 hz1 hz2 rfl (by decide) _ _ _ rfl (ho.out.alloc _) ⟨wr.heap.size, 0, none⟩ 4 4 [.int .u8 (x / 16777216), .int .u8 (x / 65536 % 256), .int .u8 (x / 256 % 256), .int .u8 (x % 256)] rfl rfl (cells_new _ _ _) (by intro u hu; simp at hu; rcases hu with rfl | rfl | rfl | rfl <;> rfl) (by decide) (by have := HWL.out; have := HK.out; unfold maxLen; omega) (by have := HWL.out; have := HK.out; omega) (by have := HBH.out; simp; omega) _ rfl ?_; intro g cap w3 hown1 hgrow1 hloc1 _; have h9 := Lib.hid (push_below ho.out.row hgrow1 hb.out HBH.out); have h8 := Lib.hid hown1; clear hown1 hgrow1 hloc1)
              exact ⟨⟨k + 1, by omega, by go_num, Lib.hid (by rw [HWS.out]; refine OwnY.of ?_; rw [← HV.out]; exact h8.out), Lib.hid h9.out⟩, by simp [intOf]; omega⟩
            · obtain rfl : k = 8 := by omega
              have ht := ho.out.text
              rw [← HLst.out] at ht
              obtain ⟨A, c, rfl, hc⟩ := ho.out.form
              clear hc
              go_wp2
              go_ret
              exact ⟨rfl, hb.out⟩
end Go.Proofs.YtomnljigoljldaaGreatDoor.SH

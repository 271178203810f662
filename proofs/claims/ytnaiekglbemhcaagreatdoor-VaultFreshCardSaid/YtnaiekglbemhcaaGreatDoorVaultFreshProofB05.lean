/- What sha.Sum returns. Conditions: a text of at most 2^60 bytes; the package's two tables. -/
import Derived.Test.YtnaiekglbemhcaaGreatDoorVaultFreshProofB04
import Derived.Test.YtnaiekglbemhcaaGreatDoorVaultFreshProofB03
set_option maxHeartbeats 8000000
set_option maxRecDepth 100000
namespace Mailsack
def xJr : S8 := ⟨0x6a09e667,0xbb67ae85,0x3c6ef372,0xa54ff53a,0x510e527f,0x9b05688c,0x1f83d9ab,0x5be0cd19⟩
theorem xP6 : xJr.ok := ⟨⟨by decide,by decide⟩,⟨by decide,by decide⟩,⟨by decide,by decide⟩,⟨by decide,by decide⟩,⟨by decide,by decide⟩,⟨by decide,by decide⟩,⟨by decide,by decide⟩,⟨by decide,by decide⟩⟩
def xM1 (s : S8) (b : ByteArray) : Nat → S8
 | 0 => s
 | k + 1 => xF3 (xM1 s b k) (b.extract (64 * k) (64 * k + 64))
theorem xJ2 {s : S8} (h : s.ok) (b : ByteArray) : ∀ k,(xM1 s b k).ok
 | 0 => h
 | _ + 1 => xW8 _ _
theorem xKq (s : S8) (b : ByteArray) (k : Nat) : xM1 s b (k + 1) = xF3 (xM1 s b k) (b.extract (64 * k) (64 * k + 64)) := rfl
def xSx (x : Int) : Bs := [oct (x / 16777216),oct (x / 65536),oct (x / 256),oct x]
def xBv (l : List Int) : Nat → Bs
 | 0 => []
 | k + 1 => xBv l k ++ xSx (l.getD k 0)
theorem xDr (l : List Int) : ∀ k,(xBv l k).length = 4 * k
 | 0 => rfl
 | k + 1 => by simp [xBv,xDr l k,xSx]; omega
theorem xMc (l : List Int) (k : Nat) : xBv l (k + 1) = xBv l k ++ xSx (l.getD k 0) := rfl
def xJ4 (b : ByteArray) : ByteArray := b.extract (64 * (b.size / 64)) b.size
theorem xHu (b : ByteArray) : (xJ4 b).size < 64 := by unfold xJ4; rw [ByteArray.size_extract]; omega
def xH7 (b : ByteArray) : ByteArray := ⟨(endP (xJ4 b).data.toList ((b.size : Int) * 8)).toArray⟩
def shaS (b : ByteArray) : S8 := xM1 (xM1 xJr b (b.size / 64)) (xH7 b) ((xH7 b).size / 64)
def xH8 (b : ByteArray) : Bs := xBv (shaS b).list 8
theorem xA3 (b : ByteArray) : (xH8 b).length = 32 := xDr _ 8
theorem xT7 (b : ByteArray) : (xH7 b).size = xSd (xJ4 b).data.toList := by
 have hz : (xJ4 b).data.toList.length < 64 := by
  have := xHu b
  simpa using this
 have h : (endP (xJ4 b).data.toList ((b.size : Int) * 8)).length = xSd (xJ4 b).data.toList := by
  unfold endP
  exact xJy _ _ hz 8
 unfold xH7
 generalize endP (xJ4 b).data.toList ((b.size : Int) * 8) = l at h
 rw [← h]
 simp [ByteArray.size]
theorem xQm (b : ByteArray) : (xH7 b).size = 64 ∨ (xH7 b).size = 128 := by
 rw [xT7]
 unfold xSd
 split
 ·exact .inr rfl
 ·exact .inl rfl
end Mailsack
namespace Go.Proofs.SH
open Go.RowKit Mailsack MM BB
structure xK4 (w : World) (s : S8) (W : World) : Prop where
 st : W.heap[w.heap.size]? = some (.cells (yX s.list) 228 (0,0))
 bel : Below w.heap.size w W
theorem xK4.drew {w : World} {s : S8} {W : World} (h : xK4 w s W) : xK4 w s W.drew := ⟨h.st,h.bel.drew⟩
theorem xK4.below {w : World} {s : S8} {W W' : World} (h : xK4 w s W) (hb : Below W.heap.size W W') : xK4 w s W' :=
 ⟨xE h.st hb (xI h.st),h.bel.trans (hb.mono h.bel.size)⟩
theorem xK4.put {w : World} {s : S8} {W : World} (h : xK4 w s W) (s' : S8) : xK4 w s' (W.setRow w.heap.size (yX s'.list)) :=
 ⟨setRow_heap _ _ _ _ _ _ h.st,below_setRow h.bel (Nat.le_refl _) _⟩
theorem xK4.tab {w : World} {s : S8} {W : World} (h : xK4 w s W) (ht : vT w) : vT W := ht.below h.bel (Nat.le_refl _)
theorem xVr (b : ByteArray) : b.extract 0 b.size = b := by simp
theorem list_u {s : S8} (h : s.ok) : jO s.list := by
 obtain ⟨h0,h1,h2,h3,h4,h5,h6,h7⟩ := h
 intro i
 match i with
 | 0 => exact h0
 | 1 => exact h1
 | 2 => exact h2
 | 3 => exact h3
 | 4 => exact h4
 | 5 => exact h5
 | 6 => exact h6
 | 7 => exact h7
 | n + 8 =>
  rw [List.getD_eq_getElem?_getD,List.getElem?_eq_none (by simp [S8.list])]
  exact ⟨by decide,by decide⟩
def SI (w : World) (s s' : S8) (l0 l3 l4 : Bool) (W : World) : Prop := (l3 = true → l0 = true) ∧ (l4 = true → l3 = true) ∧ xK4 w (if l4 then s' else s) W
theorem SI.no4 {w : World} {s s' : S8} {l0 l3 l4 : Bool} {W : World} (h : SI w s s' l0 l3 l4 W) (h4 : l4 = false) : xK4 w s W := by
 have := h.2.2
 rw [h4,if_neg (by simp)] at this
 exact this
theorem SI.no3 {w : World} {s s' : S8} {l0 l3 l4 : Bool} {W : World} (h : SI w s s' l0 l3 l4 W) (h3 : l3 = false) : xK4 w s W :=
 h.no4 (by cases l4 with
  | false => rfl
  | true => rw [h3] at h; exact absurd (h.2.1 rfl) (by simp))
theorem SI.no0 {w : World} {s s' : S8} {l0 l3 l4 : Bool} {W : World} (h : SI w s s' l0 l3 l4 W) (h0 : l0 = false) : xK4 w s W :=
 h.no3 (by cases l3 with
  | false => rfl
  | true => rw [h0] at h; exact absurd (h.1 rfl) (by simp))
theorem SI.done0 {w : World} {s s' : S8} {l0 l3 l4 : Bool} {W : World} (h : SI w s s' l0 l3 l4 W) (_ : l0 = false) : SI w s s' true l3 l4 W := ⟨fun _ => rfl,h.2.1,h.2.2⟩
theorem SI.done3 {w : World} {s s' : S8} {l0 l3 l4 : Bool} {W W' : World} (h : SI w s s' l0 l3 l4 W) (h3 : l3 = false) (h0 : l0 = true) (hb : Below W.heap.size W W') : SI w s s' l0 true l4 W' := by
 refine ⟨fun _ => h0,fun _ => rfl,?_⟩
 have h4 : l4 = false := by cases l4 with
  | false => rfl
  | true => rw [h3] at h; exact absurd (h.2.1 rfl) (by simp)
 rw [h4,if_neg (by simp)]
 exact (h.no3 h3).below hb
theorem SI.done4 {w : World} {s s' : S8} {l0 l3 l4 : Bool} {W : World} (h : SI w s s' l0 l3 l4 W) (h4 : l4 = false) (h3 : l3 = true) : SI w s s' l0 l3 true (W.setRow w.heap.size (yX s'.list)) := by
 refine ⟨h.1,fun _ => h3,?_⟩
 rw [if_pos rfl]
 exact (h.no4 h4).put s'
theorem xFv (b : ByteArray) (w : World) (hb : b.size ≤ 1152921504606846976) (hT : vT w) :
  Calls Tryz.prog 103 #[.string b] w fun e w' => e = .returned (xU (xH8 b)) ∧ Below w.heap.size w w' := by
 have HT := hI' hT
 have hi8 : Hid (∀ s : S8,(Tryz.prog.info? 228).map (·.size) = some (yX s.list).size) := hI' (fun s => by rw [zB]; kernel_rfl)
 have HBk := hI' (fun (S : S8) (c : ByteArray) (W : World) (h1 : S.ok) (h2 : c.size = 64) (h3 : vT W) => xW7 S c W h1 h2 h3)
 obtain ⟨t1,fr1,xYc⟩ := hT.ini
 have i0 : w.cell? ⟨0,0,none⟩ = some (.int .u32 1779033703) := cell_of_row _ _ _ _ _ _ xYc
 have i1 : w.cell? ⟨0,1,none⟩ = some (.int .u32 3144134277) := cell_of_row _ _ _ _ _ _ xYc
 have i2 : w.cell? ⟨0,2,none⟩ = some (.int .u32 1013904242) := cell_of_row _ _ _ _ _ _ xYc
 have i3 : w.cell? ⟨0,3,none⟩ = some (.int .u32 2773480762) := cell_of_row _ _ _ _ _ _ xYc
 have i4 : w.cell? ⟨0,4,none⟩ = some (.int .u32 1359893119) := cell_of_row _ _ _ _ _ _ xYc
 have i5 : w.cell? ⟨0,5,none⟩ = some (.int .u32 2600822924) := cell_of_row _ _ _ _ _ _ xYc
 have i6 : w.cell? ⟨0,6,none⟩ = some (.int .u32 528734635) := cell_of_row _ _ _ _ _ _ xYc
 have i7 : w.cell? ⟨0,7,none⟩ = some (.int .u32 1541459225) := cell_of_row _ _ _ _ _ _ xYc
 clear xYc hT
 have HS0 : Hid (xK4 w (xM1 xJr b 0) (w.alloc (.cells (yX xJr.list) 228))) := hI' ⟨xM _ _,(Below.refl w.heap.size w).alloc (Nat.le_refl _) _⟩
 go_enter Tryz.func103,Tryz.ntmps103
 go_wp2_with fail
 clear i0 i1 i2 i3 i4 i5 i6 i7
 go_loopw [4] (fun rv wr => ∃ k : Nat,64 * k ≤ (b).size ∧ rv = .string ((b).extract (64 * k) (b).size) ∧ Hid (xK4 w (xM1 (xJr) (b) k) wr)) (fun rv _ => lenOf rv)
 case atStart => exact ⟨0,by omega,by rw [Nat.mul_zero,xVr],HS0⟩
 case round =>
  clear HS0
  obtain ⟨k,hk,rfl,hr⟩ := hrel
  by_cases hlt : 64 * k + 64 ≤ (b).size
  ·obtain ⟨c,hc⟩ : ∃ c,(b).extract (64 * k) (b).size = c := ⟨_,rfl⟩
   have hcs : c.size = (b).size - 64 * k := by rw [← hc,ByteArray.size_extract]; omega
   have HC0 : Hid ((b).extract (64 * k) (64 * k + 64) = c.extract 0 64) := hI' (by rw [← hc,ByteArray.extract_extract]; congr 1; omega)
   have HC1 : Hid ((b).extract (64 * (k + 1)) (b).size = c.extract 64 ((b).size - 64 * k)) := hI' (by rw [← hc,ByteArray.extract_extract]; congr 1 <;> omega)
   rw [hc]
   clear hc
   have hok := xJ2 xP6 (b) k
   have HRS := hI' (xKq (xJr) (b) k)
   generalize xM1 (xJr) (b) k = s at hr hok HRS
   have HOK := hI' hok
   clear hok
   have hc64 : 64 ≤ c.size := by omega
   go_upto_region 4 with fail
   refine RG.vE [0,3,4] (fun L W => Hid (SI w s (xF3 s (c.extract 0 64)) (L 0) (L 3) (L 4) W)) (fun L L' W h hI => by rw [← h 0 (by decide),← h 3 (by decide),← h 4 (by decide)]; exact hI) (by kernel_rfl) (by kernel_rfl) (by decide) (hI' ⟨(by intro h; cases h),(by intro h; cases h),hr.out.drew⟩) ?_
   apply RG.uJ
   ·rfl
   ·intro L w9 h0 _ hw9
    have hs := hw9.out.no0 h0
    refine wpList_load_row rfl _ _ rfl w.heap.size rfl _ _ (0,0) _ hs.st Tryz.underlying228 rfl (hi8.out s) ?_
    repeat go_step
    with_reducible refine RG.xB ?_
    exact hI' (hw9.out.done0 h0)
   ·rfl
   iterate 2
    apply RG.zL
    ·rfl
    ·intro L w9 hw9
     repeat go_step
     with_reducible exact RG.xB hw9
    ·rfl
   apply RG.uJ
   ·rfl
   ·intro L w9 h0 hd hw9
    have hs := hw9.out.no3 h0
    repeat go_step
    refine (HBk.out s _ w9 HOK.out (by rw [ByteArray.size_extract]; omega) (hs.tab HT.out)).mono ?_
    rintro e w10 ⟨rfl,yA⟩
    simp only []
    repeat go_step
    with_reducible refine RG.xB ?_
    exact hI' (hw9.out.done3 h0 (hd 0 (by decide)) yA)
   ·rfl
   apply RG.uJ
   ·rfl
   ·intro L w9 h0 hd hw9
    have hs := hw9.out.no4 h0
    refine wpList_store_row rfl _ _ _ rfl w.heap.size _ rfl rfl _ _ hs.st (hi8.out _) (by rw [zB,zB]; rfl) (pU _) ?_
    repeat go_step
    with_reducible refine RG.xB ?_
    exact hI' (hw9.out.done4 h0 (hd 3 (by decide)))
   ·rfl
   refine RG.yP (fun w5 hw5 => ?_)
   have hw6 := hI' hw5.out.2.2
   rw [if_pos rfl,← HC0.out,← HRS.out] at hw6
   clear hw5 hr
   go_wp2
   exact ⟨⟨k + 1,by omega,by rw [HC1.out],hw6⟩,by simp [lenOf,ByteArray.size_extract]; omega⟩
  ·have hke : b.size / 64 = k := by omega
   have hs64 : (b.size : Int) * 8 < 18446744073709551616 := by omega
   have HE : Hid (∀ W,Calls Tryz.prog 157 #[.string (b.extract (64 * (b.size / 64)) b.size),.int .u64 ((b.size : Int) * 8)] W fun e w' => e = .returned (.string (xH7 b)) ∧ Below W.heap.size W w') := hI' (fun W => xRq (xJ4 b) ((b.size : Int) * 8) W (xHu b))
   have HT2 := hI' (xQm b)
   have HP : Hid (xH8 b = xBv (xM1 (xM1 xJr b (b.size / 64)) (xH7 b) ((xH7 b).size / 64)).list 8) := hI' rfl
   have HOK1 := hI' (xJ2 xP6 b (b.size / 64))
   rw [hke] at HE HP HOK1
   clear hke
   generalize xH7 b = tl at HE HT2 HP
   generalize xM1 xJr b k = S1 at hr HP HOK1
   have hrs : (b.extract (64 * k) b.size).size < 64 := by rw [ByteArray.size_extract]; omega
   generalize b.extract (64 * k) b.size = rs at HE hrs ⊢
   have HS64 := hI' hs64
   have hneg : ¬ (64 ≤ (rs.size : Int)) := by omega
   clear hlt hk hs64 hrs
   go_upto_region 6 with fail
   have hs64 := HS64.out
   clear hneg
   go_wp2_with fail
   refine (HE.out _).mono ?_
   rintro e w4 ⟨rfl,hb4⟩
   have HS1 : Hid (xK4 w (xM1 S1 tl 0) w4) := hI' (hr.out.below hb4)
   clear hr hb4 HE hs64 HS64
   go_wp2_with fail
   go_loopw [5] (fun rv wr => ∃ k : Nat,64 * k ≤ (tl).size ∧ rv = .string ((tl).extract (64 * k) (tl).size) ∧ Hid (xK4 w (xM1 (S1) (tl) k) wr)) (fun rv _ => lenOf rv)
   case atStart => exact ⟨0,by omega,by rw [Nat.mul_zero,xVr],HS1⟩
   case round =>
    clear HS1
    obtain ⟨k,hk,rfl,hr⟩ := hrel
    by_cases hlt : 64 * k + 64 ≤ (tl).size
    ·obtain ⟨c,hc⟩ : ∃ c,(tl).extract (64 * k) (tl).size = c := ⟨_,rfl⟩
     have hcs : c.size = (tl).size - 64 * k := by rw [← hc,ByteArray.size_extract]; omega
     have HC0 : Hid ((tl).extract (64 * k) (64 * k + 64) = c.extract 0 64) := hI' (by rw [← hc,ByteArray.extract_extract]; congr 1; omega)
     have HC1 : Hid ((tl).extract (64 * (k + 1)) (tl).size = c.extract 64 ((tl).size - 64 * k)) := hI' (by rw [← hc,ByteArray.extract_extract]; congr 1 <;> omega)
     rw [hc]
     clear hc
     have hok := xJ2 HOK1.out (tl) k
     have HRS := hI' (xKq (S1) (tl) k)
     generalize xM1 (S1) (tl) k = s at hr hok HRS
     have HOK := hI' hok
     clear hok
     have hc64 : 64 ≤ c.size := by omega
     go_upto_region 8 with fail
     refine RG.vE [0,3,4] (fun L W => Hid (SI w s (xF3 s (c.extract 0 64)) (L 0) (L 3) (L 4) W)) (fun L L' W h hI => by rw [← h 0 (by decide),← h 3 (by decide),← h 4 (by decide)]; exact hI) (by kernel_rfl) (by kernel_rfl) (by decide) (hI' ⟨(by intro h; cases h),(by intro h; cases h),hr.out.drew⟩) ?_
     apply RG.uJ
     ·rfl
     ·intro L w9 h0 _ hw9
      have hs := hw9.out.no0 h0
      refine wpList_load_row rfl _ _ rfl w.heap.size rfl _ _ (0,0) _ hs.st Tryz.underlying228 rfl (hi8.out s) ?_
      repeat go_step
      with_reducible refine RG.xB ?_
      exact hI' (hw9.out.done0 h0)
     ·rfl
     iterate 2
      apply RG.zL
      ·rfl
      ·intro L w9 hw9
       repeat go_step
       with_reducible exact RG.xB hw9
      ·rfl
     apply RG.uJ
     ·rfl
     ·intro L w9 h0 hd hw9
      have hs := hw9.out.no3 h0
      repeat go_step
      refine (HBk.out s _ w9 HOK.out (by rw [ByteArray.size_extract]; omega) (hs.tab HT.out)).mono ?_
      rintro e w10 ⟨rfl,yA⟩
      simp only []
      repeat go_step
      with_reducible refine RG.xB ?_
      exact hI' (hw9.out.done3 h0 (hd 0 (by decide)) yA)
     ·rfl
     apply RG.uJ
     ·rfl
     ·intro L w9 h0 hd hw9
      have hs := hw9.out.no4 h0
      refine wpList_store_row rfl _ _ _ rfl w.heap.size _ rfl rfl _ _ hs.st (hi8.out _) (by rw [zB,zB]; rfl) (pU _) ?_
      repeat go_step
      with_reducible refine RG.xB ?_
      exact hI' (hw9.out.done4 h0 (hd 3 (by decide)))
     ·rfl
     refine RG.yP (fun w5 hw5 => ?_)
     have hw6 := hI' hw5.out.2.2
     rw [if_pos rfl,← HC0.out,← HRS.out] at hw6
     clear hw5 hr
     go_wp2
     exact ⟨⟨k + 1,by omega,by rw [HC1.out],hw6⟩,by simp [lenOf,ByteArray.size_extract]; omega⟩
    ·have hke : tl.size / 64 = k := by omega
     rw [hke] at HP
     clear hke
     have hok2 := xJ2 HOK1.out tl k
     generalize xM1 S1 tl k = S2 at hr HP hok2
     have hneg : ¬ (64 ≤ ((tl.extract (64 * k) tl.size).size : Int)) := by rw [ByteArray.size_extract]; omega
     generalize tl.extract (64 * k) tl.size = rs2 at hneg ⊢
     have HU := hI' (list_u hok2)
     obtain ⟨s0,s1,s2,s3,s4,s5,s6,s7⟩ := S2
     clear hlt hk hok2 HT2 HOK1
     have HLst : Hid (xH8 b = xBv [s0,s1,s2,s3,s4,s5,s6,s7] 8) := HP
     have HUl : Hid (jO [s0,s1,s2,s3,s4,s5,s6,s7]) := HU
     clear HP HU
     have hmk : ∀ W : World,(Instr.makeSlice 113 (.int .i64 0) (.int .i64 32)).run Tryz.prog W = .ok (.slice (some ⟨W.heap.size,0,none⟩) 0 32) (W.alloc (.cells (yJ (xQ 32)) 5)) := fun W => made W 0 32 (by decide) (by decide)
     have HBW := hI' (hr.out.bel.alloc hr.out.bel.size (.cells (yJ (xQ 32)) 5))
     have HOW := hI' (uP.room wr 32 w.heap.size hr.out.bel.size (by decide))
     have hst := xP hr.out.st (.cells (yJ (xQ 32)) 5)
     have q0 : (wr.alloc (.cells (yJ (xQ 32)) 5)).cell? ⟨w.heap.size,0,none⟩ = some (.int .u32 s0) := xA hst 0
     have q1 : (wr.alloc (.cells (yJ (xQ 32)) 5)).cell? ⟨w.heap.size,1,none⟩ = some (.int .u32 s1) := xA hst 1
     have q2 : (wr.alloc (.cells (yJ (xQ 32)) 5)).cell? ⟨w.heap.size,2,none⟩ = some (.int .u32 s2) := xA hst 2
     have q3 : (wr.alloc (.cells (yJ (xQ 32)) 5)).cell? ⟨w.heap.size,3,none⟩ = some (.int .u32 s3) := xA hst 3
     have q4 : (wr.alloc (.cells (yJ (xQ 32)) 5)).cell? ⟨w.heap.size,4,none⟩ = some (.int .u32 s4) := xA hst 4
     have q5 : (wr.alloc (.cells (yJ (xQ 32)) 5)).cell? ⟨w.heap.size,5,none⟩ = some (.int .u32 s5) := xA hst 5
     have q6 : (wr.alloc (.cells (yJ (xQ 32)) 5)).cell? ⟨w.heap.size,6,none⟩ = some (.int .u32 s6) := xA hst 6
     have q7 : (wr.alloc (.cells (yJ (xQ 32)) 5)).cell? ⟨w.heap.size,7,none⟩ = some (.int .u32 s7) := xA hst 7
     clear hst hr
     go_wp2_with fail
     clear q0 q1 q2 q3 q4 q5 q6 q7 hneg hmk
     obtain ⟨i0,hi,hz0,hz1,hz2⟩ := wH xRf
     go_loopw [6,37] (fun ov iv wr => ∃ k : Nat,k ≤ 8 ∧ iv = .int .i64 k ∧ Hid (uP wr w.heap.size ov (xBv [s0,s1,s2,s3,s4,s5,s6,s7] k)) ∧ Hid (Below w.heap.size w wr)) (fun _ iv _ => 8 - (intOf iv).toNat)
     case atStart => exact ⟨0,by decide,rfl,HOW,HBW⟩
     case round =>
      obtain ⟨k,hk,rfl,ho,hb⟩ := hrel
      clear HOW HBW
      by_cases hlt : k < 8
      ·have HWS := hI' (xMc [s0,s1,s2,s3,s4,s5,s6,s7] k)
       have HWL := hI' (xDr [s0,s1,s2,s3,s4,s5,s6,s7] k)
       obtain ⟨x,hx⟩ : ∃ x,[s0,s1,s2,s3,s4,s5,s6,s7].getD k 0 = x := ⟨_,rfl⟩
       have ux := HUl.out k
       rw [hx] at ux HWS
       have ix : ∀ W : World,(Instr.index 228 (.agg #[.int .u32 s0,.int .u32 s1,.int .u32 s2,.int .u32 s3,.int .u32 s4,.int .u32 s5,.int .u32 s6,.int .u32 s7]) (.int .i64 k)).run Tryz.prog W = .ok (.int .u32 x) W := fun W => kD (P := Tryz.prog) Tryz.underlying228 Tryz.underlying184 (by kernel_rfl) (yX [s0,s1,s2,s3,s4,s5,s6,s7]) (.int .u32 x) k hlt (by rw [uV (by simpa using hlt),hx]) W
       obtain ⟨u0,u1⟩ := ux
       clear hx
       generalize xBv [s0,s1,s2,s3,s4,s5,s6,s7] k = acc at ho HWS HWL
       obtain ⟨A,c,rfl,hc⟩ := ho.out.form
       go_upto_region 14 with fail
       clear ix
       have hv : [Value.int .u8 (x / 16777216),.int .u8 (x / 65536 % 256),.int .u8 (x / 256 % 256),.int .u8 (x % 256)] = (xSx x).map fun c => Value.int .u8 (c.toNat : Int) := by
        have e0 : x / 16777216 % 256 = x / 16777216 := by omega
        simp [xSx,kT,e0]
       have HV := hI' hv
       have HBH := hI' (show w.heap.size ≤ wr.heap.size from hb.out.size)
       have HK := hI' hlt
       clear hv
       go_wp2_with (at_builtin; refine wpList_append_lies _ rfl _ _ 113 rfl w.heap.size 5 i0 (.int .u8 0) 1 1 Tryz.underlying113 hi hz0 hz1 hz2 rfl (by decide) _ _ _ rfl (ho.out.alloc _) ⟨wr.heap.size,0,none⟩ 4 4 [.int .u8 (x / 16777216),.int .u8 (x / 65536 % 256),.int .u8 (x / 256 % 256),.int .u8 (x % 256)] rfl rfl (xW3 _ _ _) (by intro u hu; simp at hu; rcases hu with rfl | rfl | rfl | rfl <;> rfl) (by decide) (by have := HWL.out; have := HK.out; unfold maxLen; omega) (by have := HWL.out; have := HK.out; omega) (by have := HBH.out; simp; omega) _ rfl ?_; intro g cap w3 hown1 hgrow1 hloc1 _; have h9 := hI' (xQw ho.out.row hgrow1 hb.out HBH.out); have h8 := hI' hown1; clear hown1 hgrow1 hloc1)
       exact ⟨⟨k + 1,by omega,by go_num,hI' (by rw [HWS.out]; refine uP.of ?_; rw [← HV.out]; exact h8.out),hI' h9.out⟩,by simp [intOf]; omega⟩
      ·obtain rfl : k = 8 := by omega
       have ht := ho.out.text
       rw [← HLst.out] at ht
       obtain ⟨A,c,rfl,hc⟩ := ho.out.form
       clear hc
       go_wp2
       go_ret
       exact ⟨rfl,hb.out⟩
end Go.Proofs.SH

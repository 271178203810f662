/- What server.draw returns, and what it turns. Conditions: the server's block; its first hundred draws; the package sha's tables; strconv.Itoa's contract. -/
import Derived.Test.YtomnljigoljldaaGreatDoorSrvMem
import Derived.Test.YtomnljigoljldaaGreatDoorMacDraw
import Derived.Test.YtomnljigoljldaaGreatDoorRegA
namespace Mailsack
/-- what is drawn by a seed, for a number's digits -/
def drawB (seed x : ByteArray) : ByteArray := bsA (drawP seed ⟨#[]⟩ (⟨#[100, 114, 97, 119, 32]⟩ ++ x) 92)
end Mailsack
namespace Go.Proofs.YtomnljigoljldaaGreatDoor.SV
open Go.RowKit MM Mailsack
abbrev drwV (bb : ByteArray) : Value := .agg #[.string (bb.extract 16 28), .string (bb.extract 60 92), .string (bb.extract 0 16), .string (bb.extract 16 28), .string (bb.extract 28 60), .int .i64 2]

abbrev freO (a b c : Value) (n : Int) : Obj := .cells #[a, b, c, .int .i64 n] 74
/-- the memory of draw's walk -/
structure DrI (w : World) (sb : Nat) (d0 d1 : Value) (seed : ByteArray) (k last : Int) (mv : Value) (W : World) : Prop where
  srv : W.heap[sb]? = some (srvO d0 d1 seed k last mv)
  res : W.heap[w.heap.size]? = some drwZ
  tn : Tn (fun i => i = sb) w W
  ne : sb < w.heap.size
theorem DrI.below {w : World} {sb : Nat} {d0 d1 : Value} {seed : ByteArray} {k last : Int} {mv : Value} {W W' : World} (h : DrI w sb d0 d1 seed k last mv W) (hb : Below W.heap.size W W') : DrI w sb d0 d1 seed k last mv W' :=
  ⟨blk_below h.srv hb (blk_lt h.srv), blk_below h.res hb (blk_lt h.res), h.tn.call hb, h.ne⟩
theorem DrI.drew {w : World} {sb : Nat} {d0 d1 : Value} {seed : ByteArray} {k last : Int} {mv : Value} {W : World} (h : DrI w sb d0 d1 seed k last mv W) : DrI w sb d0 d1 seed k last mv W.drew := ⟨h.srv, h.res, h.tn.drew, h.ne⟩

/-- .. and the keys' block g -/
structure DrN (w : World) (sb : Nat) (d0 d1 : Value) (seed : ByteArray) (k last : Int) (mv : Value) (res : Obj) (g : Nat) (o : Obj) (W : World) : Prop where
  srv : W.heap[sb]? = some (srvO d0 d1 seed k last mv)
  res : W.heap[w.heap.size]? = some res
  at_ : W.heap[g]? = some o
  lo : w.heap.size < g
  tn : Tn (fun i => i = sb) w W
  ne : sb < w.heap.size

set_option maxHeartbeats 1000000 in
set_option maxRecDepth 100000 in
theorem sdraw_any (sb : Nat) (d0 d1 mv : Value) (seed x : ByteArray) (k : Nat) (last : Int) (w : World) (h : w.heap[sb]? = some (srvO d0 d1 seed k last mv)) (hk : k ≤ 1000000) (hs : seed.size ≤ 1000) (hT : SH.ShaT w)
    (hIt : ∀ W, Calls Tryz.prog 54 #[.int .i64 k] W fun e w' => e = .returned (.string x) ∧ w' = W) (hx : x.size ≤ 100) :
    Calls Tryz.prog 24 #[pt sb] w fun e w' => e = .returned (drwV (drawB seed x)) ∧ w'.heap[sb]? = some (srvO d0 d1 seed (k + 1) last mv) ∧ Tn (fun i => i = sb) w w' := by
  have HT := Lib.hid (fun W (h : Below w.heap.size w W) => hT.below h (Nat.le_refl _))
  have hlt := blk_lt h
  have HI : Hid (DrI w sb d0 d1 seed k last mv (w.alloc drwZ)) := Lib.hid ⟨blk_alloc h _, blk_new _ _, (Tn.refl _ _).alloc _, hlt⟩
  have HB0 := Lib.hid ((Below.refl w.heap.size w).alloc (Nat.le_refl _) drwZ)
  have HDB : Hid (drawB seed x = bsA (drawP seed ⟨#[]⟩ (⟨#[100, 114, 97, 119, 32]⟩ ++ x) 92)) := Lib.hid rfl
  obtain ⟨dt, hdt⟩ : ∃ dt : ByteArray, (⟨#[100, 114, 97, 119, 32]⟩ : ByteArray) = dt := ⟨_, rfl⟩
  rw [hdt] at HDB
  have hds : dt.size = 5 := by rw [← hdt]; rfl
  have nb1 : ¬ (9223372036854775807 < dt.size + x.size) := by omega
  have HM : Hid (∀ W, SH.ShaT W → Calls Tryz.prog 53 #[.string seed, .string ⟨#[]⟩, .string (dt ++ x), .int .i64 92] W fun e w' => e = .returned (.tuple #[strV (drawP seed ⟨#[]⟩ (dt ++ x) 92), .int .i64 0]) ∧ Below W.heap.size W w') := Lib.hid (fun W hW => by
    have := SH.draw_any seed ⟨#[]⟩ (dt ++ x) 92 W (by omega) (by decide) (by rw [ByteArray.size_append]; omega) (by decide) hW
    exact this)
  have HL := Lib.hid (drawP_len seed ⟨#[]⟩ (dt ++ x) 92)
  generalize drawP seed ⟨#[]⟩ (dt ++ x) 92 = bl at HM HL HDB
  obtain ⟨bb, hbb⟩ : ∃ bb : ByteArray, (⟨bl.toArray⟩ : ByteArray) = bb := ⟨_, rfl⟩
  rw [show strV bl = .string bb by rw [← hbb]] at HM
  have hbs : bb.size = 92 := by rw [← hbb]; simpa [ByteArray.size] using HL.out
  have HIT := Lib.hid hIt
  have HDB2 : Hid (drawB seed x = bb) := Lib.hid (HDB.out.trans hbb)
  clear hT hs hIt hx hbb HL HDB
  go_enter Tryz.func24, Tryz.ntmps24
  go_upto_region 1 with fail
  generalize hW : w.alloc drwZ = w1 at HI HB0
  rw [hdt]
  refine RG.wp_region_det (fun W => Hid (DrI w sb d0 d1 seed k last mv W ∧ Below w.heap.size w W)) (by kernel_rfl) (by kernel_rfl) (Lib.hid ⟨HI.out.drew, HB0.out.drew⟩) ?_
  clear HI HB0 hW
  iterate 3
    apply RG.wpDet_cons
    · intro w9 hw9
      repeat go_step
      with_reducible refine RG.only_mk ?_
      exact hw9
    · rfl
  apply RG.wpDet_cons
  · intro w9 hw9
    have q := cell_blk hw9.out.1.srv 2
    repeat go_step
    with_reducible refine RG.only_mk ?_
    exact hw9
  · rfl
  iterate 3
    apply RG.wpDet_cons
    · intro w9 hw9
      repeat go_step
      with_reducible refine RG.only_mk ?_
      exact hw9
    · rfl
  apply RG.wpDet_cons
  · intro w9 hw9
    have q := cell_blk hw9.out.1.srv 3
    repeat go_step
    with_reducible refine RG.only_mk ?_
    exact hw9
  · rfl
  apply RG.wpDet_cons
  · intro w9 hw9
    repeat go_step
    refine (HIT.out _).mono ?_
    rintro e w10 ⟨rfl, rfl⟩
    simp only []
    repeat go_step
    with_reducible refine RG.only_mk ?_
    exact hw9
  · rfl
  apply RG.wpDet_cons
  · intro w9 hw9
    repeat go_step
    with_reducible refine RG.only_mk ?_
    exact hw9
  · rfl
  apply RG.wpDet_cons
  · intro w9 hw9
    repeat go_step
    refine (HM.out _ (HT.out _ hw9.out.2)).mono ?_
    rintro e w10 ⟨rfl, hb10⟩
    simp only []
    repeat go_step
    with_reducible refine RG.only_mk ?_
    exact Lib.hid ⟨hw9.out.1.below hb10, hw9.out.2.trans (hb10.mono hw9.out.2.size)⟩
  · rfl
  iterate 5
    apply RG.wpDet_cons
    · intro w9 hw9
      repeat go_step
      with_reducible refine RG.only_mk ?_
      exact hw9
    · rfl
  refine RG.wpDet_nil (fun w2 hw2 => ?_)
  clear HM HIT nb1 hdt hds HT
  have k3 := cell_blk hw2.out.1.srv 3
  have y3 := free_blk hw2.out.1.srv 3
  have HI2 : Hid (DrI w sb d0 d1 seed ((k : Int) + 1) last mv (w2.setCell ⟨sb, 3, none⟩ (.int .i64 ((k : Int) + 1)))) := Lib.hid ⟨blk_set hw2.out.1.srv 3 _, blk_far hw2.out.1.res (p := ⟨sb, 3, none⟩) (by simp; omega) _, hw2.out.1.tn.set (p := ⟨sb, 3, none⟩) (.inl rfl) _, hlt⟩
  clear hw2
  go_upto_region 5 with fail
  generalize w2.setCell ⟨sb, 3, none⟩ (.int .i64 ((k : Int) + 1)) = w3 at HI2 ⊢
  clear k3 y3 h w2
  refine RG.wp_region_detA [8] [7] (fun L α W => Hid (DrI w sb d0 d1 seed ((k : Int) + 1) last mv W ∧ (L 7 = true → W.heap[α 7]? = some (if L 8 = true then freO (.string (bb.extract 0 16)) (.string (bb.extract 16 28)) (.string (bb.extract 28 60)) 2 else freO es es es 0) ∧ w.heap.size < α 7))) (fun L L' α α' W hl ha h => Lib.hid ⟨h.out.1, fun h7 => by rw [← hl 8 (by simp), ← ha 7 (by simp) ((hl 7 (by simp)).trans h7)]; exact h.out.2 ((hl 7 (by simp)).trans h7)⟩) (by kernel_rfl) (by kernel_rfl) (by kernel_rfl) (Lib.hid ⟨HI2.out.drew, fun h => by cases h⟩) ?_
  clear HI2
  iterate 7
    apply RG.wpA_still
    · rfl
    · rfl
    · intro α L w9 h0 hcl hcl2 hw9
      repeat go_step
      with_reducible refine RG.only_mk ?_
      exact hw9
    · intro α; rfl
  apply RG.wpA_new
  · rfl
  · intro α L w9 b hb h0 hcl hw9
    have e8 := hcl.not 1 (i := 8) h0 (by kernel_rfl)
    repeat go_step
    rw [← hb]
    with_reducible refine RG.only_mk ?_
    refine Lib.hid ⟨hw9.out.1.below ((Below.refl _ w9).alloc (Nat.le_refl _) _), fun _ => ?_⟩
    rw [RG.put1_same, if_neg (by simp [e8]), hb]
    exact ⟨blk_new _ _, blk_lt hw9.out.1.res⟩
  · intro b α; rfl
  apply RG.wpA_turn (v := undef)
  · rfl
  · rfl
  · intro α L w9 h0 hcl hcl2 hw9
    have e7 : L 7 = true := by simpa using hcl2.yes 1 (i := 8) (by simp) (j := 7) (by kernel_rfl)
    obtain ⟨hb, hlo⟩ := hw9.out.2 e7
    rw [if_neg (by simp [h0])] at hb
    have c0 := cell_blk hb 0
    have c1 := cell_blk hb 1
    have c2 := cell_blk hb 2
    have c3 := cell_blk hb 3
    have y0 := free_blk hb 0
    have y1 := free_blk hb 1
    have y2 := free_blk hb 2
    have y3 := free_blk hb 3
    have HB := Lib.hid hb
    clear hb
    repeat go_step
    with_reducible refine RG.only_mk ?_
    have h4 := blk_set (blk_set (blk_set (blk_set HB.out 0 (.string (bb.extract 0 16))) 1 (.string (bb.extract 16 28))) 2 (.string (bb.extract 28 60))) 3 (.int .i64 2)
    have hne : ∀ i, sb ≠ (⟨α 7, i, none⟩ : Addr).block := fun i => by simp; omega
    have hnr : ∀ i, w.heap.size ≠ (⟨α 7, i, none⟩ : Addr).block := fun i => by simp; omega
    refine Lib.hid ⟨⟨blk_far (blk_far (blk_far (blk_far hw9.out.1.srv (hne 0) _) (hne 1) _) (hne 2) _) (hne 3) _, blk_far (blk_far (blk_far (blk_far hw9.out.1.res (hnr 0) _) (hnr 1) _) (hnr 2) _) (hnr 3) _, (((hw9.out.1.tn.set (p := ⟨α 7, 0, none⟩) (.inr (Nat.le_of_lt hlo)) _).set (p := ⟨α 7, 1, none⟩) (.inr (Nat.le_of_lt hlo)) _).set (p := ⟨α 7, 2, none⟩) (.inr (Nat.le_of_lt hlo)) _).set (p := ⟨α 7, 3, none⟩) (.inr (Nat.le_of_lt hlo)) _, hlt⟩, fun _ => ⟨?_, hlo⟩⟩
    rw [if_pos (by simp)]
    exact h4
  · intro α; rfl
  refine RG.wpA_nil (fun α w4 hw4 => ?_)
  obtain ⟨hd4, hn4⟩ := hw4.out
  obtain ⟨hb4, hlo4⟩ := hn4 rfl
  rw [if_pos rfl] at hb4
  simp only [Nat.zero_add, Nat.reduceAdd]
  clear hw4 hn4
  generalize α 7 = g at hb4 hlo4 ⊢
  have HD : Hid (DrN w sb d0 d1 seed ((k : Int) + 1) last mv drwZ g (freO (.string (bb.extract 0 16)) (.string (bb.extract 16 28)) (.string (bb.extract 28 60)) 2) w4) := Lib.hid ⟨hd4.srv, hd4.res, hb4, hlo4, hd4.tn, hlt⟩
  clear hd4 hb4 hlo4
  go_upto_region 6 with fail
  refine RG.wp_region_detL [6] (fun L W => Hid (DrN w sb d0 d1 seed ((k : Int) + 1) last mv (if L 6 = true then drwO (.string (bb.extract 16 28)) (.string (bb.extract 60 92)) (.string (bb.extract 0 16)) (.string (bb.extract 16 28)) (.string (bb.extract 28 60)) (.int .i64 2) else drwZ) g (freO (.string (bb.extract 0 16)) (.string (bb.extract 16 28)) (.string (bb.extract 28 60)) 2) W)) (fun L L' W hl h => by rw [← hl 6 (by simp)]; exact h) (by kernel_rfl) (by kernel_rfl) (by kernel_rfl) (Lib.hid ⟨HD.out.srv, HD.out.res, HD.out.at_, HD.out.lo, HD.out.tn.drew, hlt⟩) ?_
  clear HD
  apply RG.wpDetL_still
  · rfl
  · intro L w9 hw9
    repeat go_step
    with_reducible refine RG.only_mk ?_
    exact hw9
  · rfl
  apply RG.wpDetL_still
  · rfl
  · intro L w9 hw9
    have q := cell_blk hw9.out.at_ 1
    repeat go_step
    with_reducible refine RG.only_mk ?_
    exact hw9
  · rfl
  iterate 2
    apply RG.wpDetL_still
    · rfl
    · intro L w9 hw9
      repeat go_step
      with_reducible refine RG.only_mk ?_
      exact hw9
    · rfl
  apply RG.wpDetL_still
  · rfl
  · intro L w9 hw9
    have q0 := cell_blk hw9.out.at_ 0
    have q1 := cell_blk hw9.out.at_ 1
    have q2 := cell_blk hw9.out.at_ 2
    have q3 := cell_blk hw9.out.at_ 3
    repeat go_step
    with_reducible refine RG.only_mk ?_
    exact hw9
  · rfl
  apply RG.wpDetL_still
  · rfl
  · intro L w9 hw9
    repeat go_step
    with_reducible refine RG.only_mk ?_
    exact hw9
  · rfl
  apply RG.wpDetL_turn
  · rfl
  · intro L w9 h0 _ hw9
    have hr := hw9.out.res
    rw [if_neg (by simp [h0])] at hr
    have c0 := cell_blk hr 0
    have c1 := cell_blk hr 1
    have c2 := cell_blk hr 2
    have c3 := cell_blk hr 3
    have c4 := cell_blk hr 4
    have c5 := cell_blk hr 5
    have y0 := free_blk hr 0
    have y1 := free_blk hr 1
    have y2 := free_blk hr 2
    have y3 := free_blk hr 3
    have y4 := free_blk hr 4
    have y5 := free_blk hr 5
    have HR := Lib.hid hr
    clear hr
    repeat go_step
    with_reducible refine RG.only_mk ?_
    have hz : w.heap.size < g := hw9.out.lo
    have h1 := setAll_far (b := w.heap.size) (by omega) [.string (bb.extract 16 28), .string (bb.extract 60 92), .string (bb.extract 0 16), .string (bb.extract 16 28), .string (bb.extract 28 60), .int .i64 2] 0 _ hw9.out.srv
    have h2 := setAll_far (b := w.heap.size) (by omega) [.string (bb.extract 16 28), .string (bb.extract 60 92), .string (bb.extract 0 16), .string (bb.extract 16 28), .string (bb.extract 28 60), .int .i64 2] 0 _ hw9.out.at_
    have h3 := setAll_tn (b := w.heap.size) (.inr (Nat.le_refl _)) [.string (bb.extract 16 28), .string (bb.extract 60 92), .string (bb.extract 0 16), .string (bb.extract 16 28), .string (bb.extract 28 60), .int .i64 2] 0 _ hw9.out.tn
    have h4 := setAll_all (l := [.string (bb.extract 16 28), .string (bb.extract 60 92), .string (bb.extract 0 16), .string (bb.extract 16 28), .string (bb.extract 28 60), .int .i64 2]) HR.out rfl
    simp only [setAll, Nat.reduceAdd] at h1 h2 h3 h4
    rw [if_pos (by simp)]
    exact Lib.hid ⟨h1, h4, h2, hz, h3, hlt⟩
  · rfl
  refine RG.wpDetL_nil (fun w5 hw5 => ?_)
  have r5 := hw5.out.res
  rw [if_pos rfl] at r5
  have c0 := cell_blk r5 0
  have c1 := cell_blk r5 1
  have c2 := cell_blk r5 2
  have c3 := cell_blk r5 3
  have c4 := cell_blk r5 4
  have c5 := cell_blk r5 5
  go_wp2
  refine bodyPost_ret (v := .agg #[.string (bb.extract 16 28), .string (bb.extract 60 92), .string (bb.extract 0 16), .string (bb.extract 16 28), .string (bb.extract 28 60), .int .i64 2]) (by simp [results, Tryz.results24, go_sem, c0, c1, c2, c3, c4, c5]) rfl ?_
  exact ⟨by rw [HDB2.out], hw5.out.srv, hw5.out.tn⟩
end Go.Proofs.YtomnljigoljldaaGreatDoor.SV

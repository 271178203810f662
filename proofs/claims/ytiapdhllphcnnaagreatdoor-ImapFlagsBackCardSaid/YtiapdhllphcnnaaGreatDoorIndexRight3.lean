/- What index.Right returns, as a function of the index as plain data. Conditions: the index reads as that data; lengths. -/
import Derived.Test.YtiapdhllphcnnaaGreatDoorIndexRight2
import Derived.BigGuard
namespace Mailsack
theorem boxesP_step {L : List BoxP} {k : Nat} {b : BoxP} (h : L[k]? = some b) (given : Int) (p : Bs) : boxesP given (L.drop k) k p = (boxOkP b && decide (b.validity < given) && !(decide (0 < k) && b.name == inboxB) && !(decide (1 < k) && leS b.name p) && boxesP given (L.drop (k + 1)) (k + 1) b.name) := by
  have hk : k < L.length := (List.getElem?_eq_some_iff.1 h).1
  rw [List.drop_eq_getElem_cons hk]
  have : L[k] = b := (List.getElem?_eq_some_iff.1 h).2
  rw [this]
  rfl
theorem subsP_step {L : List Bs} {k : Nat} {s : Bs} (h : L[k]? = some s) (p : Bs) : subsP (L.drop k) k p = (nameP s && !(decide (0 < k) && leS s p) && subsP (L.drop (k + 1)) (k + 1) s) := by
  have hk : k < L.length := (List.getElem?_eq_some_iff.1 h).1
  rw [List.drop_eq_getElem_cons hk]
  have : L[k] = s := (List.getElem?_eq_some_iff.1 h).2
  rw [this]
  rfl
theorem totalP_take {L : List BoxP} {k : Nat} {b : BoxP} (h : L[k]? = some b) : totalP (L.take (k + 1)) = totalP (L.take k) + b.mails.length := by
  unfold totalP
  rw [List.take_add_one, h]
  simp
end Mailsack
namespace Go.Proofs.YtiapdhllphcnnaaGreatDoor.IX
open Go.RowKit Mailsack MM

theorem boxes_at {w : World} {B : Nat} {v : Value} {L : List BoxP} (h : RdBoxes w B v L) {k : Nat} {x : BoxP} (hx : L[k]? = some x) : ∃ b off c mv, v = .slice (some ⟨b, off, none⟩) L.length c ∧ b < B ∧ w.cell? ⟨b, off + k * 4, none⟩ = some (strV x.name) ∧ w.cell? ⟨b, off + k * 4 + 1, none⟩ = some (.int .i64 x.validity) ∧
    w.cell? ⟨b, off + k * 4 + 2, none⟩ = some (.int .i64 x.next) ∧ w.cell? ⟨b, off + k * 4 + 3, none⟩ = some mv ∧ RdMails w B mv x.mails := by
  obtain ⟨A, c, rfl, _, hr⟩ := h
  obtain ⟨b, off, rfl, hb, hc⟩ := hr (by have := (List.getElem?_eq_some_iff.1 hx).1; omega)
  obtain ⟨mv, h1, h2, h3, h4, h5⟩ := hc k x hx
  exact ⟨b, off, c, mv, rfl, hb, h1, h2, h3, h4, h5⟩

set_option maxHeartbeats 8000000 in
set_option maxRecDepth 100000 in
theorem right_any (bv sv : Value) (x : IndexP) (w : World) (h : RdIx w w.heap.size bv sv x) (hm : ∀ b ∈ x.boxes, b.mails.length ≤ 9223372036854775807) (hl : x.boxes.length ≤ 9223372036854775807) (hl2 : x.subs.length ≤ 9223372036854775807) :
    Calls Tryz.prog 19 #[.agg #[bv, sv, .int .i64 x.given]] w fun e w' => e = .returned (.bool (rightP x)) ∧ Below w.heap.size w w' := by
  have HB := Lib.hid h.boxes
  have HS := Lib.hid h.subs
  have HM := Lib.hid hm
  obtain ⟨A, c, rfl, hc, _⟩ := h.boxes
  obtain ⟨A2, c2, rfl, hc2, _⟩ := h.subs
  have HR : Hid (rightP x = (decide (1 ≤ x.boxes.length) && decide (x.boxes.length ≤ 6) && (x.boxes.head?.map (·.name) == some inboxB) && decide (x.subs.length ≤ 6) && posP x.given && boxesP x.given x.boxes 0 [] && subsP x.subs 0 [] && decide (totalP x.boxes ≤ 30))) := Lib.hid rfl
  generalize rightP x = R at HR ⊢
  have H1 := Lib.hid ((Below.refl w.heap.size w).alloc (Nat.le_refl _) (.cells #[.slice A x.boxes.length c, .slice A2 x.subs.length c2, .int .i64 x.given] 30))
  have P1 := Lib.hid (blk_new w (.cells #[.slice A x.boxes.length c, .slice A2 x.subs.length c2, .int .i64 x.given] 30))
  have HG := Lib.hid (fun W => positive_any x.given W)
  clear h hm
  by_cases h1 : 1 ≤ x.boxes.length ∧ x.boxes.length ≤ 6
  · obtain ⟨b0, hb0⟩ : ∃ b0, x.boxes[0]? = some b0 := ⟨_, List.getElem?_eq_getElem h1.1⟩
    obtain ⟨g, off, c', mv0, e0, hg, q0, _⟩ := boxes_at HB.out hb0
    injection e0 with e0 _ e0'
    subst e0 e0'
    have q0' : w.cell? ⟨g, off, none⟩ = some (strV b0.name) := by simpa using q0
    obtain ⟨nb, hnb⟩ : ∃ nb : ByteArray, (⟨b0.name.toArray⟩ : ByteArray) = nb := ⟨_, rfl⟩
    have q1 : (w.alloc (.cells #[.slice (some ⟨g, off, none⟩) x.boxes.length c, .slice A2 x.subs.length c2, .int .i64 x.given] 30)).cell? ⟨g, off, none⟩ = some (.string nb) := by rw [← hnb]; exact (H1.out.cell hg).trans q0'
    have hin : (nb.toList == [73, 78, 66, 79, 88]) = (b0.name == inboxB) := by rw [← hnb, ByteArray.toList_eq]; rfl
    have hhead : (x.boxes.head?.map (·.name) == some inboxB) = (b0.name == inboxB) := by
      rw [List.head?_eq_getElem?, hb0]
      simp
    rw [hhead] at HR
    obtain ⟨h1a, h1b⟩ := h1
    rw [decide_eq_true h1a, decide_eq_true h1b] at HR
    generalize (b0.name == inboxB) = r1 at hin HR
    clear hhead q0 q0' hnb hb0
    cases r1 with
    | false =>
      have HF : Hid (R = false) := Lib.hid (by rw [HR.out]; simp)
      go_enter Tryz.func19, Tryz.ntmps19
      go_wp2
      go_ret
      exact ⟨by rw [HF.out]; rfl, H1.out⟩
    | true =>
      by_cases h2 : x.subs.length ≤ 6
      · rw [decide_eq_true h2] at HR
        generalize posP x.given = r2 at HG HR
        cases r2 with
        | false =>
          have HF : Hid (R = false) := Lib.hid (by rw [HR.out]; simp)
          go_enter Tryz.func19, Tryz.ntmps19
          go_wp2_with (go_at_call 26; refine (HG.out _).mono ?_; rintro e w' ⟨rfl, rfl⟩)
          go_ret
          exact ⟨by rw [HF.out]; rfl, H1.out⟩
        | true =>
          replace HR : Hid (R = (boxesP x.given (x.boxes.drop 0) 0 [] && (subsP x.subs 0 [] && decide (totalP x.boxes ≤ 30)))) := Lib.hid (by rw [HR.out]; simp [Bool.and_assoc])
          go_enter Tryz.func19, Tryz.ntmps19
          go_wp2_with (go_at_call 26; refine (HG.out _).mono ?_; rintro e w' ⟨rfl, rfl⟩)
          clear hin q1
          generalize hrest : (subsP x.subs 0 [] && decide (totalP x.boxes ≤ 30)) = Q at HR
          have HQ := Lib.hid hrest
          clear hrest
          go_loopw [3, 39] (fun tv iv wr => ∃ (k tot : Nat) (p : Bs), k ≤ x.boxes.length ∧ tot ≤ 30 * k ∧ tv = .int .i64 tot ∧ iv = .int .i64 k ∧ Hid (R = (boxesP x.given (x.boxes.drop k) k p && Q) ∧ tot = totalP (x.boxes.take k) ∧ (∀ j, k = j + 1 → ∃ b, x.boxes[j]? = some b ∧ b.name = p) ∧ Below (w.alloc (.cells #[.slice (some ⟨g, off, none⟩) x.boxes.length c, .slice A2 x.subs.length c2, .int .i64 x.given] 30)).heap.size (w.alloc (.cells #[.slice (some ⟨g, off, none⟩) x.boxes.length c, .slice A2 x.subs.length c2, .int .i64 x.given] 30)) wr)) (fun _ iv _ => x.boxes.length - (intOf iv).toNat)
          case atStart => exact ⟨0, 0, [], Nat.zero_le _, by decide, rfl, rfl, Lib.hid ⟨HR.out, rfl, fun j hj => by omega, Below.refl _ _⟩⟩
          case round =>
            obtain ⟨k, tot, p, hk, htot, rfl, rfl, hr⟩ := hrel
            clear HR
            by_cases hlt : k < x.boxes.length
            · obtain ⟨b, hx⟩ : ∃ b, x.boxes[k]? = some b := ⟨_, List.getElem?_eq_getElem hlt⟩
              obtain ⟨g', off', c', mv, e0, _, q0, q1, q2, q3, hmv⟩ := boxes_at HB.out hx
              injection e0 with e0 _ e0'
              injection e0 with e0
              injection e0 with e1 e2
              subst e1 e2 e0'
              have hwr : Below w.heap.size w wr := H1.out.trans (hr.out.2.2.2.mono H1.out.size)
              obtain ⟨nb, hnb⟩ : ∃ nb : ByteArray, (⟨b.name.toArray⟩ : ByteArray) = nb := ⟨_, rfl⟩
              have r0 : wr.cell? ⟨g, off + k * 4, none⟩ = some (.string nb) := by rw [← hnb]; exact (hwr.cell hg).trans q0
              have r1 := (hwr.cell (p := ⟨g, off + k * 4 + 1, none⟩) hg).trans q1
              have r2 := (hwr.cell (p := ⟨g, off + k * 4 + 2, none⟩) hg).trans q2
              have r3 := (hwr.cell (p := ⟨g, off + k * 4 + 3, none⟩) hg).trans q3
              have HRB : Hid (∀ W, Below w.heap.size w W → Calls Tryz.prog 27 #[.agg #[.string nb, .int .i64 b.validity, .int .i64 b.next, mv]] W fun e w' => e = .returned (.bool (boxOkP b)) ∧ Below W.heap.size W w') := Lib.hid (fun W hb => by
                have := rightBox_any b mv W ((hmv.below hb (Nat.le_refl _)).more hb.size) (HM.out b (List.mem_of_getElem? hx))
                rw [← hnb]
                exact this)
              have hml : boxOkP b = true → b.mails.length ≤ 30 := fun h => by
                unfold boxOkP at h
                simp only [Bool.and_eq_true, decide_eq_true_eq] at h
                exact h.1.2
              have HSt := Lib.hid (boxesP_step hx x.given p)
              have HTk := Lib.hid (totalP_take hx)
              have hi1 : (nb.toList == [73, 78, 66, 79, 88]) = (b.name == inboxB) := by rw [← hnb, ByteArray.toList_eq]; rfl
              have HNB := Lib.hid hnb
              have Hx := Lib.hid hx
              have Hwr := Lib.hid hwr
              obtain ⟨Am, cm, rfl, hcm, _⟩ := hmv
              clear q0 q1 q2 q3 hnb hwr hx
              generalize boxOkP b = rb at HRB hml HSt
              generalize (b.name == inboxB) = i1 at hi1 HSt
              go_wp2_with fail
              have hb8 := Lib.hid (bel_alloc (Below.refl wr.heap.size wr) (Nat.le_refl _) (.cells #[.string nb, .int .i64 b.validity, .int .i64 b.next, .slice Am b.mails.length cm] 70))
              have pb8 := Lib.hid (blk_new wr (.cells #[.string nb, .int .i64 b.validity, .int .i64 b.next, .slice Am b.mails.length cm] 70))
              refine (HRB.out _ (Hwr.out.trans (hb8.out.mono Hwr.out.size))).mono ?_
              rintro e w3 ⟨rfl, hb3⟩
              have hb3' := hb8.out.trans (hb3.mono hb8.out.size)
              have HB3 := Lib.hid (Hwr.out.trans (hb3'.mono Hwr.out.size))
              have HBe := Lib.hid (hr.out.2.2.2.trans (hb3'.mono hr.out.2.2.2.size))
              have pb3 := blk_below pb8.out hb3 (by simp)
              have z0 : w3.cell? ⟨wr.heap.size, 0, none⟩ = some (.string nb) := cell_blk pb3 0
              have z1 : w3.cell? ⟨wr.heap.size, 1, none⟩ = some (.int .i64 b.validity) := cell_blk pb3 1
              have z3 : w3.cell? ⟨wr.heap.size, 3, none⟩ = some (.slice Am b.mails.length cm) := cell_blk pb3 3
              have p3 := blk_below P1.out HBe.out (by simp)
              have y0 : w3.cell? ⟨w.heap.size, 0, none⟩ = some (.slice (some ⟨g, off, none⟩) x.boxes.length c) := cell_blk p3 0
              have y2 : w3.cell? ⟨w.heap.size, 2, none⟩ = some (.int .i64 x.given) := cell_blk p3 2
              clear hb3 hb3' pb3 p3 r0 r1 r2 r3 HRB hb8 pb8
              cases rb with
              | false =>
                have HF : Hid (R = false) := Lib.hid (by rw [hr.out.1, HSt.out]; simp)
                go_wp2
                go_ret
                exact ⟨by rw [HF.out]; rfl, HB3.out⟩
              | true =>
                have hml' := hml rfl
                clear hml
                by_cases hv : b.validity < x.given
                · have hzl : wr.heap.size < w3.heap.size := World.block_lt_of_cell? w3 _ z0
                  have hyl : w.heap.size < w3.heap.size := World.block_lt_of_cell? w3 _ y0
                  have hgl : g < w3.heap.size := Nat.lt_trans hg hyl
                  rcases Nat.lt_trichotomy k 1 with h | h | h
                  · obtain rfl : k = 0 := by omega
                    have HT : Hid (R = (boxesP x.given (x.boxes.drop (0 + 1)) (0 + 1) b.name && Q)) := Lib.hid (by rw [hr.out.1, HSt.out]; simp [hv])
                    go_upto_region 11 with fail
                    refine RG.wp_region_det (fun W => Hid (Below w3.heap.size w3 W)) (by kernel_rfl) (by kernel_rfl) (Lib.hid (Below.refl _ _).drew) ?_
                    iterate 23
                      apply RG.wpDet_cons
                      · intro w9 hw9
                        have z0' := (hw9.out.cell (p := ⟨wr.heap.size, 0, none⟩) hzl).trans z0
                        have y0' := (hw9.out.cell (p := ⟨w.heap.size, 0, none⟩) hyl).trans y0
                        repeat go_step
                        with_reducible refine RG.only_mk ?_
                        exact hw9
                      · rfl
                    refine RG.wpDet_nil (fun w4 hb4 => ?_)
                    have HB4 := Lib.hid (HB3.out.trans (hb4.out.mono HB3.out.size))
                    have HBe4 := Lib.hid (HBe.out.trans (hb4.out.mono HBe.out.size))
                    have z3' := (hb4.out.cell (p := ⟨wr.heap.size, 3, none⟩) hzl).trans z3
                    clear hb4
                    go_wp2
                    exact ⟨⟨0 + 1, tot + b.mails.length, b.name, by omega, by omega, by go_num, by go_num, Lib.hid ⟨HT.out, by rw [HTk.out, ← hr.out.2.1], fun i hi => ⟨b, by rw [show i = 0 by omega]; exact Hx.out, rfl⟩, HBe4.out⟩⟩, by simp [intOf]; omega⟩
                  · subst h
                    cases i1
                    · have HT : Hid (R = (boxesP x.given (x.boxes.drop (1 + 1)) (1 + 1) b.name && Q)) := Lib.hid (by rw [hr.out.1, HSt.out]; simp [hv])
                      go_upto_region 11 with fail
                      refine RG.wp_region_det (fun W => Hid (Below w3.heap.size w3 W)) (by kernel_rfl) (by kernel_rfl) (Lib.hid (Below.refl _ _).drew) ?_
                      iterate 23
                        apply RG.wpDet_cons
                        · intro w9 hw9
                          have z0' := (hw9.out.cell (p := ⟨wr.heap.size, 0, none⟩) hzl).trans z0
                          have y0' := (hw9.out.cell (p := ⟨w.heap.size, 0, none⟩) hyl).trans y0
                          repeat go_step
                          with_reducible refine RG.only_mk ?_
                          exact hw9
                        · rfl
                      refine RG.wpDet_nil (fun w4 hb4 => ?_)
                      have HB4 := Lib.hid (HB3.out.trans (hb4.out.mono HB3.out.size))
                      have HBe4 := Lib.hid (HBe.out.trans (hb4.out.mono HBe.out.size))
                      have z3' := (hb4.out.cell (p := ⟨wr.heap.size, 3, none⟩) hzl).trans z3
                      clear hb4
                      go_wp2
                      exact ⟨⟨1 + 1, tot + b.mails.length, b.name, by omega, by omega, by go_num, by go_num, Lib.hid ⟨HT.out, by rw [HTk.out, ← hr.out.2.1], fun i hi => ⟨b, by rw [show i = 1 by omega]; exact Hx.out, rfl⟩, HBe4.out⟩⟩, by simp [intOf]; omega⟩
                    · have HF : Hid (R = false) := Lib.hid (by rw [hr.out.1, HSt.out]; simp [hv])
                      have hp1 : nb.toList = [73, 78, 66, 79, 88] := beq_iff_eq.1 hi1
                      go_upto_region 11 with fail
                      refine RG.wp_region_det (fun W => Hid (Below w3.heap.size w3 W)) (by kernel_rfl) (by kernel_rfl) (Lib.hid (Below.refl _ _).drew) ?_
                      iterate 23
                        apply RG.wpDet_cons
                        · intro w9 hw9
                          have z0' := (hw9.out.cell (p := ⟨wr.heap.size, 0, none⟩) hzl).trans z0
                          have y0' := (hw9.out.cell (p := ⟨w.heap.size, 0, none⟩) hyl).trans y0
                          repeat (first | go_big_skip | go_step)
                          with_reducible refine RG.only_mk ?_
                          exact hw9
                        · rfl
                      refine RG.wpDet_nil (fun w4 hb4 => ?_)
                      have HB4 := Lib.hid (HB3.out.trans (hb4.out.mono HB3.out.size))
                      clear hb4
                      go_wp2
                      go_ret
                      exact ⟨by rw [HF.out]; rfl, HB4.out⟩
                  · obtain ⟨j, rfl⟩ : ∃ j, k = j + 1 := ⟨k - 1, by omega⟩
                    obtain ⟨b', hx', hp'⟩ := hr.out.2.2.1 j rfl
                    obtain ⟨g', off', c', mv, e0, _, q0, _⟩ := boxes_at HB.out hx'
                    injection e0 with e0 _ e0'
                    injection e0 with e0
                    injection e0 with e1 e2
                    subst e1 e2 e0'
                    rw [hp'] at q0
                    obtain ⟨pb, hpb⟩ : ∃ pb : ByteArray, (⟨p.toArray⟩ : ByteArray) = pb := ⟨_, rfl⟩
                    have v0 : w3.cell? ⟨g, off + j * 4, none⟩ = some (.string pb) := by rw [← hpb]; exact (HB3.out.cell hg).trans q0
                    have hi2 : (Op.bytesLess nb.toList pb.toList || nb.toList == pb.toList) = leS b.name p := by rw [← HNB.out, ← hpb, ByteArray.toList_eq, ByteArray.toList_eq]; rfl
                    clear q0 hpb hx' hp'
                    have hj0 : 0 < j := by omega
                    cases i1
                    · generalize leS b.name p = i2 at hi2 HSt
                      cases i2
                      · have HT : Hid (R = (boxesP x.given (x.boxes.drop ((j + 1) + 1)) ((j + 1) + 1) b.name && Q)) := Lib.hid (by rw [hr.out.1, HSt.out]; simp [hv])
                        go_upto_region 11 with fail
                        refine RG.wp_region_det (fun W => Hid (Below w3.heap.size w3 W)) (by kernel_rfl) (by kernel_rfl) (Lib.hid (Below.refl _ _).drew) ?_
                        iterate 23
                          apply RG.wpDet_cons
                          · intro w9 hw9
                            have z0' := (hw9.out.cell (p := ⟨wr.heap.size, 0, none⟩) hzl).trans z0
                            have y0' := (hw9.out.cell (p := ⟨w.heap.size, 0, none⟩) hyl).trans y0
                            have v0' := (hw9.out.cell (p := ⟨g, off + j * 4, none⟩) hgl).trans v0
                            repeat go_step
                            with_reducible refine RG.only_mk ?_
                            exact hw9
                          · rfl
                        refine RG.wpDet_nil (fun w4 hb4 => ?_)
                        have HB4 := Lib.hid (HB3.out.trans (hb4.out.mono HB3.out.size))
                        have HBe4 := Lib.hid (HBe.out.trans (hb4.out.mono HBe.out.size))
                        have z3' := (hb4.out.cell (p := ⟨wr.heap.size, 3, none⟩) hzl).trans z3
                        clear hb4
                        go_wp2
                        exact ⟨⟨(j + 1) + 1, tot + b.mails.length, b.name, by omega, by omega, by go_num, by go_num, Lib.hid ⟨HT.out, by rw [HTk.out, ← hr.out.2.1], fun i hi => ⟨b, by rw [show i = j + 1 by omega]; exact Hx.out, rfl⟩, HBe4.out⟩⟩, by simp [intOf]; omega⟩
                      · have HF : Hid (R = false) := Lib.hid (by rw [hr.out.1, HSt.out]; simp [hv, hj0])
                        go_upto_region 11 with fail
                        refine RG.wp_region_det (fun W => Hid (Below w3.heap.size w3 W)) (by kernel_rfl) (by kernel_rfl) (Lib.hid (Below.refl _ _).drew) ?_
                        iterate 23
                          apply RG.wpDet_cons
                          · intro w9 hw9
                            have z0' := (hw9.out.cell (p := ⟨wr.heap.size, 0, none⟩) hzl).trans z0
                            have y0' := (hw9.out.cell (p := ⟨w.heap.size, 0, none⟩) hyl).trans y0
                            have v0' := (hw9.out.cell (p := ⟨g, off + j * 4, none⟩) hgl).trans v0
                            repeat go_step
                            with_reducible refine RG.only_mk ?_
                            exact hw9
                          · rfl
                        refine RG.wpDet_nil (fun w4 hb4 => ?_)
                        have HB4 := Lib.hid (HB3.out.trans (hb4.out.mono HB3.out.size))
                        clear hb4
                        go_wp2
                        go_ret
                        exact ⟨by rw [HF.out]; rfl, HB4.out⟩
                    · have HF : Hid (R = false) := Lib.hid (by rw [hr.out.1, HSt.out]; simp [hv])
                      have hp1 : nb.toList = [73, 78, 66, 79, 88] := beq_iff_eq.1 hi1
                      go_upto_region 11 with fail
                      refine RG.wp_region_det (fun W => Hid (Below w3.heap.size w3 W)) (by kernel_rfl) (by kernel_rfl) (Lib.hid (Below.refl _ _).drew) ?_
                      iterate 23
                        apply RG.wpDet_cons
                        · intro w9 hw9
                          have z0' := (hw9.out.cell (p := ⟨wr.heap.size, 0, none⟩) hzl).trans z0
                          have y0' := (hw9.out.cell (p := ⟨w.heap.size, 0, none⟩) hyl).trans y0
                          have v0' := (hw9.out.cell (p := ⟨g, off + j * 4, none⟩) hgl).trans v0
                          repeat (first | go_big_skip | go_step)
                          with_reducible refine RG.only_mk ?_
                          exact hw9
                        · rfl
                      refine RG.wpDet_nil (fun w4 hb4 => ?_)
                      have HB4 := Lib.hid (HB3.out.trans (hb4.out.mono HB3.out.size))
                      clear hb4
                      go_wp2
                      go_ret
                      exact ⟨by rw [HF.out]; rfl, HB4.out⟩
                · have HF : Hid (R = false) := Lib.hid (by rw [hr.out.1, HSt.out]; simp [hv])
                  go_wp2
                  go_ret
                  exact ⟨by rw [HF.out]; rfl, HB3.out⟩
            · obtain rfl : k = x.boxes.length := by omega
              have HE : Hid (R = (subsP (x.subs.drop 0) 0 [] && decide (tot ≤ 30)) ∧ ∀ j, (0 : Nat) = j + 1 → x.subs[j]? = some []) := Lib.hid ⟨by rw [hr.out.1, List.drop_length, ← HQ.out, hr.out.2.1, List.take_length]; simp [boxesP], fun j hj => by omega⟩
              have HWR : Hid (Below w.heap.size w wr) := Lib.hid (H1.out.trans (hr.out.2.2.2.mono H1.out.size))
              have y1 : wr.cell? ⟨w.heap.size, 1, none⟩ = some (.slice A2 x.subs.length c2) := cell_blk (blk_below P1.out hr.out.2.2.2 (by simp)) 1
              clear hr
              go_wp2_with fail
              go_loop [86] (fun iv => ∃ (k : Nat) (p : Bs), k ≤ x.subs.length ∧ iv = .int .i64 k ∧ Hid (R = (subsP (x.subs.drop k) k p && decide (tot ≤ 30)) ∧ ∀ j, k = j + 1 → x.subs[j]? = some p)) (fun iv => x.subs.length - (intOf iv).toNat)
              case atStart => exact ⟨0, [], Nat.zero_le _, rfl, HE⟩
              case round =>
                obtain ⟨k, p, hk, rfl, hr⟩ := hrel
                clear HE
                by_cases hlt : k < x.subs.length
                · obtain ⟨s, hx⟩ : ∃ s, x.subs[k]? = some s := ⟨_, List.getElem?_eq_getElem hlt⟩
                  obtain ⟨A3, c3, e0, _, hrd⟩ := HS.out
                  injection e0 with e0 _ e0'
                  subst e0 e0'
                  obtain ⟨g2, off2, rfl, hg2, hcell⟩ := hrd (by omega)
                  have q0 := (HWR.out.cell (p := ⟨g2, off2 + k, none⟩) hg2).trans (hcell k s hx)
                  obtain ⟨sb, hsb⟩ : ∃ sb : ByteArray, (⟨s.toArray⟩ : ByteArray) = sb := ⟨_, rfl⟩
                  have r0 : wr.cell? ⟨g2, off2 + k, none⟩ = some (.string sb) := by rw [← hsb]; exact q0
                  have HSt := Lib.hid (subsP_step hx p)
                  have HN : Hid (∀ W, Calls Tryz.prog 28 #[.string sb] W fun e w' => e = .returned (.bool (nameP s)) ∧ w' = W) := Lib.hid (fun W => by
                    have := rightName_any sb W
                    rw [show sb.data.toList = s by rw [← hsb]] at this
                    exact this)
                  generalize nameP s = rn at HN HSt
                  have Hx := Lib.hid hx
                  rcases Nat.eq_zero_or_pos k with h | h
                  · subst h
                    clear q0 hsb hx hcell hrd
                    have r0' : wr.cell? ⟨g2, off2, none⟩ = some (.string sb) := by simpa using r0
                    cases rn with
                    | false =>
                      have HF : Hid (R = false) := Lib.hid (by rw [hr.out.1, HSt.out]; simp)
                      go_wp2_with (first | go_big_skip | (go_at_call 28; refine (HN.out _).mono ?_; rintro e w' ⟨rfl, rfl⟩))
                      go_ret
                      exact ⟨by rw [HF.out]; rfl, HWR.out⟩
                    | true =>
                      have HT : Hid (R = (subsP (x.subs.drop (0 + 1)) (0 + 1) s && decide (tot ≤ 30))) := Lib.hid (by rw [hr.out.1, HSt.out]; simp)
                      go_wp2_with (first | go_big_skip | (go_at_call 28; refine (HN.out _).mono ?_; rintro e w' ⟨rfl, rfl⟩))
                      exact ⟨⟨0 + 1, s, by omega, by go_num, Lib.hid ⟨HT.out, fun i hi => by rw [show i = 0 by omega]; exact Hx.out⟩⟩, by simp [intOf]; omega⟩
                  · obtain ⟨j, rfl⟩ : ∃ j, k = j + 1 := ⟨k - 1, by omega⟩
                    have hx' := hr.out.2 j rfl
                    obtain ⟨pb, hpb⟩ : ∃ pb : ByteArray, (⟨p.toArray⟩ : ByteArray) = pb := ⟨_, rfl⟩
                    have v0 : wr.cell? ⟨g2, off2 + j, none⟩ = some (.string pb) := by rw [← hpb]; exact (HWR.out.cell (p := ⟨g2, off2 + j, none⟩) hg2).trans (hcell j p hx')
                    have hi2 : (Op.bytesLess sb.toList pb.toList || sb.toList == pb.toList) = leS s p := by rw [← hsb, ← hpb, ByteArray.toList_eq, ByteArray.toList_eq]; rfl
                    generalize leS s p = i2 at hi2 HSt
                    clear q0 hsb hx hcell hrd hpb hx'
                    cases rn with
                    | false =>
                      have HF : Hid (R = false) := Lib.hid (by rw [hr.out.1, HSt.out]; simp)
                      go_wp2_with (first | go_big_skip | (go_at_call 28; refine (HN.out _).mono ?_; rintro e w' ⟨rfl, rfl⟩))
                      go_ret
                      exact ⟨by rw [HF.out]; rfl, HWR.out⟩
                    | true =>
                      cases i2 with
                      | true =>
                        have HF : Hid (R = false) := Lib.hid (by rw [hr.out.1, HSt.out]; simp)
                        go_wp2_with (first | go_big_skip | (go_at_call 28; refine (HN.out _).mono ?_; rintro e w' ⟨rfl, rfl⟩))
                        go_ret
                        exact ⟨by rw [HF.out]; rfl, HWR.out⟩
                      | false =>
                        have HT : Hid (R = (subsP (x.subs.drop (j + 1 + 1)) (j + 1 + 1) s && decide (tot ≤ 30))) := Lib.hid (by rw [hr.out.1, HSt.out]; simp)
                        go_wp2_with (first | go_big_skip | (go_at_call 28; refine (HN.out _).mono ?_; rintro e w' ⟨rfl, rfl⟩))
                        exact ⟨⟨j + 1 + 1, s, by omega, by go_num, Lib.hid ⟨HT.out, fun i hi => by rw [show i = j + 1 by omega]; exact Hx.out⟩⟩, by simp [intOf]; omega⟩
                · have HF : Hid (R = decide (tot ≤ 30)) := Lib.hid (by rw [hr.out.1, List.drop_eq_nil_iff.2 (by omega)]; simp [subsP])
                  by_cases h30 : tot ≤ 30
                  · rw [decide_eq_true h30] at HF
                    go_wp2
                    go_ret
                    exact ⟨by rw [HF.out]; simp; omega, HWR.out⟩
                  · rw [decide_eq_false h30] at HF
                    go_wp2
                    go_ret
                    exact ⟨by rw [HF.out]; simp; omega, HWR.out⟩
      · have HF : Hid (R = false) := Lib.hid (by rw [HR.out, decide_eq_false h2]; simp)
        go_enter Tryz.func19, Tryz.ntmps19
        go_wp2
        go_ret
        exact ⟨by rw [HF.out]; rfl, H1.out⟩
  · have HF : Hid (R = false) := Lib.hid (by
      rw [HR.out]
      rcases Nat.lt_or_ge x.boxes.length 1 with h9 | h9
      · rw [decide_eq_false (by omega)]; simp
      · rw [decide_eq_false (p := x.boxes.length ≤ 6) (by omega)]; simp)
    have h1' : x.boxes.length < 1 ∨ 6 < x.boxes.length := by omega
    clear h1
    rcases h1' with h1 | h1
    all_goals
      go_enter Tryz.func19, Tryz.ntmps19
      go_wp2
      go_ret
      exact ⟨by rw [HF.out]; rfl, H1.out⟩
end Go.Proofs.YtiapdhllphcnnaaGreatDoor.IX

/- What lmtp.Line returns, for any state, line and users. Conditions: lengths, that the two lists read as they are told, and that the cell of the library's MaxLen holds some int. -/
import Derived.Test.YtnckfgihbimacaaLmtpRcpt
namespace Go.Proofs.Ytnckfgihbimacaa.LM
open Go.RowKit Mailsack MM

theorem clone_any (v : Value) (xs : List Bs) (B : Nat) (w : World) (h : RdS w B v xs) (hn : xs.length ≤ 1000000) :
    Calls Try.prog 13 #[v] w fun e w' => ∃ v', e = .returned v' ∧ OwnS w' w.heap.size v' xs ∧ Below w.heap.size w w' := by
  obtain ⟨A, c, rfl, hc, hcell⟩ := h
  rcases A with _ | ad
  · have hx : xs = [] := by
      cases xs with
      | nil => rfl
      | cons x r => obtain ⟨b, off, h, _⟩ := hcell (by simp); cases h
    subst hx
    exact (Try.slices_Clone_string_nil _ c w).mono fun e w' ⟨he, hw⟩ => by subst hw; exact ⟨_, he, OwnS.nil _ _, Below.refl _ _⟩
  · by_cases h0 : xs.length = 0
    · have hx : xs = [] := List.eq_nil_of_length_eq_zero h0
      subst hx
      exact (Try.slices_Clone_string_zero ad c w).mono fun e w' ⟨v', he, ho, _, hb⟩ => ⟨v', he, ho, hb⟩
    · obtain ⟨b, off, e1, _, hcl⟩ := hcell (by omega)
      injection e1 with e1
      subst e1
      refine (Try.slices_Clone_string b off xs.length c (xs.map (fun y => (⟨y.toArray⟩ : ByteArray))) w (by simp) (by omega) (fun j hj => by
        have hj' : j < xs.length := by simpa using hj
        rw [hcl j xs[j] (List.getElem?_eq_getElem hj')]
        simp [List.getD_eq_getElem?_getD, List.getElem?_eq_getElem hj'])).mono fun e w' ⟨v', he, ho, _, hb⟩ => ⟨v', he, ?_, hb⟩
      rw [List.take_of_length_le (by simp), List.map_map] at ho
      exact ho

/-- the memory of Line: its own state, the result's place, the list of recipients, the users -/
structure LAt (w : World) (s : LSt) (A : Option Addr) (c : Nat) (uv : Value) (us : List Bs) (m : Int) (w2 : World) : Prop where
  st : w2.heap[w.heap.size]? = some (.cells #[.bool s.hello, .bool s.hasFrom, .bool s.data, .bool s.long, strV s.frm, strV s.body, .slice A s.to.length c] 25 (0, 0))
  res : w2.heap[w.heap.size + 1]? = some (.cells #[.bool false, .bool false, .bool false, .bool false, .string ⟨#[]⟩, .string ⟨#[]⟩, .slice none 0 0] 25 (0, 0))
  own : OwnS w2 (w.heap.size + 2) (.slice A s.to.length c) s.to
  bel : Below w.heap.size w w2
  big : w.heap.size + 2 ≤ w2.heap.size
  usr : RdS w2 w.heap.size uv us
  mx : w2.cell? ⟨0, 0, none⟩ = some (.int .i64 m)

theorem LAt.below {w w2 w3 : World} {s : LSt} {A : Option Addr} {c : Nat} {uv : Value} {us : List Bs} {m : Int} (h : LAt w s A c uv us m w2) (hb : Below w2.heap.size w2 w3) : LAt w s A c uv us m w3 :=
  ⟨blk_below h.st hb (by have := h.big; omega), blk_below h.res hb (by have := h.big; omega), h.own.below hb, h.bel.trans (hb.mono (by have := h.big; omega)), Nat.le_trans h.big hb.size, h.usr.below hb (by have := h.big; omega),
    (hb.cell (World.block_lt_of_cell? w2 _ h.mx)).trans h.mx⟩
theorem LAt.after {w w2 w3 : World} {s : LSt} {A : Option Addr} {c : Nat} {uv : Value} {us : List Bs} {m : Int} (h : LAt w s A c uv us m w2) (hb : Below (w.heap.size + 2) w2 w3) :
    w3.heap[w.heap.size + 1]? = some (.cells #[.bool false, .bool false, .bool false, .bool false, .string ⟨#[]⟩, .string ⟨#[]⟩, .slice none 0 0] 25 (0, 0)) ∧ Below w.heap.size w w3 := ⟨blk_below h.res hb (by omega), h.bel.trans (hb.mono (by omega))⟩
/-- the end: the result is stored -/
theorem LAt.out {w w3 : World} {r r' : LSt × Bs} {tv : Value} (hr : r' = r) (hown : OwnS w3 (w.heap.size + 2) tv r.1.to) (hb : Below w.heap.size w w3) (a0 a1 a2 a3 a4 a5 a6 : Value) :
    LPost w.heap.size w r' (.returned (.tuple #[stV r.1 tv, strV r.2])) (((((((w3.setCell ⟨w.heap.size + 1, 0, none⟩ a0).setCell ⟨w.heap.size + 1, 1, none⟩ a1).setCell ⟨w.heap.size + 1, 2, none⟩ a2).setCell ⟨w.heap.size + 1, 3, none⟩ a3).setCell ⟨w.heap.size + 1, 4, none⟩ a4).setCell ⟨w.heap.size + 1, 5, none⟩ a5).setCell ⟨w.heap.size + 1, 6, none⟩ a6) := by
  subst hr
  refine ⟨tv, rfl, ?_, ?_⟩
  · have h1 := (((((((hown.set (p := ⟨w.heap.size + 1, 0, none⟩) (by simp) a0).set (p := ⟨w.heap.size + 1, 1, none⟩) (by simp) a1).set (p := ⟨w.heap.size + 1, 2, none⟩) (by simp) a2).set (p := ⟨w.heap.size + 1, 3, none⟩) (by simp) a3).set (p := ⟨w.heap.size + 1, 4, none⟩) (by simp) a4).set (p := ⟨w.heap.size + 1, 5, none⟩) (by simp) a5).set (p := ⟨w.heap.size + 1, 6, none⟩) (by simp) a6)
    exact h1.less (by omega)
  · exact (((((((hb.setCell (p := ⟨w.heap.size + 1, 0, none⟩) (by simp) a0).setCell (p := ⟨w.heap.size + 1, 1, none⟩) (by simp) a1).setCell (p := ⟨w.heap.size + 1, 2, none⟩) (by simp) a2).setCell (p := ⟨w.heap.size + 1, 3, none⟩) (by simp) a3).setCell (p := ⟨w.heap.size + 1, 4, none⟩) (by simp) a4).setCell (p := ⟨w.heap.size + 1, 5, none⟩) (by simp) a5).setCell (p := ⟨w.heap.size + 1, 6, none⟩) (by simp) a6)

theorem receive_to (s : LSt) (l : Bs) : (receiveP s l).to = s.to := by
  unfold receiveP; split; rfl; split <;> rfl

set_option maxHeartbeats 4000000 in
theorem line_any (s : LSt) (tv : Value) (line : ByteArray) (uv : Value) (us : List Bs) (m : Int) (w : World) (hto : RdS w w.heap.size tv s.to) (hus : RdS w w.heap.size uv us) (hm : w.cell? ⟨0, 0, none⟩ = some (.int .i64 m))
    (htl : s.to.length ≤ 1000) (hb : s.body.length ≤ 1000000) (hl : line.size ≤ 1000000) (hun : us.length ≤ 1000000) :
    Calls Try.prog 7 #[stV s tv, .string line, uv] w (LPost w.heap.size w (lineP s line.data.toList us)) := by
  have hw0 : 0 < w.heap.size := World.block_lt_of_cell? w _ hm
  have Hm := Lib.hid hm
  have Hto := Lib.hid hto
  have Hus := Lib.hid hus
  obtain ⟨A, c, rfl, hc, _⟩ := hto
  clear hm hus
  obtain ⟨hello, hasFrom, data, long, frm, body, to⟩ := s
  simp only at Hto hc htl hb ⊢
  cases data
  · rcases hcut : Lib.cut line.data.toList [32] with ⟨wd, ag, ha⟩
    have hwl : wd.length ≤ 1000000 := Nat.le_trans (cut_len hcut) (by rw [size_list]; exact hl)
    have hal : ag.length ≤ 1000000 := Nat.le_trans (cut_len2 hcut) (by rw [size_list]; exact hl)
    have Hcut := Lib.hid (show Lib.cut line.data.toList (⟨#[32]⟩ : ByteArray).data.toList = (wd, ag, ha) from hcut)
    obtain ⟨U, hU⟩ : ∃ U, upP wd = U := ⟨_, rfl⟩
    have HU := Lib.hid (show upP (⟨wd.toArray⟩ : ByteArray).data.toList = U from hU)
    have HL := Lib.hid (show lineP ⟨hello, hasFrom, false, long, frm, body, to⟩ line.data.toList us = lineW ⟨hello, hasFrom, false, long, frm, body, to⟩ U ag ha us by unfold lineP lineW; rw [if_neg (by simp)]; simp only [hcut, hU])
    clear hcut hU
    go_enter Try.func7, Try.ntmps7
    go_wp2_with fail
    have Hto2 := Lib.hid (Hto.out.below (((Below.refl w.heap.size w).alloc (Nat.le_refl _) (.cells #[.bool hello, .bool hasFrom, .bool false, .bool long, strV frm, strV body, .slice A to.length c] 25)).alloc (by simp) (.cells #[.bool false, .bool false, .bool false, .bool false, .string ⟨#[]⟩, .string ⟨#[]⟩, .slice none 0 0] 25)) (Nat.le_refl _))
    refine (clone_any _ to _ _ Hto2.out (by omega)).mono ?_
    rintro e w1 ⟨v1, rfl, ho1, hb1⟩
    have hk0 := blk_below (two_old w (.cells #[.bool hello, .bool hasFrom, .bool false, .bool long, strV frm, strV body, .slice A to.length c] 25) (.cells #[.bool false, .bool false, .bool false, .bool false, .string ⟨#[]⟩, .string ⟨#[]⟩, .slice none 0 0] 25)) hb1 (by rw [size_new, size_new]; omega)
    have hk1 := blk_below (two_new w (.cells #[.bool hello, .bool hasFrom, .bool false, .bool long, strV frm, strV body, .slice A to.length c] 25) (.cells #[.bool false, .bool false, .bool false, .bool false, .string ⟨#[]⟩, .string ⟨#[]⟩, .slice none 0 0] 25)) hb1 (by rw [size_new, size_new]; omega)
    obtain ⟨A1, c1, e1, hc1⟩ := ho1.form
    subst e1
    have hA : Hid (LAt w ⟨hello, hasFrom, false, long, frm, body, to⟩ A1 c1 uv us m (w1.setCell ⟨w.heap.size, 6, none⟩ (.slice A1 to.length c1))) := Lib.hid (by
      have hz : w.heap.size + 2 ≤ w1.heap.size := by have := hb1.size; simp at this; omega
      have hB : Below w.heap.size w w1 := (((Below.refl _ _).alloc (Nat.le_refl _) _).alloc (by simp) _).trans (hb1.mono (by simp; omega))
      refine ⟨by have := blk_set hk0 6 (.slice A1 to.length c1); simpa using this, blk_far hk1 (by simp) _, ?_, hB.setCell (by simp) _, by rw [size_set]; exact hz, ?_, ?_⟩
      · have h2 : OwnS w1 (w.heap.size + 2) (.slice A1 to.length c1) to := by simpa using ho1
        exact h2.set (by simp) _
      · exact Hus.out.below (hB.setCell (by simp) _) (Nat.le_refl _)
      · exact ((hB.setCell (p := ⟨w.heap.size, 6, none⟩) (by simp) _).cell hw0).trans Hm.out)
    have j6 : w1.cell? ⟨w.heap.size, 6, none⟩ = some (.slice A to.length c) := cell_blk hk0 6
    have jf : w1.frozen? ⟨w.heap.size, 6, none⟩ = false := free_blk hk0 6
    clear hk0 hk1 ho1 hb1
    go_upto_region 2 with fail
    clear j6 jf
    generalize w1.setCell ⟨w.heap.size, 6, none⟩ (.slice A1 to.length c1) = w2 at hA ⊢
    have k2 : w2.cell? ⟨w.heap.size, 2, none⟩ = some (.bool false) := cell_blk hA.out.st 2
    have hmx := hA.out.mx
    go_wp2_with fail
    refine (Try.strings_Cut line ⟨#[32]⟩ m _ (by omega) hmx).mono ?_
    rintro e w3 ⟨rfl, n3, rfl⟩
    rw [Hcut.out]
    have hA := Lib.hid (hA.out.below (below_drewN (Below.refl _ w2) n3))
    clear k2 hmx
    go_wp2_with fail
    generalize w2.drewN n3 = w4 at hA ⊢
    refine (upper_any ⟨wd.toArray⟩ _ (by show wd.length < _; omega)).mono ?_
    rintro e w5 ⟨rfl, hb5⟩
    rw [HU.out]
    have hA := Lib.hid (hA.out.below hb5)
    clear hb5
    have kf : ∀ i, w5.frozen? ⟨w.heap.size, i, none⟩ = false := fun i => free_blk hA.out.st i
    have k0 : w5.cell? ⟨w.heap.size, 0, none⟩ = some (.bool hello) := cell_blk hA.out.st 0
    have k1 : w5.cell? ⟨w.heap.size, 1, none⟩ = some (.bool hasFrom) := cell_blk hA.out.st 1
    have k2 : w5.cell? ⟨w.heap.size, 2, none⟩ = some (.bool false) := cell_blk hA.out.st 2
    have k3 : w5.cell? ⟨w.heap.size, 3, none⟩ = some (.bool long) := cell_blk hA.out.st 3
    have k4 : w5.cell? ⟨w.heap.size, 4, none⟩ = some (strV frm) := cell_blk hA.out.st 4
    have k5 : w5.cell? ⟨w.heap.size, 5, none⟩ = some (strV body) := cell_blk hA.out.st 5
    have k6 : w5.cell? ⟨w.heap.size, 6, none⟩ = some (.slice A1 to.length c1) := cell_blk hA.out.st 6
    have rf : ∀ i, w5.frozen? ⟨w.heap.size + 1, i, none⟩ = false := fun i => free_blk hA.out.res i
    have r0 : w5.cell? ⟨w.heap.size + 1, 0, none⟩ = some (.bool false) := cell_blk hA.out.res 0
    have r1 : w5.cell? ⟨w.heap.size + 1, 1, none⟩ = some (.bool false) := cell_blk hA.out.res 1
    have r2 : w5.cell? ⟨w.heap.size + 1, 2, none⟩ = some (.bool false) := cell_blk hA.out.res 2
    have r3 : w5.cell? ⟨w.heap.size + 1, 3, none⟩ = some (.bool false) := cell_blk hA.out.res 3
    have r4 : w5.cell? ⟨w.heap.size + 1, 4, none⟩ = some (.string ⟨#[]⟩) := cell_blk hA.out.res 4
    have r5 : w5.cell? ⟨w.heap.size + 1, 5, none⟩ = some (.string ⟨#[]⟩) := cell_blk hA.out.res 5
    have r6 : w5.cell? ⟨w.heap.size + 1, 6, none⟩ = some (.slice none 0 0) := cell_blk hA.out.res 6
    by_cases u0 : U = [76, 72, 76, 79]
    · have b0 : (U == [76, 72, 76, 79]) = true := beq_iff_eq.2 u0
      rcases ag with _ | ⟨x, ag⟩
      · have Hr := Lib.hid (HL.out.trans (show lineW ⟨hello, hasFrom, false, long, frm, body, to⟩ U [] ha us = (⟨hello, hasFrom, false, long, frm, body, to⟩, rSyntax) by unfold lineW; rw [if_pos u0, if_pos rfl]))
        clear u0
        go_wp2
        refine bodyPost_ret (v := .tuple #[stV ⟨hello, hasFrom, false, long, frm, body, to⟩ (.slice A1 to.length c1), strV rSyntax]) (by simp [results, Try.results7, go_sem, rSyntax, r0, r1, r2, r3, r4, r5, r6]) rfl ?_
        exact LAt.out (r := (⟨hello, hasFrom, false, long, frm, body, to⟩, rSyntax)) Hr.out hA.out.own hA.out.bel _ _ _ _ _ _ _
      · have Hr := Lib.hid (HL.out.trans (show lineW ⟨hello, hasFrom, false, long, frm, body, to⟩ U (x :: ag) ha us = (⟨true, false, false, false, [], [], []⟩, rHello) by unfold lineW; rw [if_pos u0, if_neg (by simp)]))
        clear u0
        go_wp2
        refine bodyPost_ret (v := .tuple #[stV ⟨true, false, false, false, [], [], []⟩ (.slice none 0 0), strV rHello]) (by simp [results, Try.results7, go_sem, rHello, r0, r1, r2, r3, r4, r5, r6]) rfl ?_
        exact LAt.out (r := (⟨true, false, false, false, [], [], []⟩, rHello)) Hr.out (OwnS.nil _ _) hA.out.bel _ _ _ _ _ _ _
    have b0 : (U == [76, 72, 76, 79]) = false := beq_eq_false_iff_ne.2 u0
    by_cases u1 : U = [77, 65, 73, 76]
    · have b1 : (U == [77, 65, 73, 76]) = true := beq_iff_eq.2 u1
      have Hr := Lib.hid (HL.out.trans (show lineW ⟨hello, hasFrom, false, long, frm, body, to⟩ U ag ha us = mailP ⟨hello, hasFrom, false, long, frm, body, to⟩ (⟨ag.toArray⟩ : ByteArray).data.toList by unfold lineW; rw [if_neg u0, if_pos u1]))
      have hbig := hA.out.big
      have hown := Lib.hid hA.out.own
      clear u0 u1
      go_wp2_with fail
      refine (mail_any ⟨hello, hasFrom, false, long, frm, body, to⟩ A1 c1 (w.heap.size + 2) ⟨ag.toArray⟩ _ hown.out hbig (by show ag.length < _; omega)).mono ?_
      generalize mailP ⟨hello, hasFrom, false, long, frm, body, to⟩ (⟨ag.toArray⟩ : ByteArray).data.toList = q at Hr ⊢
      rintro e w6 ⟨tv6, rfl, ho6, hb6⟩
      obtain ⟨⟨qh, qf, qd, ql, qfr, qb, qt⟩, rep⟩ := q
      obtain ⟨A6, c6, e6, hc6⟩ := ho6.form
      subst e6
      have hk6 := (hA.out.after hb6).1
      have hB6 := (hA.out.after hb6).2
      have hO6 := Lib.hid ho6
      clear hb6 ho6 k0 k1 k2 k3 k4 k5 k6 kf r0 r1 r2 r3 r4 r5 r6 rf
      have rf : ∀ i, w6.frozen? ⟨w.heap.size + 1, i, none⟩ = false := fun i => free_blk hk6 i
      have r0 : w6.cell? ⟨w.heap.size + 1, 0, none⟩ = some (.bool false) := cell_blk hk6 0
      have r1 : w6.cell? ⟨w.heap.size + 1, 1, none⟩ = some (.bool false) := cell_blk hk6 1
      have r2 : w6.cell? ⟨w.heap.size + 1, 2, none⟩ = some (.bool false) := cell_blk hk6 2
      have r3 : w6.cell? ⟨w.heap.size + 1, 3, none⟩ = some (.bool false) := cell_blk hk6 3
      have r4 : w6.cell? ⟨w.heap.size + 1, 4, none⟩ = some (.string ⟨#[]⟩) := cell_blk hk6 4
      have r5 : w6.cell? ⟨w.heap.size + 1, 5, none⟩ = some (.string ⟨#[]⟩) := cell_blk hk6 5
      have r6 : w6.cell? ⟨w.heap.size + 1, 6, none⟩ = some (.slice none 0 0) := cell_blk hk6 6
      clear hk6
      go_wp2
      refine bodyPost_ret (v := .tuple #[stV ⟨qh, qf, qd, ql, qfr, qb, qt⟩ (.slice A6 qt.length c6), strV rep]) (by simp [results, Try.results7, go_sem, r0, r1, r2, r3, r4, r5, r6]) rfl ?_
      exact LAt.out (r := (⟨qh, qf, qd, ql, qfr, qb, qt⟩, rep)) Hr.out hO6.out hB6 _ _ _ _ _ _ _
    have b1 : (U == [77, 65, 73, 76]) = false := beq_eq_false_iff_ne.2 u1
    by_cases u2 : U = [82, 67, 80, 84]
    · have b2 : (U == [82, 67, 80, 84]) = true := beq_iff_eq.2 u2
      have Hr := Lib.hid (HL.out.trans (show lineW ⟨hello, hasFrom, false, long, frm, body, to⟩ U ag ha us = rcptP ⟨hello, hasFrom, false, long, frm, body, to⟩ (⟨ag.toArray⟩ : ByteArray).data.toList us by unfold lineW; rw [if_neg u0, if_neg u1, if_pos u2]))
      have hbig := hA.out.big
      have hown := Lib.hid hA.out.own
      have hur := Lib.hid (hA.out.usr.more (B' := w5.heap.size) (by omega))
      have hmx := Lib.hid hA.out.mx
      clear u0 u1 u2
      go_wp2_with fail
      refine (rcpt_any ⟨hello, hasFrom, false, long, frm, body, to⟩ A1 c1 (w.heap.size + 2) ⟨ag.toArray⟩ uv us m _ hown.out hbig (by omega) (by show ag.length < _; omega) hur.out (by omega) hmx.out).mono ?_
      generalize rcptP ⟨hello, hasFrom, false, long, frm, body, to⟩ (⟨ag.toArray⟩ : ByteArray).data.toList us = q at Hr ⊢
      rintro e w6 ⟨tv6, rfl, ho6, hb6⟩
      obtain ⟨⟨qh, qf, qd, ql, qfr, qb, qt⟩, rep⟩ := q
      obtain ⟨A6, c6, e6, hc6⟩ := ho6.form
      subst e6
      have hk6 := (hA.out.after hb6).1
      have hB6 := (hA.out.after hb6).2
      have hO6 := Lib.hid ho6
      clear hb6 ho6 k0 k1 k2 k3 k4 k5 k6 kf r0 r1 r2 r3 r4 r5 r6 rf
      have rf : ∀ i, w6.frozen? ⟨w.heap.size + 1, i, none⟩ = false := fun i => free_blk hk6 i
      have r0 : w6.cell? ⟨w.heap.size + 1, 0, none⟩ = some (.bool false) := cell_blk hk6 0
      have r1 : w6.cell? ⟨w.heap.size + 1, 1, none⟩ = some (.bool false) := cell_blk hk6 1
      have r2 : w6.cell? ⟨w.heap.size + 1, 2, none⟩ = some (.bool false) := cell_blk hk6 2
      have r3 : w6.cell? ⟨w.heap.size + 1, 3, none⟩ = some (.bool false) := cell_blk hk6 3
      have r4 : w6.cell? ⟨w.heap.size + 1, 4, none⟩ = some (.string ⟨#[]⟩) := cell_blk hk6 4
      have r5 : w6.cell? ⟨w.heap.size + 1, 5, none⟩ = some (.string ⟨#[]⟩) := cell_blk hk6 5
      have r6 : w6.cell? ⟨w.heap.size + 1, 6, none⟩ = some (.slice none 0 0) := cell_blk hk6 6
      clear hk6
      go_wp2
      refine bodyPost_ret (v := .tuple #[stV ⟨qh, qf, qd, ql, qfr, qb, qt⟩ (.slice A6 qt.length c6), strV rep]) (by simp [results, Try.results7, go_sem, r0, r1, r2, r3, r4, r5, r6]) rfl ?_
      exact LAt.out (r := (⟨qh, qf, qd, ql, qfr, qb, qt⟩, rep)) Hr.out hO6.out hB6 _ _ _ _ _ _ _
    have b2 : (U == [82, 67, 80, 84]) = false := beq_eq_false_iff_ne.2 u2
    by_cases u3 : U = [78, 79, 79, 80]
    · have b3 : (U == [78, 79, 79, 80]) = true := beq_iff_eq.2 u3
      have Hr := Lib.hid (HL.out.trans (show lineW ⟨hello, hasFrom, false, long, frm, body, to⟩ U ag ha us = (⟨hello, hasFrom, false, long, frm, body, to⟩, rFine) by unfold lineW; rw [if_neg u0, if_neg u1, if_neg u2, if_pos u3]))
      clear u0 u1 u2 u3
      go_wp2
      refine bodyPost_ret (v := .tuple #[stV ⟨hello, hasFrom, false, long, frm, body, to⟩ (.slice A1 to.length c1), strV rFine]) (by simp [results, Try.results7, go_sem, rFine, r0, r1, r2, r3, r4, r5, r6]) rfl ?_
      exact LAt.out (r := (⟨hello, hasFrom, false, long, frm, body, to⟩, rFine)) Hr.out hA.out.own hA.out.bel _ _ _ _ _ _ _
    have b3 : (U == [78, 79, 79, 80]) = false := beq_eq_false_iff_ne.2 u3
    by_cases u4 : U = [68, 65, 84, 65]
    · have b4 : (U == [68, 65, 84, 65]) = true := beq_iff_eq.2 u4
      cases ha
      · have Hr := Lib.hid (HL.out.trans (show lineW ⟨hello, hasFrom, false, long, frm, body, to⟩ U ag false us = simpleP ⟨hello, hasFrom, false, long, frm, body, to⟩ (⟨U.toArray⟩ : ByteArray).data.toList by unfold lineW; rw [if_neg u0, if_neg u1, if_neg u2, if_neg u3, if_pos (.inl u4), if_neg (by simp)]))
        have hbig := hA.out.big
        have hown := Lib.hid hA.out.own
        clear u0 u1 u2 u3 u4
        go_wp2_with fail
        go_region_law (first | (go_simp; go_at_call 16; refine (upper_any ⟨wd.toArray⟩ _ (by show wd.length < _; omega)).mono ?_; rintro e w7 ⟨rfl, hb7⟩; rw [HU.out]; have hA7 := Lib.hid ((hA.out.below ((Below.refl _ w5).drew)).below hb7); have hown7 := Lib.hid hA7.out.own; have hbig7 := hA7.out.big; have qf : ∀ i, w7.frozen? ⟨w.heap.size, i, none⟩ = false := fun i => free_blk hA7.out.st i; have q0 : w7.cell? ⟨w.heap.size, 0, none⟩ = some (.bool hello) := cell_blk hA7.out.st 0; have q1 : w7.cell? ⟨w.heap.size, 1, none⟩ = some (.bool hasFrom) := cell_blk hA7.out.st 1; have q2 : w7.cell? ⟨w.heap.size, 2, none⟩ = some (.bool false) := cell_blk hA7.out.st 2; have q3 : w7.cell? ⟨w.heap.size, 3, none⟩ = some (.bool long) := cell_blk hA7.out.st 3; have q4 : w7.cell? ⟨w.heap.size, 4, none⟩ = some (strV frm) := cell_blk hA7.out.st 4; have q5 : w7.cell? ⟨w.heap.size, 5, none⟩ = some (strV body) := cell_blk hA7.out.st 5; have q6 : w7.cell? ⟨w.heap.size, 6, none⟩ = some (.slice A1 to.length c1) := cell_blk hA7.out.st 6; clear hb7) | (go_simp; go_at_call 19; refine (simple_any ⟨hello, hasFrom, false, long, frm, body, to⟩ A1 c1 (w.heap.size + 2) ⟨U.toArray⟩ _ hown7.out hbig7).mono ?_; generalize simpleP ⟨hello, hasFrom, false, long, frm, body, to⟩ (⟨U.toArray⟩ : ByteArray).data.toList = q at Hr ⊢; rintro e w6 ⟨tv6, rfl, ho6, hb6⟩; obtain ⟨⟨qh, qf, qd, ql, qfr, qb, qt⟩, rep⟩ := q; obtain ⟨A6, c6, e6, hc6⟩ := ho6.form; subst e6; have hk6 := (hA7.out.after hb6).1; have hB6 := (hA7.out.after hb6).2; have hO6 := Lib.hid ho6; clear hb6 ho6; have sf : ∀ i, w6.frozen? ⟨w.heap.size + 1, i, none⟩ = false := fun i => free_blk hk6 i; have s0 : w6.cell? ⟨w.heap.size + 1, 0, none⟩ = some (.bool false) := cell_blk hk6 0; have s1 : w6.cell? ⟨w.heap.size + 1, 1, none⟩ = some (.bool false) := cell_blk hk6 1; have s2 : w6.cell? ⟨w.heap.size + 1, 2, none⟩ = some (.bool false) := cell_blk hk6 2; have s3 : w6.cell? ⟨w.heap.size + 1, 3, none⟩ = some (.bool false) := cell_blk hk6 3; have s4 : w6.cell? ⟨w.heap.size + 1, 4, none⟩ = some (.string ⟨#[]⟩) := cell_blk hk6 4; have s5 : w6.cell? ⟨w.heap.size + 1, 5, none⟩ = some (.string ⟨#[]⟩) := cell_blk hk6 5; have s6 : w6.cell? ⟨w.heap.size + 1, 6, none⟩ = some (.slice none 0 0) := cell_blk hk6 6; clear hk6))
        all_goals
          go_wp2
          refine bodyPost_ret (v := .tuple #[stV ⟨qh, qf, qd, ql, qfr, qb, qt⟩ (.slice A6 qt.length c6), strV rep]) (by simp [results, Try.results7, go_sem, s0, s1, s2, s3, s4, s5, s6]) rfl ?_
          exact LAt.out (r := (⟨qh, qf, qd, ql, qfr, qb, qt⟩, rep)) Hr.out hO6.out hB6 _ _ _ _ _ _ _
      · have Hr := Lib.hid (HL.out.trans (show lineW ⟨hello, hasFrom, false, long, frm, body, to⟩ U ag true us = (⟨hello, hasFrom, false, long, frm, body, to⟩, rSyntax) by unfold lineW; rw [if_neg u0, if_neg u1, if_neg u2, if_neg u3, if_pos (.inl u4), if_pos rfl]))
        clear u0 u1 u2 u3 u4
        go_wp2
        refine bodyPost_ret (v := .tuple #[stV ⟨hello, hasFrom, false, long, frm, body, to⟩ (.slice A1 to.length c1), strV rSyntax]) (by simp [results, Try.results7, go_sem, rSyntax, r0, r1, r2, r3, r4, r5, r6]) rfl ?_
        exact LAt.out (r := (⟨hello, hasFrom, false, long, frm, body, to⟩, rSyntax)) Hr.out hA.out.own hA.out.bel _ _ _ _ _ _ _
    have b4 : (U == [68, 65, 84, 65]) = false := beq_eq_false_iff_ne.2 u4
    by_cases u5 : U = [82, 83, 69, 84]
    · have b5 : (U == [82, 83, 69, 84]) = true := beq_iff_eq.2 u5
      cases ha
      · have Hr := Lib.hid (HL.out.trans (show lineW ⟨hello, hasFrom, false, long, frm, body, to⟩ U ag false us = simpleP ⟨hello, hasFrom, false, long, frm, body, to⟩ (⟨U.toArray⟩ : ByteArray).data.toList by unfold lineW; rw [if_neg u0, if_neg u1, if_neg u2, if_neg u3, if_pos (.inr (.inl u5)), if_neg (by simp)]))
        have hbig := hA.out.big
        have hown := Lib.hid hA.out.own
        clear u0 u1 u2 u3 u4 u5
        go_wp2_with fail
        go_region_law (first | (go_simp; go_at_call 16; refine (upper_any ⟨wd.toArray⟩ _ (by show wd.length < _; omega)).mono ?_; rintro e w7 ⟨rfl, hb7⟩; rw [HU.out]; have hA7 := Lib.hid ((hA.out.below ((Below.refl _ w5).drew)).below hb7); have hown7 := Lib.hid hA7.out.own; have hbig7 := hA7.out.big; have qf : ∀ i, w7.frozen? ⟨w.heap.size, i, none⟩ = false := fun i => free_blk hA7.out.st i; have q0 : w7.cell? ⟨w.heap.size, 0, none⟩ = some (.bool hello) := cell_blk hA7.out.st 0; have q1 : w7.cell? ⟨w.heap.size, 1, none⟩ = some (.bool hasFrom) := cell_blk hA7.out.st 1; have q2 : w7.cell? ⟨w.heap.size, 2, none⟩ = some (.bool false) := cell_blk hA7.out.st 2; have q3 : w7.cell? ⟨w.heap.size, 3, none⟩ = some (.bool long) := cell_blk hA7.out.st 3; have q4 : w7.cell? ⟨w.heap.size, 4, none⟩ = some (strV frm) := cell_blk hA7.out.st 4; have q5 : w7.cell? ⟨w.heap.size, 5, none⟩ = some (strV body) := cell_blk hA7.out.st 5; have q6 : w7.cell? ⟨w.heap.size, 6, none⟩ = some (.slice A1 to.length c1) := cell_blk hA7.out.st 6; clear hb7) | (go_simp; go_at_call 19; refine (simple_any ⟨hello, hasFrom, false, long, frm, body, to⟩ A1 c1 (w.heap.size + 2) ⟨U.toArray⟩ _ hown7.out hbig7).mono ?_; generalize simpleP ⟨hello, hasFrom, false, long, frm, body, to⟩ (⟨U.toArray⟩ : ByteArray).data.toList = q at Hr ⊢; rintro e w6 ⟨tv6, rfl, ho6, hb6⟩; obtain ⟨⟨qh, qf, qd, ql, qfr, qb, qt⟩, rep⟩ := q; obtain ⟨A6, c6, e6, hc6⟩ := ho6.form; subst e6; have hk6 := (hA7.out.after hb6).1; have hB6 := (hA7.out.after hb6).2; have hO6 := Lib.hid ho6; clear hb6 ho6; have sf : ∀ i, w6.frozen? ⟨w.heap.size + 1, i, none⟩ = false := fun i => free_blk hk6 i; have s0 : w6.cell? ⟨w.heap.size + 1, 0, none⟩ = some (.bool false) := cell_blk hk6 0; have s1 : w6.cell? ⟨w.heap.size + 1, 1, none⟩ = some (.bool false) := cell_blk hk6 1; have s2 : w6.cell? ⟨w.heap.size + 1, 2, none⟩ = some (.bool false) := cell_blk hk6 2; have s3 : w6.cell? ⟨w.heap.size + 1, 3, none⟩ = some (.bool false) := cell_blk hk6 3; have s4 : w6.cell? ⟨w.heap.size + 1, 4, none⟩ = some (.string ⟨#[]⟩) := cell_blk hk6 4; have s5 : w6.cell? ⟨w.heap.size + 1, 5, none⟩ = some (.string ⟨#[]⟩) := cell_blk hk6 5; have s6 : w6.cell? ⟨w.heap.size + 1, 6, none⟩ = some (.slice none 0 0) := cell_blk hk6 6; clear hk6))
        all_goals
          go_wp2
          refine bodyPost_ret (v := .tuple #[stV ⟨qh, qf, qd, ql, qfr, qb, qt⟩ (.slice A6 qt.length c6), strV rep]) (by simp [results, Try.results7, go_sem, s0, s1, s2, s3, s4, s5, s6]) rfl ?_
          exact LAt.out (r := (⟨qh, qf, qd, ql, qfr, qb, qt⟩, rep)) Hr.out hO6.out hB6 _ _ _ _ _ _ _
      · have Hr := Lib.hid (HL.out.trans (show lineW ⟨hello, hasFrom, false, long, frm, body, to⟩ U ag true us = (⟨hello, hasFrom, false, long, frm, body, to⟩, rSyntax) by unfold lineW; rw [if_neg u0, if_neg u1, if_neg u2, if_neg u3, if_pos (.inr (.inl u5)), if_pos rfl]))
        clear u0 u1 u2 u3 u4 u5
        go_wp2
        refine bodyPost_ret (v := .tuple #[stV ⟨hello, hasFrom, false, long, frm, body, to⟩ (.slice A1 to.length c1), strV rSyntax]) (by simp [results, Try.results7, go_sem, rSyntax, r0, r1, r2, r3, r4, r5, r6]) rfl ?_
        exact LAt.out (r := (⟨hello, hasFrom, false, long, frm, body, to⟩, rSyntax)) Hr.out hA.out.own hA.out.bel _ _ _ _ _ _ _
    have b5 : (U == [82, 83, 69, 84]) = false := beq_eq_false_iff_ne.2 u5
    by_cases u6 : U = [81, 85, 73, 84]
    · have b6 : (U == [81, 85, 73, 84]) = true := beq_iff_eq.2 u6
      cases ha
      · have Hr := Lib.hid (HL.out.trans (show lineW ⟨hello, hasFrom, false, long, frm, body, to⟩ U ag false us = simpleP ⟨hello, hasFrom, false, long, frm, body, to⟩ (⟨U.toArray⟩ : ByteArray).data.toList by unfold lineW; rw [if_neg u0, if_neg u1, if_neg u2, if_neg u3, if_pos (.inr (.inr u6)), if_neg (by simp)]))
        have hbig := hA.out.big
        have hown := Lib.hid hA.out.own
        clear u0 u1 u2 u3 u4 u5 u6
        go_wp2_with fail
        go_region_law (first | (go_simp; go_at_call 16; refine (upper_any ⟨wd.toArray⟩ _ (by show wd.length < _; omega)).mono ?_; rintro e w7 ⟨rfl, hb7⟩; rw [HU.out]; have hA7 := Lib.hid ((hA.out.below ((Below.refl _ w5).drew)).below hb7); have hown7 := Lib.hid hA7.out.own; have hbig7 := hA7.out.big; have qf : ∀ i, w7.frozen? ⟨w.heap.size, i, none⟩ = false := fun i => free_blk hA7.out.st i; have q0 : w7.cell? ⟨w.heap.size, 0, none⟩ = some (.bool hello) := cell_blk hA7.out.st 0; have q1 : w7.cell? ⟨w.heap.size, 1, none⟩ = some (.bool hasFrom) := cell_blk hA7.out.st 1; have q2 : w7.cell? ⟨w.heap.size, 2, none⟩ = some (.bool false) := cell_blk hA7.out.st 2; have q3 : w7.cell? ⟨w.heap.size, 3, none⟩ = some (.bool long) := cell_blk hA7.out.st 3; have q4 : w7.cell? ⟨w.heap.size, 4, none⟩ = some (strV frm) := cell_blk hA7.out.st 4; have q5 : w7.cell? ⟨w.heap.size, 5, none⟩ = some (strV body) := cell_blk hA7.out.st 5; have q6 : w7.cell? ⟨w.heap.size, 6, none⟩ = some (.slice A1 to.length c1) := cell_blk hA7.out.st 6; clear hb7) | (go_simp; go_at_call 19; refine (simple_any ⟨hello, hasFrom, false, long, frm, body, to⟩ A1 c1 (w.heap.size + 2) ⟨U.toArray⟩ _ hown7.out hbig7).mono ?_; generalize simpleP ⟨hello, hasFrom, false, long, frm, body, to⟩ (⟨U.toArray⟩ : ByteArray).data.toList = q at Hr ⊢; rintro e w6 ⟨tv6, rfl, ho6, hb6⟩; obtain ⟨⟨qh, qf, qd, ql, qfr, qb, qt⟩, rep⟩ := q; obtain ⟨A6, c6, e6, hc6⟩ := ho6.form; subst e6; have hk6 := (hA7.out.after hb6).1; have hB6 := (hA7.out.after hb6).2; have hO6 := Lib.hid ho6; clear hb6 ho6; have sf : ∀ i, w6.frozen? ⟨w.heap.size + 1, i, none⟩ = false := fun i => free_blk hk6 i; have s0 : w6.cell? ⟨w.heap.size + 1, 0, none⟩ = some (.bool false) := cell_blk hk6 0; have s1 : w6.cell? ⟨w.heap.size + 1, 1, none⟩ = some (.bool false) := cell_blk hk6 1; have s2 : w6.cell? ⟨w.heap.size + 1, 2, none⟩ = some (.bool false) := cell_blk hk6 2; have s3 : w6.cell? ⟨w.heap.size + 1, 3, none⟩ = some (.bool false) := cell_blk hk6 3; have s4 : w6.cell? ⟨w.heap.size + 1, 4, none⟩ = some (.string ⟨#[]⟩) := cell_blk hk6 4; have s5 : w6.cell? ⟨w.heap.size + 1, 5, none⟩ = some (.string ⟨#[]⟩) := cell_blk hk6 5; have s6 : w6.cell? ⟨w.heap.size + 1, 6, none⟩ = some (.slice none 0 0) := cell_blk hk6 6; clear hk6))
        all_goals
          go_wp2
          refine bodyPost_ret (v := .tuple #[stV ⟨qh, qf, qd, ql, qfr, qb, qt⟩ (.slice A6 qt.length c6), strV rep]) (by simp [results, Try.results7, go_sem, s0, s1, s2, s3, s4, s5, s6]) rfl ?_
          exact LAt.out (r := (⟨qh, qf, qd, ql, qfr, qb, qt⟩, rep)) Hr.out hO6.out hB6 _ _ _ _ _ _ _
      · have Hr := Lib.hid (HL.out.trans (show lineW ⟨hello, hasFrom, false, long, frm, body, to⟩ U ag true us = (⟨hello, hasFrom, false, long, frm, body, to⟩, rSyntax) by unfold lineW; rw [if_neg u0, if_neg u1, if_neg u2, if_neg u3, if_pos (.inr (.inr u6)), if_pos rfl]))
        clear u0 u1 u2 u3 u4 u5 u6
        go_wp2
        refine bodyPost_ret (v := .tuple #[stV ⟨hello, hasFrom, false, long, frm, body, to⟩ (.slice A1 to.length c1), strV rSyntax]) (by simp [results, Try.results7, go_sem, rSyntax, r0, r1, r2, r3, r4, r5, r6]) rfl ?_
        exact LAt.out (r := (⟨hello, hasFrom, false, long, frm, body, to⟩, rSyntax)) Hr.out hA.out.own hA.out.bel _ _ _ _ _ _ _
    have b6 : (U == [81, 85, 73, 84]) = false := beq_eq_false_iff_ne.2 u6
    have Hr := Lib.hid (HL.out.trans (show lineW ⟨hello, hasFrom, false, long, frm, body, to⟩ U ag ha us = (⟨hello, hasFrom, false, long, frm, body, to⟩, rWhat) by unfold lineW; rw [if_neg u0, if_neg u1, if_neg u2, if_neg u3, if_neg (by rintro (h | h | h); exact u4 h; exact u5 h; exact u6 h)]))
    clear u0 u1 u2 u3 u4 u5 u6
    go_wp2
    refine bodyPost_ret (v := .tuple #[stV ⟨hello, hasFrom, false, long, frm, body, to⟩ (.slice A1 to.length c1), strV rWhat]) (by simp [results, Try.results7, go_sem, rWhat, r0, r1, r2, r3, r4, r5, r6]) rfl ?_
    exact LAt.out (r := (⟨hello, hasFrom, false, long, frm, body, to⟩, rWhat)) Hr.out hA.out.own hA.out.bel _ _ _ _ _ _ _
  · have Hr := Lib.hid (show lineP ⟨hello, hasFrom, true, long, frm, body, to⟩ line.data.toList us = (receiveP ⟨hello, hasFrom, true, long, frm, body, to⟩ line.data.toList, []) from rfl)
    have Ht := Lib.hid (receive_to ⟨hello, hasFrom, true, long, frm, body, to⟩ line.data.toList)
    go_enter Try.func7, Try.ntmps7
    go_wp2_with fail
    have Hto2 := Lib.hid (Hto.out.below (((Below.refl w.heap.size w).alloc (Nat.le_refl _) (.cells #[.bool hello, .bool hasFrom, .bool true, .bool long, strV frm, strV body, .slice A to.length c] 25)).alloc (by simp) (.cells #[.bool false, .bool false, .bool false, .bool false, .string ⟨#[]⟩, .string ⟨#[]⟩, .slice none 0 0] 25)) (Nat.le_refl _))
    refine (clone_any _ to _ _ Hto2.out (by omega)).mono ?_
    rintro e w1 ⟨v1, rfl, ho1, hb1⟩
    have hk0 := blk_below (two_old w (.cells #[.bool hello, .bool hasFrom, .bool true, .bool long, strV frm, strV body, .slice A to.length c] 25) (.cells #[.bool false, .bool false, .bool false, .bool false, .string ⟨#[]⟩, .string ⟨#[]⟩, .slice none 0 0] 25)) hb1 (by rw [size_new, size_new]; omega)
    have hk1 := blk_below (two_new w (.cells #[.bool hello, .bool hasFrom, .bool true, .bool long, strV frm, strV body, .slice A to.length c] 25) (.cells #[.bool false, .bool false, .bool false, .bool false, .string ⟨#[]⟩, .string ⟨#[]⟩, .slice none 0 0] 25)) hb1 (by rw [size_new, size_new]; omega)
    obtain ⟨A1, c1, e1, hc1⟩ := ho1.form
    subst e1
    have hA : Hid (LAt w ⟨hello, hasFrom, true, long, frm, body, to⟩ A1 c1 uv us m (w1.setCell ⟨w.heap.size, 6, none⟩ (.slice A1 to.length c1))) := Lib.hid (by
      have hz : w.heap.size + 2 ≤ w1.heap.size := by have := hb1.size; simp at this; omega
      have hB : Below w.heap.size w w1 := (((Below.refl _ _).alloc (Nat.le_refl _) _).alloc (by simp) _).trans (hb1.mono (by simp; omega))
      refine ⟨by have := blk_set hk0 6 (.slice A1 to.length c1); simpa using this, blk_far hk1 (by simp) _, ?_, hB.setCell (by simp) _, by rw [size_set]; exact hz, ?_, ?_⟩
      · have h2 : OwnS w1 (w.heap.size + 2) (.slice A1 to.length c1) to := by simpa using ho1
        exact h2.set (by simp) _
      · exact Hus.out.below (hB.setCell (by simp) _) (Nat.le_refl _)
      · exact ((hB.setCell (p := ⟨w.heap.size, 6, none⟩) (by simp) _).cell hw0).trans Hm.out)
    have j6 : w1.cell? ⟨w.heap.size, 6, none⟩ = some (.slice A to.length c) := cell_blk hk0 6
    have jf : w1.frozen? ⟨w.heap.size, 6, none⟩ = false := free_blk hk0 6
    clear hk0 hk1 ho1 hb1
    go_upto_region 2 with fail
    clear j6 jf
    generalize w1.setCell ⟨w.heap.size, 6, none⟩ (.slice A1 to.length c1) = w2 at hA ⊢
    have kf : ∀ i, w2.frozen? ⟨w.heap.size, i, none⟩ = false := fun i => free_blk hA.out.st i
    have k0 : w2.cell? ⟨w.heap.size, 0, none⟩ = some (.bool hello) := cell_blk hA.out.st 0
    have k1 : w2.cell? ⟨w.heap.size, 1, none⟩ = some (.bool hasFrom) := cell_blk hA.out.st 1
    have k2 : w2.cell? ⟨w.heap.size, 2, none⟩ = some (.bool true) := cell_blk hA.out.st 2
    have k3 : w2.cell? ⟨w.heap.size, 3, none⟩ = some (.bool long) := cell_blk hA.out.st 3
    have k4 : w2.cell? ⟨w.heap.size, 4, none⟩ = some (strV frm) := cell_blk hA.out.st 4
    have k5 : w2.cell? ⟨w.heap.size, 5, none⟩ = some (strV body) := cell_blk hA.out.st 5
    have k6 : w2.cell? ⟨w.heap.size, 6, none⟩ = some (.slice A1 to.length c1) := cell_blk hA.out.st 6
    go_wp2_with fail
    refine (receive_any ⟨hello, hasFrom, true, long, frm, body, to⟩ A1 to.length c1 line _ hb hl).mono ?_
    generalize receiveP ⟨hello, hasFrom, true, long, frm, body, to⟩ line.data.toList = q at Hr Ht ⊢
    rintro e w3 ⟨rfl, hb3⟩
    have hA3 := Lib.hid (hA.out.below hb3)
    clear hb3 k0 k1 k2 k3 k4 k5 k6 kf
    have rf : ∀ i, w3.frozen? ⟨w.heap.size + 1, i, none⟩ = false := fun i => free_blk hA3.out.res i
    have r0 : w3.cell? ⟨w.heap.size + 1, 0, none⟩ = some (.bool false) := cell_blk hA3.out.res 0
    have r1 : w3.cell? ⟨w.heap.size + 1, 1, none⟩ = some (.bool false) := cell_blk hA3.out.res 1
    have r2 : w3.cell? ⟨w.heap.size + 1, 2, none⟩ = some (.bool false) := cell_blk hA3.out.res 2
    have r3 : w3.cell? ⟨w.heap.size + 1, 3, none⟩ = some (.bool false) := cell_blk hA3.out.res 3
    have r4 : w3.cell? ⟨w.heap.size + 1, 4, none⟩ = some (.string ⟨#[]⟩) := cell_blk hA3.out.res 4
    have r5 : w3.cell? ⟨w.heap.size + 1, 5, none⟩ = some (.string ⟨#[]⟩) := cell_blk hA3.out.res 5
    have r6 : w3.cell? ⟨w.heap.size + 1, 6, none⟩ = some (.slice none 0 0) := cell_blk hA3.out.res 6
    obtain ⟨qh, qf, qd, ql, qfr, qb, qt⟩ := q
    go_wp2
    refine bodyPost_ret (v := .tuple #[stV ⟨qh, qf, qd, ql, qfr, qb, qt⟩ (.slice A1 to.length c1), strV []]) (by simp [results, Try.results7, go_sem, r0, r1, r2, r3, r4, r5, r6]) rfl ?_
    exact LAt.out (r := (⟨qh, qf, qd, ql, qfr, qb, qt⟩, [])) Hr.out (by rw [Ht.out]; exact hA3.out.own) hA3.out.bel _ _ _ _ _ _ _
end Go.Proofs.Ytnckfgihbimacaa.LM

/- The walk of LmtpReplies: whatever the lines and the users are, the answer is true. Conditions: the cell of the library's MaxLen holds some int, both lists read as they are told, lengths. -/
import Derived.Test.YtnckfgihbimacaaLmtpElse
import Derived.Test.YtnckfgihbimacaaReg
import Derived.Test.YtnckfgihbimacaaLmtpLaws
import Derived.Deep.Cut
import Derived.Deep.DeepCutAuto
import Derived.Deep.RegionHeld3
namespace Go.Proofs.Ytnckfgihbimacaa.LM
open Go.RowKit Mailsack MM

/-- the cells of a state -/
abbrev stO (s : LSt) (tv : Value) : Obj := .cells #[.bool s.hello, .bool s.hasFrom, .bool s.data, .bool s.long, strV s.frm, strV s.body, tv] 25 (0, 0)
/-- a state in a block, its list in blocks from a base on -/
structure StAt (w : World) (base B : Nat) (s : LSt) (A : Option Addr) (c : Nat) : Prop where
  blk : w.heap[B]? = some (stO s (.slice A s.to.length c))
  own : OwnS w base (.slice A s.to.length c) s.to
theorem StAt.below {w w' : World} {base B : Nat} {s : LSt} {A : Option Addr} {c : Nat} (h : StAt w base B s A c) (hb : Below w.heap.size w w') : StAt w' base B s A c :=
  ⟨blk_below h.blk hb (blk_lt h.blk), h.own.below hb⟩
theorem bel_set7 {B b : Nat} {w0 w3 : World} {v0 v1 v2 v3 v4 v5 v6 : Value} (h : Below B w0 w3) (hb : B ≤ b) : Below B w0 (((((((w3.setCell ⟨b, 0, none⟩ v0).setCell ⟨b, 1, none⟩ v1).setCell ⟨b, 2, none⟩ v2).setCell ⟨b, 3, none⟩ v3).setCell ⟨b, 4, none⟩ v4).setCell ⟨b, 5, none⟩ v5).setCell ⟨b, 6, none⟩ v6) :=
  (((((((h.setCell (p := ⟨b, 0, none⟩) hb v0).setCell (p := ⟨b, 1, none⟩) hb v1).setCell (p := ⟨b, 2, none⟩) hb v2).setCell (p := ⟨b, 3, none⟩) hb v3).setCell (p := ⟨b, 4, none⟩) hb v4).setCell (p := ⟨b, 5, none⟩) hb v5).setCell (p := ⟨b, 6, none⟩) hb v6)
/-- behind the call of Line: the new state in a new block -/
def RCut (base : Nat) (wr : World) (t : LSt) (r : Bs) (v7 v8 : Value) (wx : World) : Prop := ∃ (b : Nat) (A : Option Addr) (c : Nat), v7 = .pointer (some ⟨b, 0, none⟩) ∧ v8 = strV r ∧ wr.heap.size ≤ b ∧ StAt wx base b t A c ∧ Below wr.heap.size wr wx
theorem cut_a {wr w3 : World} {t : LSt} {r : Bs} {A : Option Addr} {c : Nat} (Z : Obj) (hZ : Z = .cells #[.bool false, .bool false, .bool false, .bool false, .string ⟨#[]⟩, .string ⟨#[]⟩, .slice none 0 0] 25 (0, 0)) {base : Nat} (hbase : base ≤ wr.heap.size) (ho' : OwnS w3 (wr.drew.alloc Z).heap.size (.slice A t.to.length c) t.to) (hb' : Below (wr.drew.alloc Z).heap.size (wr.drew.alloc Z) w3) :
    RCut base wr t r (.pointer (some ⟨wr.heap.size, 0, none⟩)) (strV r) (((((((w3.setCell ⟨wr.heap.size, 0, none⟩ (.bool t.hello)).setCell ⟨wr.heap.size, 1, none⟩ (.bool t.hasFrom)).setCell ⟨wr.heap.size, 2, none⟩ (.bool t.data)).setCell ⟨wr.heap.size, 3, none⟩ (.bool t.long)).setCell ⟨wr.heap.size, 4, none⟩ (strV t.frm)).setCell ⟨wr.heap.size, 5, none⟩ (strV t.body)).setCell ⟨wr.heap.size, 6, none⟩ (.slice A t.to.length c)) := by
  have hz1 : (wr.drew.alloc Z).heap.size = wr.heap.size + 1 := size_new wr.drew Z
  rw [hz1] at ho' hb'
  have ho := ho'
  have hb := hb'
  subst hZ
  have h0 : (wr.drew.alloc (.cells #[.bool false, .bool false, .bool false, .bool false, .string ⟨#[]⟩, .string ⟨#[]⟩, .slice none 0 0] 25 (0, 0))).heap[wr.heap.size]? = some (.cells #[.bool false, .bool false, .bool false, .bool false, .string ⟨#[]⟩, .string ⟨#[]⟩, .slice none 0 0] 25 (0, 0)) := blk_new wr.drew _
  have h1 := blk_below h0 hb (by omega)
  have h2 := blk_set (blk_set (blk_set (blk_set (blk_set (blk_set (blk_set h1 0 (.bool t.hello)) 1 (.bool t.hasFrom)) 2 (.bool t.data)) 3 (.bool t.long)) 4 (strV t.frm)) 5 (strV t.body)) 6 (.slice A t.to.length c)
  have h3 := (((((((ho.set (p := ⟨wr.heap.size, 0, none⟩) (by simp) (.bool t.hello)).set (p := ⟨wr.heap.size, 1, none⟩) (by simp) (.bool t.hasFrom)).set (p := ⟨wr.heap.size, 2, none⟩) (by simp) (.bool t.data)).set (p := ⟨wr.heap.size, 3, none⟩) (by simp) (.bool t.long)).set (p := ⟨wr.heap.size, 4, none⟩) (by simp) (strV t.frm)).set (p := ⟨wr.heap.size, 5, none⟩) (by simp) (strV t.body)).set (p := ⟨wr.heap.size, 6, none⟩) (by simp) (.slice A t.to.length c))
  have h4 : Below wr.heap.size wr w3 := (((Below.refl wr.heap.size wr).drew).alloc (Nat.le_refl _) _).trans (hb.mono (by omega))
  refine ⟨_, A, c, rfl, rfl, Nat.le_refl _, ⟨?_, h3.less (by omega)⟩, (((((((h4.setCell (p := ⟨wr.heap.size, 0, none⟩) (by simp) (.bool t.hello)).setCell (p := ⟨wr.heap.size, 1, none⟩) (by simp) (.bool t.hasFrom)).setCell (p := ⟨wr.heap.size, 2, none⟩) (by simp) (.bool t.data)).setCell (p := ⟨wr.heap.size, 3, none⟩) (by simp) (.bool t.long)).setCell (p := ⟨wr.heap.size, 4, none⟩) (by simp) (strV t.frm)).setCell (p := ⟨wr.heap.size, 5, none⟩) (by simp) (strV t.body)).setCell (p := ⟨wr.heap.size, 6, none⟩) (by simp) (.slice A t.to.length c))⟩
  simpa using h2
theorem cut_b {wr w3 : World} {t : LSt} {r : Bs} {A : Option Addr} {c : Nat} {base : Nat} (hbase : base ≤ wr.heap.size) (ho : OwnS w3 wr.drew.heap.size (.slice A t.to.length c) t.to) (hb : Below wr.drew.heap.size wr.drew w3) :
    RCut base wr t r (.pointer (some ⟨w3.heap.size, 0, none⟩)) (strV r) (w3.alloc (stO t (.slice A t.to.length c))) :=
  ⟨_, A, c, rfl, rfl, hb.size, ⟨blk_new _ _, (ho.alloc _).less hbase⟩, (((Below.refl wr.heap.size wr).drew).trans hb).alloc hb.size _⟩

/-- at the head of a round -/
structure RHead (w : World) (us : List Bs) (s : LSt) (A : Option Addr) (c : Nat) (wr : World) : Prop where
  inv : LInv us s
  sat : StAt wr (w.heap.size + 1) w.heap.size s A c
  bel : Below w.heap.size w wr

/-- does a text stand among the first ones? -/
def hasP (us : List Bs) (y : Bs) (i : Nat) : Bool := (us.take i).any (fun u => decide (u = y))
theorem hasP_step {us : List Bs} {u : Bs} (y : Bs) {i : Nat} (h : us[i]? = some u) : hasP us y (i + 1) = (hasP us y i || decide (u = y)) := by
  unfold hasP
  obtain ⟨hi, rfl⟩ := List.getElem?_eq_some_iff.1 h
  rw [List.take_succ_eq_append_getElem hi, List.any_append]
  simp
theorem hasP_all {us : List Bs} {y : Bs} (h : y ∈ us) {i : Nat} (hi : us.length ≤ i) : hasP us y i = true := by
  unfold hasP
  rw [List.take_of_length_le hi, List.any_eq_true]
  exact ⟨y, h, by simp⟩
theorem head_set {w wr w6 : World} {us : List Bs} {s t : LSt} {A A' : Option Addr} {c c' b : Nat} (h : RHead w us s A c wr) (hi : LInv us t) (ht : StAt w6 (w.heap.size + 1) b t A' c') (hb : Below wr.heap.size wr w6) :
    RHead w us t A' c' (((((((w6.setCell ⟨w.heap.size, 0, none⟩ (.bool t.hello)).setCell ⟨w.heap.size, 1, none⟩ (.bool t.hasFrom)).setCell ⟨w.heap.size, 2, none⟩ (.bool t.data)).setCell ⟨w.heap.size, 3, none⟩ (.bool t.long)).setCell ⟨w.heap.size, 4, none⟩ (strV t.frm)).setCell ⟨w.heap.size, 5, none⟩ (strV t.body)).setCell ⟨w.heap.size, 6, none⟩ (.slice A' t.to.length c')) := by
  have p0 := blk_below h.sat.blk hb (blk_lt h.sat.blk)
  have h2 := blk_set (blk_set (blk_set (blk_set (blk_set (blk_set (blk_set p0 0 (.bool t.hello)) 1 (.bool t.hasFrom)) 2 (.bool t.data)) 3 (.bool t.long)) 4 (strV t.frm)) 5 (strV t.body)) 6 (.slice A' t.to.length c')
  refine ⟨hi, ⟨by simpa using h2, ?_⟩, bel_set7 (h.bel.trans (hb.mono h.bel.size)) (Nat.le_refl _)⟩
  exact (((((((ht.own.set (p := ⟨w.heap.size, 0, none⟩) (by simp) (.bool t.hello)).set (p := ⟨w.heap.size, 1, none⟩) (by simp) (.bool t.hasFrom)).set (p := ⟨w.heap.size, 2, none⟩) (by simp) (.bool t.data)).set (p := ⟨w.heap.size, 3, none⟩) (by simp) (.bool t.long)).set (p := ⟨w.heap.size, 4, none⟩) (by simp) (strV t.frm)).set (p := ⟨w.heap.size, 5, none⟩) (by simp) (strV t.body)).set (p := ⟨w.heap.size, 6, none⟩) (by simp) (.slice A' t.to.length c'))
set_option maxHeartbeats 4000000 in
set_option maxRecDepth 100000 in
theorem replies_any (lv : Value) (ls : List Bs) (uv : Value) (us : List Bs) (m : Int) (w : World) (hm : w.cell? ⟨0, 0, none⟩ = some (.int .i64 m)) (hl : RdS w w.heap.size lv ls) (hll : ∀ x ∈ ls, x.length ≤ 9223372036854775807) (hln : ls.length ≤ 9223372036854775807)
    (hu : RdS w w.heap.size uv us) (_hul : ∀ x ∈ us, x.length ≤ 9223372036854775807) (hun : us.length ≤ 9223372036854775807) :
    Calls Try.prog 3 #[lv, uv] w fun e w' => e = .returned (.bool true) ∧ Below w.heap.size w w' := by
  have hw0 : 0 < w.heap.size := World.block_lt_of_cell? w _ hm
  have Hm := Lib.hid hm
  have Hl := Lib.hid hl
  have Hu := Lib.hid hu
  have Hll := Lib.hid hll
  clear hm hll
  obtain ⟨A0, c0, rfl, hc0, hcell0⟩ := hl
  obtain ⟨A1, c1, rfl, hc1, hcell1⟩ := hu
  have Hc0 := Lib.hid hcell0
  have Hc1 := Lib.hid hcell1
  clear hcell0 hcell1
  by_cases h20 : 20 < us.length
  · have Hmx := Lib.hid Hm.out
    go_enter Try.func3, Try.ntmps3
    go_wp2_with (go_at_call 6; refine (awake_any m _ Hmx.out).mono ?_; rintro e w2 ⟨rfl, hb2⟩)
    go_ret
    exact ⟨rfl, hb2⟩
  have h20' : us.length ≤ 20 := by omega
  go_enter Try.func3, Try.ntmps3
  go_wp2_with fail
  go_loopw [6] (fun i wr => ∃ (k : Nat) (s : LSt) (A : Option Addr) (c : Nat), i = .int .i64 k ∧ k ≤ ls.length ∧ k ≤ 40 ∧ Hid (RHead w us s A c wr)) (fun i _ => 40 - (intOf i).toNat)
  case atStart => exact ⟨0, ⟨false, false, false, false, [], [], []⟩, none, 0, rfl, Nat.zero_le _, by decide, Lib.hid ⟨linv_zero us false, ⟨blk_new _ _, OwnS.nil _ _⟩, (Below.refl _ _).alloc (Nat.le_refl _) _⟩⟩
  case round =>
    obtain ⟨k, s, A, c, rfl, hk1, hk2, hr⟩ := hrel
    have hmx := Lib.hid ((hr.out.bel.cell hw0).trans Hm.out)
    by_cases hlt : k < ls.length ∧ k < 40
    · obtain ⟨hlt1, hlt2⟩ := hlt
      obtain ⟨b0, off0, rfl, hb0, hx0⟩ := Hc0.out (by omega)
      obtain ⟨x, hx⟩ : ∃ x, ls[k]? = some x := ⟨_, List.getElem?_eq_getElem hlt1⟩
      have hxl := Hll.out x (List.mem_of_getElem? hx)
      have q0 : wr.cell? ⟨b0, off0 + k, none⟩ = some (strV x) := (hr.out.bel.cell hb0).trans (hx0 k x hx)
      clear hx0 hx
      by_cases h600 : 600 < x.length
      · go_wp2_with (go_at_call 6; refine (awake_any m _ hmx.out).mono ?_; rintro e w2 ⟨rfl, hb2⟩)
        go_ret
        exact ⟨rfl, hr.out.bel.trans (hb2.mono hr.out.bel.size)⟩
      have h600' : x.length ≤ 600 := by omega
      have ht := line_to s x us
      have ht2 := linv_line x hr.out.inv
      have hr1 := line_reply s x us
      have hr2 := line_none s x us
      have hr3 := line_data s x us
      obtain ⟨⟨t, r⟩, hE⟩ : ∃ q, lineP s x us = q := ⟨_, rfl⟩
      rw [hE] at ht ht2 hr1 hr2 hr3
      simp only at ht ht2 hr1 hr2 hr3
      obtain ⟨h, f, d, l, fr, bo, tl⟩ := s
      have HL : Hid (∀ W, Below wr.heap.size wr W → Calls Try.prog 7 #[stV ⟨h, f, d, l, fr, bo, tl⟩ (.slice A tl.length c), strV x, .slice A1 us.length c1] W (LPost W.heap.size W (t, r))) := Lib.hid (fun W hW => by
        have h4 := hr.out.inv.few
        have h5 := hr.out.inv.body
        simp only at h4 h5
        have := line_any ⟨h, f, d, l, fr, bo, tl⟩ (.slice A tl.length c) ⟨x.toArray⟩ (.slice A1 us.length c1) us m W ((hr.out.sat.own.rd.below hW (Nat.le_refl _)).more hW.size) ((Hu.out.below (hr.out.bel.trans (hW.mono hr.out.bel.size)) (Nat.le_refl _)).more (hr.out.bel.trans (hW.mono hr.out.bel.size)).size) (((hr.out.bel.trans (hW.mono hr.out.bel.size)).cell hw0).trans Hm.out) (by show tl.length ≤ _; omega) (by show bo.length ≤ _; omega) (by rw [size_mk]; omega) (by omega)
        rwa [show (⟨x.toArray⟩ : ByteArray).data.toList = x from rfl, hE] at this)
      have T1 := Lib.hid ht2
      have T2 := Lib.hid hr1
      have T3 := Lib.hid hr2
      have T4 := Lib.hid hr3
      clear ht ht2 hr1 hr2 hr3 hE
      have p0 := Lib.hid hr.out.sat.blk
      have k0 : wr.cell? ⟨w.heap.size, 0, none⟩ = some (.bool h) := cell_blk p0.out 0
      have k1 : wr.cell? ⟨w.heap.size, 1, none⟩ = some (.bool f) := cell_blk p0.out 1
      have k2 : wr.cell? ⟨w.heap.size, 2, none⟩ = some (.bool d) := cell_blk p0.out 2
      have k3 : wr.cell? ⟨w.heap.size, 3, none⟩ = some (.bool l) := cell_blk p0.out 3
      have k4 : wr.cell? ⟨w.heap.size, 4, none⟩ = some (strV fr) := cell_blk p0.out 4
      have k5 : wr.cell? ⟨w.heap.size, 5, none⟩ = some (strV bo) := cell_blk p0.out 5
      have k6 : wr.cell? ⟨w.heap.size, 6, none⟩ = some (.slice A tl.length c) := cell_blk p0.out 6
      go_upto_region 9 with fail
      obtain ⟨h', f', d', l', fr', bo', tl'⟩ := t
      go_cut [7, 8] (fun v7 v8 wx => Hid (RCut (w.heap.size + 1) wr ⟨h', f', d', l', fr', bo', tl'⟩ r v7 v8 wx))
      case first =>
        have hS : ∀ W, Below wr.heap.size wr W → (W.cell? ⟨w.heap.size, 0, none⟩ = some (.bool h) ∧ W.cell? ⟨w.heap.size, 1, none⟩ = some (.bool f) ∧ W.cell? ⟨w.heap.size, 2, none⟩ = some (.bool d) ∧ W.cell? ⟨w.heap.size, 3, none⟩ = some (.bool l) ∧ W.cell? ⟨w.heap.size, 4, none⟩ = some (strV fr) ∧ W.cell? ⟨w.heap.size, 5, none⟩ = some (strV bo) ∧ W.cell? ⟨w.heap.size, 6, none⟩ = some (.slice A tl.length c) ∧ W.cell? ⟨b0, off0 + k, none⟩ = some (strV x)) := fun W hW =>
          ⟨(hW.cell (blk_lt p0.out)).trans k0, (hW.cell (blk_lt p0.out)).trans k1, (hW.cell (blk_lt p0.out)).trans k2, (hW.cell (blk_lt p0.out)).trans k3, (hW.cell (blk_lt p0.out)).trans k4, (hW.cell (blk_lt p0.out)).trans k5, (hW.cell (blk_lt p0.out)).trans k6, (hW.cell (World.block_lt_of_cell? wr _ q0)).trans q0⟩
        have HS := Lib.hid hS
        clear hS
        have HB0 := Lib.hid (Below.refl wr.heap.size wr)
        have hlt0 : w.heap.size + 1 ≤ wr.heap.size := blk_lt p0.out
        go_region_held3 (fun W => W.cell? ⟨w.heap.size, 0, none⟩ = some (.bool h) ∧ W.cell? ⟨w.heap.size, 1, none⟩ = some (.bool f) ∧ W.cell? ⟨w.heap.size, 2, none⟩ = some (.bool d) ∧ W.cell? ⟨w.heap.size, 3, none⟩ = some (.bool l) ∧ W.cell? ⟨w.heap.size, 4, none⟩ = some (strV fr) ∧ W.cell? ⟨w.heap.size, 5, none⟩ = some (strV bo) ∧ W.cell? ⟨w.heap.size, 6, none⟩ = some (.slice A tl.length c) ∧ W.cell? ⟨b0, off0 + k, none⟩ = some (strV x))
          (first | with_reducible exact HS.out _ HB0.out | with_reducible exact HS.out _ HB0.out.drew | with_reducible exact HS.out _ (HB0.out.drew.alloc (Nat.le_refl _) _) | with_reducible exact HS.out _ (HB0.out.alloc HB0.out.size _) | with_reducible exact HS.out _ (bel_set7 HB0.out (Nat.le_refl _)) | with_reducible exact HS.out _ ((bel_set7 HB0.out (Nat.le_refl _)).drew) | go_keep)
          (first
            | (go_simp; go_at_call 7; refine (HL.out _ HB0.out.drew).mono ?_; rintro e w3 ⟨tv, rfl, ho, hb3⟩; obtain ⟨A9, c9, e9, _⟩ := ho.form; (simp only at e9); subst e9; replace HB0 := Lib.hid (HB0.out.drew.trans hb3); have Ho := Lib.hid ho; have Hb := Lib.hid hb3; clear ho hb3)
            | (go_simp; go_at_call 7; refine (HL.out _ (HB0.out.drew.alloc (Nat.le_refl _) _)).mono ?_; rintro e w3 ⟨tv, rfl, ho, hb3⟩; obtain ⟨A9, c9, e9, _⟩ := ho.form; (simp only at e9); subst e9; have z := Lib.hid (blk_below (blk_new wr.drew (.cells #[.bool false, .bool false, .bool false, .bool false, .string ⟨#[]⟩, .string ⟨#[]⟩, .slice none 0 0] 25)) hb3 (by simp)); have z0 : w3.cell? ⟨wr.heap.size, 0, none⟩ = some (.bool false) := cell_blk z.out 0; have z1 : w3.cell? ⟨wr.heap.size, 1, none⟩ = some (.bool false) := cell_blk z.out 1; have z2 : w3.cell? ⟨wr.heap.size, 2, none⟩ = some (.bool false) := cell_blk z.out 2; have z3 : w3.cell? ⟨wr.heap.size, 3, none⟩ = some (.bool false) := cell_blk z.out 3; have z4 : w3.cell? ⟨wr.heap.size, 4, none⟩ = some (.string ⟨#[]⟩) := cell_blk z.out 4; have z5 : w3.cell? ⟨wr.heap.size, 5, none⟩ = some (.string ⟨#[]⟩) := cell_blk z.out 5; have z6 : w3.cell? ⟨wr.heap.size, 6, none⟩ = some (.slice none 0 0) := cell_blk z.out 6; have y0 : w3.frozen? ⟨wr.heap.size, 0, none⟩ = false := free_blk z.out 0; have y1 : w3.frozen? ⟨wr.heap.size, 1, none⟩ = false := free_blk z.out 1; have y2 : w3.frozen? ⟨wr.heap.size, 2, none⟩ = false := free_blk z.out 2; have y3 : w3.frozen? ⟨wr.heap.size, 3, none⟩ = false := free_blk z.out 3; have y4 : w3.frozen? ⟨wr.heap.size, 4, none⟩ = false := free_blk z.out 4; have y5 : w3.frozen? ⟨wr.heap.size, 5, none⟩ = false := free_blk z.out 5; have y6 : w3.frozen? ⟨wr.heap.size, 6, none⟩ = false := free_blk z.out 6; replace HB0 := Lib.hid ((HB0.out.drew.alloc (Nat.le_refl _) _).trans (hb3.mono (by simp))); have Ho := Lib.hid ho; have Hb := Lib.hid hb3; clear ho hb3))
        all_goals (go_wp2_with fail; go_meet)
        all_goals first | with_reducible exact Lib.hid (cut_b hlt0 Ho.out Hb.out) | with_reducible exact Lib.hid (cut_a _ rfl hlt0 Ho.out Hb.out)
      case rest =>
        obtain ⟨b, A2, c2, rfl, rfl, hb2, hs2, hbel⟩ := hcut.out
        clear hcut k0 k1 k2 k3 k4 k5 k6
        cases d
        · have hne : r.isEmpty = false := by
            have := T2.out rfl
            cases r with
            | nil => exact absurd rfl this
            | cons _ _ => rfl
          have HE := Lib.hid (show endedP ⟨h, f, false, l, fr, bo, tl⟩ (⟨x.toArray⟩ : ByteArray).data.toList = false from rfl)
          have pS := Lib.hid (blk_below p0.out hbel (blk_lt p0.out))
          have pT := Lib.hid hs2.blk
          have k0 : wc.cell? ⟨w.heap.size, 0, none⟩ = some (.bool h) := cell_blk pS.out 0
          have k1 : wc.cell? ⟨w.heap.size, 1, none⟩ = some (.bool f) := cell_blk pS.out 1
          have k2 : wc.cell? ⟨w.heap.size, 2, none⟩ = some (.bool false) := cell_blk pS.out 2
          have k3 : wc.cell? ⟨w.heap.size, 3, none⟩ = some (.bool l) := cell_blk pS.out 3
          have k4 : wc.cell? ⟨w.heap.size, 4, none⟩ = some (strV fr) := cell_blk pS.out 4
          have k5 : wc.cell? ⟨w.heap.size, 5, none⟩ = some (strV bo) := cell_blk pS.out 5
          have k6 : wc.cell? ⟨w.heap.size, 6, none⟩ = some (.slice A tl.length c) := cell_blk pS.out 6
          have t0 : wc.cell? ⟨b, 0, none⟩ = some ((.bool h')) := cell_blk pT.out 0
          have t1 : wc.cell? ⟨b, 1, none⟩ = some ((.bool f')) := cell_blk pT.out 1
          have t2 : wc.cell? ⟨b, 2, none⟩ = some ((.bool d')) := cell_blk pT.out 2
          have t3 : wc.cell? ⟨b, 3, none⟩ = some ((.bool l')) := cell_blk pT.out 3
          have t4 : wc.cell? ⟨b, 4, none⟩ = some ((strV fr')) := cell_blk pT.out 4
          have t5 : wc.cell? ⟨b, 5, none⟩ = some ((strV bo')) := cell_blk pT.out 5
          have t6 : wc.cell? ⟨b, 6, none⟩ = some ((.slice A2 tl'.length c2)) := cell_blk pT.out 6
          have q1 := Lib.hid (show wc.cell? ⟨b0, off0 + k, none⟩ = some (strV x) from (hbel.cell (World.block_lt_of_cell? wr _ q0)).trans q0)
          clear q0
          have q0 : wc.cell? ⟨b0, off0 + k, none⟩ = some (strV x) := q1.out
          have qc : (k : Int) < (ls.length : Int) := by omega
          go_upto_region 12 with fail
          clear k0 k1 k2 k3 k4 k5 k6 t0 t1 t2 t3 t4 t5 t6 q0
          refine RG.wp_region_det (fun W => Below wc.heap.size wc W) (by kernel_rfl) (by kernel_rfl) ((Below.refl _ _).drew) ?_
          apply RG.wpDet_cons
          · intro w9 hw9
            have p9 := Lib.hid (blk_below pS.out hw9 (blk_lt pS.out))
            have k0 : w9.cell? ⟨w.heap.size, 0, none⟩ = some (.bool h) := cell_blk p9.out 0
            have k1 : w9.cell? ⟨w.heap.size, 1, none⟩ = some (.bool f) := cell_blk p9.out 1
            have k2 : w9.cell? ⟨w.heap.size, 2, none⟩ = some (.bool false) := cell_blk p9.out 2
            have k3 : w9.cell? ⟨w.heap.size, 3, none⟩ = some (.bool l) := cell_blk p9.out 3
            have k4 : w9.cell? ⟨w.heap.size, 4, none⟩ = some (strV fr) := cell_blk p9.out 4
            have k5 : w9.cell? ⟨w.heap.size, 5, none⟩ = some (strV bo) := cell_blk p9.out 5
            have k6 : w9.cell? ⟨w.heap.size, 6, none⟩ = some (.slice A tl.length c) := cell_blk p9.out 6
            repeat go_step
            with_reducible refine RG.only_mk ?_
            exact hw9
          · rfl
          iterate 3
            apply RG.wpDet_cons
            · intro w9 hw9
              repeat go_step
              with_reducible refine RG.only_mk ?_
              exact hw9
            · rfl
          apply RG.wpDet_cons
          · intro w9 hw9
            have q9 : w9.cell? ⟨b0, off0 + k, none⟩ = some (strV x) := (hw9.cell (World.block_lt_of_cell? wc _ q1.out)).trans q1.out
            repeat go_step
            with_reducible refine RG.only_mk ?_
            exact hw9
          · rfl
          apply RG.wpDet_cons
          · intro w9 hw9
            repeat go_step
            refine (ended_any ⟨h, f, false, l, fr, bo, tl⟩ A _ c ⟨x.toArray⟩ _).mono ?_
            rw [HE.out]
            rintro e w8 ⟨rfl, hb8⟩
            simp only []
            repeat go_step
            with_reducible refine RG.only_mk ?_
            exact hw9.trans (hb8.mono hw9.size)
          · rfl
          refine RG.wpDet_nil (fun w5 hw5 => ?_)
          obtain ⟨w6, hw6⟩ : ∃ w6, w6 = w5 := ⟨_, rfl⟩
          subst hw6
          have hst := Lib.hid (hs2.below hw5)
          have hbel6 := hbel.trans (hw5.mono hbel.size)
          have TI := T1
          go_upto_region 14 with fail
          have i1 : tl'.length ≤ 4 := TI.out.few
          have i2 : List.length bo' ≤ 700 := TI.out.body
          have g1 : decide ((4 : Int) < (tl'.length : Int)) = false := by simp; omega
          have g2 : decide ((700 : Int) < (List.length bo' : Int)) = false := by simp; omega
          have g3 : decide (4 < tl'.length) = false := by simp; omega
          have g4 : decide (700 < List.length bo') = false := by simp; omega
          have pb := Lib.hid (hst.out.blk)
          have t0 : w6.cell? ⟨b, 0, none⟩ = some (.bool h') := cell_blk pb.out 0
          have t1 : w6.cell? ⟨b, 1, none⟩ = some (.bool f') := cell_blk pb.out 1
          have t2 : w6.cell? ⟨b, 2, none⟩ = some (.bool d') := cell_blk pb.out 2
          have t3 : w6.cell? ⟨b, 3, none⟩ = some (.bool l') := cell_blk pb.out 3
          have t4 : w6.cell? ⟨b, 4, none⟩ = some (strV fr') := cell_blk pb.out 4
          have t5 : w6.cell? ⟨b, 5, none⟩ = some (strV bo') := cell_blk pb.out 5
          have t6 : w6.cell? ⟨b, 6, none⟩ = some (.slice A2 tl'.length c2) := cell_blk pb.out 6
          obtain ⟨A9, c9, e9, hc9, hx9⟩ := hst.out.own.rd
          injection e9 with e9 _ e9'
          subst e9 e9'
          have Hx9 := Lib.hid hx9
          clear hx9
          cases d'
          · go_wp2_with fail
            go_loop [95] (fun jv => ∃ j : Nat, j ≤ tl'.length ∧ jv = .int .i64 j) (fun jv => tl'.length - (intOf jv).toNat)
            case atStart => exact ⟨0, Nat.zero_le _, rfl⟩
            case round =>
              obtain ⟨j, hj, rfl⟩ := hrel
              by_cases hjl : j < tl'.length
              · obtain ⟨b3, off3, e3, hb3, hx3⟩ := Hx9.out (by omega)
                subst e3
                obtain ⟨y, hy⟩ : ∃ y, tl'[j]? = some y := ⟨_, List.getElem?_eq_getElem hjl⟩
                have q3 := hx3 j y hy
                have Hy := Lib.hid (TI.out.user y (List.mem_of_getElem? hy))
                clear hx3 hy
                go_wp2_with fail
                go_loop [11, 101] (fun th iv => ∃ i : Nat, i ≤ us.length ∧ iv = .int .i64 i ∧ ∃ q : Bool, th = .bool q ∧ Hid (q = hasP us y i)) (fun _ iv => us.length - (intOf iv).toNat)
                case atStart => exact ⟨0, Nat.zero_le _, rfl, false, rfl, Lib.hid rfl⟩
                case round =>
                  obtain ⟨i, hi, rfl, q, rfl, hq⟩ := hrel
                  by_cases hil : i < us.length
                  · obtain ⟨b4, off4, e4, hb4, hx4⟩ := Hc1.out (by omega)
                    subst e4
                    obtain ⟨u, hu⟩ : ∃ u, us[i]? = some u := ⟨_, List.getElem?_eq_getElem hil⟩
                    have q4 : w6.cell? ⟨b4, off4 + i, none⟩ = some (strV u) := ((hr.out.bel.trans (hbel6.mono hr.out.bel.size)).cell hb4).trans (hx4 i u hu)
                    have Hn := Lib.hid (hasP_step y hu)
                    clear hx4 hu
                    cases q
                    · by_cases huy : u = y
                      · subst huy
                        go_wp2
                        go_round
                        case rel => exact ⟨i + 1, by omega, by go_num, true, rfl, Lib.hid (by rw [Hn.out, ← hq.out]; simp)⟩
                        case measure => simp [intOf]; omega
                      · have hb1 : (u == y) = false := by simpa using huy
                        have Huy := Lib.hid huy
                        clear huy
                        go_wp2
                        go_round
                        case rel => exact ⟨i + 1, by omega, by go_num, false, rfl, Lib.hid (by rw [Hn.out, ← hq.out]; simp [Huy.out])⟩
                        case measure => simp [intOf]; omega
                    · go_wp2
                      go_round
                      case rel => exact ⟨i + 1, by omega, by go_num, true, rfl, Lib.hid (by rw [Hn.out, ← hq.out]; rfl)⟩
                      case measure => simp [intOf]; omega
                  · have hq1 : q = true := by rw [hq.out]; exact hasP_all Hy.out (by omega)
                    subst hq1
                    go_wp2
                    go_round
                    case rel => exact ⟨j + 1, by omega, by go_num⟩
                    case measure => simp [intOf]; omega
              · have pS6 := Lib.hid (blk_below p0.out hbel6 (blk_lt p0.out))
                have k0 : w6.cell? ⟨w.heap.size, 0, none⟩ = some (.bool h) := cell_blk pS6.out 0
                have k1 : w6.cell? ⟨w.heap.size, 1, none⟩ = some (.bool f) := cell_blk pS6.out 1
                have k2 : w6.cell? ⟨w.heap.size, 2, none⟩ = some (.bool false) := cell_blk pS6.out 2
                have k3 : w6.cell? ⟨w.heap.size, 3, none⟩ = some (.bool l) := cell_blk pS6.out 3
                have k4 : w6.cell? ⟨w.heap.size, 4, none⟩ = some (strV fr) := cell_blk pS6.out 4
                have k5 : w6.cell? ⟨w.heap.size, 5, none⟩ = some (strV bo) := cell_blk pS6.out 5
                have k6 : w6.cell? ⟨w.heap.size, 6, none⟩ = some (.slice A tl.length c) := cell_blk pS6.out 6
                have y0 : w6.frozen? ⟨w.heap.size, 0, none⟩ = false := free_blk pS6.out 0
                have y1 : w6.frozen? ⟨w.heap.size, 1, none⟩ = false := free_blk pS6.out 1
                have y2 : w6.frozen? ⟨w.heap.size, 2, none⟩ = false := free_blk pS6.out 2
                have y3 : w6.frozen? ⟨w.heap.size, 3, none⟩ = false := free_blk pS6.out 3
                have y4 : w6.frozen? ⟨w.heap.size, 4, none⟩ = false := free_blk pS6.out 4
                have y5 : w6.frozen? ⟨w.heap.size, 5, none⟩ = false := free_blk pS6.out 5
                have y6 : w6.frozen? ⟨w.heap.size, 6, none⟩ = false := free_blk pS6.out 6
                go_wp2
                go_roundw
                have hh := head_set hr.out TI.out hst.out hbel6
                dsimp only at hh
                case rel => with_reducible exact ⟨k + 1, _, _, _, by go_num, by omega, by omega, Lib.hid hh⟩
                case measure => simp [intOf]; omega
          · have i4 := TI.out.frm rfl
            have i5 : f' = true := TI.out.has i4
            subst i5
            have i6 : 0 < tl'.length := List.length_pos_iff.2 i4
            have i7 : ((tl'.length : Int) == 0) = false := by simp; omega
            go_wp2_with fail
            go_loop [95] (fun jv => ∃ j : Nat, j ≤ tl'.length ∧ jv = .int .i64 j) (fun jv => tl'.length - (intOf jv).toNat)
            case atStart => exact ⟨0, Nat.zero_le _, rfl⟩
            case round =>
              obtain ⟨j, hj, rfl⟩ := hrel
              by_cases hjl : j < tl'.length
              · obtain ⟨b3, off3, e3, hb3, hx3⟩ := Hx9.out (by omega)
                subst e3
                obtain ⟨y, hy⟩ : ∃ y, tl'[j]? = some y := ⟨_, List.getElem?_eq_getElem hjl⟩
                have q3 := hx3 j y hy
                have Hy := Lib.hid (TI.out.user y (List.mem_of_getElem? hy))
                clear hx3 hy
                go_wp2_with fail
                go_loop [11, 101] (fun th iv => ∃ i : Nat, i ≤ us.length ∧ iv = .int .i64 i ∧ ∃ q : Bool, th = .bool q ∧ Hid (q = hasP us y i)) (fun _ iv => us.length - (intOf iv).toNat)
                case atStart => exact ⟨0, Nat.zero_le _, rfl, false, rfl, Lib.hid rfl⟩
                case round =>
                  obtain ⟨i, hi, rfl, q, rfl, hq⟩ := hrel
                  by_cases hil : i < us.length
                  · obtain ⟨b4, off4, e4, hb4, hx4⟩ := Hc1.out (by omega)
                    subst e4
                    obtain ⟨u, hu⟩ : ∃ u, us[i]? = some u := ⟨_, List.getElem?_eq_getElem hil⟩
                    have q4 : w6.cell? ⟨b4, off4 + i, none⟩ = some (strV u) := ((hr.out.bel.trans (hbel6.mono hr.out.bel.size)).cell hb4).trans (hx4 i u hu)
                    have Hn := Lib.hid (hasP_step y hu)
                    clear hx4 hu
                    cases q
                    · by_cases huy : u = y
                      · subst huy
                        go_wp2
                        go_round
                        case rel => exact ⟨i + 1, by omega, by go_num, true, rfl, Lib.hid (by rw [Hn.out, ← hq.out]; simp)⟩
                        case measure => simp [intOf]; omega
                      · have hb1 : (u == y) = false := by simpa using huy
                        have Huy := Lib.hid huy
                        clear huy
                        go_wp2
                        go_round
                        case rel => exact ⟨i + 1, by omega, by go_num, false, rfl, Lib.hid (by rw [Hn.out, ← hq.out]; simp [Huy.out])⟩
                        case measure => simp [intOf]; omega
                    · go_wp2
                      go_round
                      case rel => exact ⟨i + 1, by omega, by go_num, true, rfl, Lib.hid (by rw [Hn.out, ← hq.out]; rfl)⟩
                      case measure => simp [intOf]; omega
                  · have hq1 : q = true := by rw [hq.out]; exact hasP_all Hy.out (by omega)
                    subst hq1
                    go_wp2
                    go_round
                    case rel => exact ⟨j + 1, by omega, by go_num⟩
                    case measure => simp [intOf]; omega
              · have pS6 := Lib.hid (blk_below p0.out hbel6 (blk_lt p0.out))
                have k0 : w6.cell? ⟨w.heap.size, 0, none⟩ = some (.bool h) := cell_blk pS6.out 0
                have k1 : w6.cell? ⟨w.heap.size, 1, none⟩ = some (.bool f) := cell_blk pS6.out 1
                have k2 : w6.cell? ⟨w.heap.size, 2, none⟩ = some (.bool false) := cell_blk pS6.out 2
                have k3 : w6.cell? ⟨w.heap.size, 3, none⟩ = some (.bool l) := cell_blk pS6.out 3
                have k4 : w6.cell? ⟨w.heap.size, 4, none⟩ = some (strV fr) := cell_blk pS6.out 4
                have k5 : w6.cell? ⟨w.heap.size, 5, none⟩ = some (strV bo) := cell_blk pS6.out 5
                have k6 : w6.cell? ⟨w.heap.size, 6, none⟩ = some (.slice A tl.length c) := cell_blk pS6.out 6
                have y0 : w6.frozen? ⟨w.heap.size, 0, none⟩ = false := free_blk pS6.out 0
                have y1 : w6.frozen? ⟨w.heap.size, 1, none⟩ = false := free_blk pS6.out 1
                have y2 : w6.frozen? ⟨w.heap.size, 2, none⟩ = false := free_blk pS6.out 2
                have y3 : w6.frozen? ⟨w.heap.size, 3, none⟩ = false := free_blk pS6.out 3
                have y4 : w6.frozen? ⟨w.heap.size, 4, none⟩ = false := free_blk pS6.out 4
                have y5 : w6.frozen? ⟨w.heap.size, 5, none⟩ = false := free_blk pS6.out 5
                have y6 : w6.frozen? ⟨w.heap.size, 6, none⟩ = false := free_blk pS6.out 6
                go_wp2
                go_roundw
                have hh := head_set hr.out TI.out hst.out hbel6
                dsimp only at hh
                case rel => with_reducible exact ⟨k + 1, _, _, _, by go_num, by omega, by omega, Lib.hid hh⟩
                case measure => simp [intOf]; omega

        · have hr0 : r = [] := T3.out rfl
          subst hr0
          have hd0 : d' = true := T4.out rfl
          subst hd0
          by_cases hx46 : x = [46]
          · subst hx46
            have HE := Lib.hid (show endedP ⟨h, f, true, l, fr, bo, tl⟩ (⟨([46] : List UInt8).toArray⟩ : ByteArray).data.toList = true from rfl)
            have pS := Lib.hid (blk_below p0.out hbel (blk_lt p0.out))
            have pT := Lib.hid hs2.blk
            have k0 : wc.cell? ⟨w.heap.size, 0, none⟩ = some (.bool h) := cell_blk pS.out 0
            have k1 : wc.cell? ⟨w.heap.size, 1, none⟩ = some (.bool f) := cell_blk pS.out 1
            have k2 : wc.cell? ⟨w.heap.size, 2, none⟩ = some (.bool true) := cell_blk pS.out 2
            have k3 : wc.cell? ⟨w.heap.size, 3, none⟩ = some (.bool l) := cell_blk pS.out 3
            have k4 : wc.cell? ⟨w.heap.size, 4, none⟩ = some (strV fr) := cell_blk pS.out 4
            have k5 : wc.cell? ⟨w.heap.size, 5, none⟩ = some (strV bo) := cell_blk pS.out 5
            have k6 : wc.cell? ⟨w.heap.size, 6, none⟩ = some (.slice A tl.length c) := cell_blk pS.out 6
            have t0 : wc.cell? ⟨b, 0, none⟩ = some ((.bool h')) := cell_blk pT.out 0
            have t1 : wc.cell? ⟨b, 1, none⟩ = some ((.bool f')) := cell_blk pT.out 1
            have t2 : wc.cell? ⟨b, 2, none⟩ = some ((.bool true)) := cell_blk pT.out 2
            have t3 : wc.cell? ⟨b, 3, none⟩ = some ((.bool l')) := cell_blk pT.out 3
            have t4 : wc.cell? ⟨b, 4, none⟩ = some ((strV fr')) := cell_blk pT.out 4
            have t5 : wc.cell? ⟨b, 5, none⟩ = some ((strV bo')) := cell_blk pT.out 5
            have t6 : wc.cell? ⟨b, 6, none⟩ = some ((.slice A2 tl'.length c2)) := cell_blk pT.out 6
            have q1 := Lib.hid (show wc.cell? ⟨b0, off0 + k, none⟩ = some (strV [46]) from (hbel.cell (World.block_lt_of_cell? wr _ q0)).trans q0)
            clear q0
            have q0 : wc.cell? ⟨b0, off0 + k, none⟩ = some (strV [46]) := q1.out
            have qc : (k : Int) < (ls.length : Int) := by omega
            go_upto_region 12 with fail
            clear k0 k1 k2 k3 k4 k5 k6 t0 t1 t2 t3 t4 t5 t6 q0
            refine RG.wp_region_det (fun W => Below wc.heap.size wc W) (by kernel_rfl) (by kernel_rfl) ((Below.refl _ _).drew) ?_
            apply RG.wpDet_cons
            · intro w9 hw9
              have p9 := Lib.hid (blk_below pS.out hw9 (blk_lt pS.out))
              have k0 : w9.cell? ⟨w.heap.size, 0, none⟩ = some (.bool h) := cell_blk p9.out 0
              have k1 : w9.cell? ⟨w.heap.size, 1, none⟩ = some (.bool f) := cell_blk p9.out 1
              have k2 : w9.cell? ⟨w.heap.size, 2, none⟩ = some (.bool true) := cell_blk p9.out 2
              have k3 : w9.cell? ⟨w.heap.size, 3, none⟩ = some (.bool l) := cell_blk p9.out 3
              have k4 : w9.cell? ⟨w.heap.size, 4, none⟩ = some (strV fr) := cell_blk p9.out 4
              have k5 : w9.cell? ⟨w.heap.size, 5, none⟩ = some (strV bo) := cell_blk p9.out 5
              have k6 : w9.cell? ⟨w.heap.size, 6, none⟩ = some (.slice A tl.length c) := cell_blk p9.out 6
              repeat go_step
              with_reducible refine RG.only_mk ?_
              exact hw9
            · rfl
            iterate 3
              apply RG.wpDet_cons
              · intro w9 hw9
                repeat go_step
                with_reducible refine RG.only_mk ?_
                exact hw9
              · rfl
            apply RG.wpDet_cons
            · intro w9 hw9
              have q9 : w9.cell? ⟨b0, off0 + k, none⟩ = some (strV [46]) := (hw9.cell (World.block_lt_of_cell? wc _ q1.out)).trans q1.out
              repeat go_step
              with_reducible refine RG.only_mk ?_
              exact hw9
            · rfl
            apply RG.wpDet_cons
            · intro w9 hw9
              repeat go_step
              refine (ended_any ⟨h, f, true, l, fr, bo, tl⟩ A _ c ⟨#[46]⟩ _).mono ?_
              rw [HE.out]
              rintro e w8 ⟨rfl, hb8⟩
              simp only []
              repeat go_step
              with_reducible refine RG.only_mk ?_
              exact hw9.trans (hb8.mono hw9.size)
            · rfl
            refine RG.wpDet_nil (fun w5 hw5 => ?_)
            have p5 := Lib.hid (blk_below pT.out hw5 (blk_lt pT.out))
            have t0 : w5.cell? ⟨b, 0, none⟩ = some ((.bool h')) := cell_blk p5.out 0
            have t1 : w5.cell? ⟨b, 1, none⟩ = some ((.bool f')) := cell_blk p5.out 1
            have t2 : w5.cell? ⟨b, 2, none⟩ = some ((.bool true)) := cell_blk p5.out 2
            have t3 : w5.cell? ⟨b, 3, none⟩ = some ((.bool l')) := cell_blk p5.out 3
            have t4 : w5.cell? ⟨b, 4, none⟩ = some ((strV fr')) := cell_blk p5.out 4
            have t5 : w5.cell? ⟨b, 5, none⟩ = some ((strV bo')) := cell_blk p5.out 5
            have t6 : w5.cell? ⟨b, 6, none⟩ = some ((.slice A2 tl'.length c2)) := cell_blk p5.out 6
            go_wp2_with fail
            refine (done_any ⟨h', f', true, l', fr', bo', tl'⟩ A2 _ c2 _).mono ?_
            rw [show doneP ⟨h', f', true, l', fr', bo', tl'⟩ = ⟨h', false, false, false, [], [], []⟩ from rfl]
            rintro e w7 ⟨rfl, hb7⟩
            have p7 := Lib.hid (blk_below p5.out hb7 (blk_lt p5.out))
            clear t0 t1 t2 t3 t4 t5 t6
            have t0 : w7.cell? ⟨b, 0, none⟩ = some ((.bool h')) := cell_blk p7.out 0
            have t1 : w7.cell? ⟨b, 1, none⟩ = some ((.bool f')) := cell_blk p7.out 1
            have t2 : w7.cell? ⟨b, 2, none⟩ = some ((.bool true)) := cell_blk p7.out 2
            have t3 : w7.cell? ⟨b, 3, none⟩ = some ((.bool l')) := cell_blk p7.out 3
            have t4 : w7.cell? ⟨b, 4, none⟩ = some ((strV fr')) := cell_blk p7.out 4
            have t5 : w7.cell? ⟨b, 5, none⟩ = some ((strV bo')) := cell_blk p7.out 5
            have t6 : w7.cell? ⟨b, 6, none⟩ = some ((.slice A2 tl'.length c2)) := cell_blk p7.out 6
            have y0 : w7.frozen? ⟨b, 0, none⟩ = false := free_blk p7.out 0
            have y1 : w7.frozen? ⟨b, 1, none⟩ = false := free_blk p7.out 1
            have y2 : w7.frozen? ⟨b, 2, none⟩ = false := free_blk p7.out 2
            have y3 : w7.frozen? ⟨b, 3, none⟩ = false := free_blk p7.out 3
            have y4 : w7.frozen? ⟨b, 4, none⟩ = false := free_blk p7.out 4
            have y5 : w7.frozen? ⟨b, 5, none⟩ = false := free_blk p7.out 5
            have y6 : w7.frozen? ⟨b, 6, none⟩ = false := free_blk p7.out 6
            go_upto_region 14 with fail
            clear t0 t1 t2 t3 t4 t5 t6 y0 y1 y2 y3 y4 y5 y6
            have hst : Hid (StAt (((((((w7.setCell ⟨b, 0, none⟩ (.bool h')).setCell ⟨b, 1, none⟩ (.bool false)).setCell ⟨b, 2, none⟩ (.bool false)).setCell ⟨b, 3, none⟩ (.bool false)).setCell ⟨b, 4, none⟩ (.string ⟨#[]⟩)).setCell ⟨b, 5, none⟩ (.string ⟨#[]⟩)).setCell ⟨b, 6, none⟩ (.slice none 0 0)) (w.heap.size + 1) b ⟨h', false, false, false, [], [], []⟩ none 0) := Lib.hid ⟨by have := (blk_set (blk_set (blk_set (blk_set (blk_set (blk_set (blk_set p7.out 0 (.bool h')) 1 (.bool false)) 2 (.bool false)) 3 (.bool false)) 4 (.string ⟨#[]⟩)) 5 (.string ⟨#[]⟩)) 6 (.slice none 0 0)); simpa using this, OwnS.nil _ _⟩
            have hbel7 := hbel.trans ((hw5.trans (hb7.mono hw5.size)).mono hbel.size)
            have hbel6 : Below wr.heap.size wr (((((((w7.setCell ⟨b, 0, none⟩ (.bool h')).setCell ⟨b, 1, none⟩ (.bool false)).setCell ⟨b, 2, none⟩ (.bool false)).setCell ⟨b, 3, none⟩ (.bool false)).setCell ⟨b, 4, none⟩ (.string ⟨#[]⟩)).setCell ⟨b, 5, none⟩ (.string ⟨#[]⟩)).setCell ⟨b, 6, none⟩ (.slice none 0 0)) := bel_set7 hbel7 hb2
            have TI := linv_zero us h'
            generalize (((((((w7.setCell ⟨b, 0, none⟩ (.bool h')).setCell ⟨b, 1, none⟩ (.bool false)).setCell ⟨b, 2, none⟩ (.bool false)).setCell ⟨b, 3, none⟩ (.bool false)).setCell ⟨b, 4, none⟩ (.string ⟨#[]⟩)).setCell ⟨b, 5, none⟩ (.string ⟨#[]⟩)).setCell ⟨b, 6, none⟩ (.slice none 0 0)) = w6 at hst hbel6 ⊢
            have pb := Lib.hid (hst.out.blk)
            have t0 : w6.cell? ⟨b, 0, none⟩ = some (.bool h') := cell_blk pb.out 0
            have t1 : w6.cell? ⟨b, 1, none⟩ = some (.bool false) := cell_blk pb.out 1
            have t2 : w6.cell? ⟨b, 2, none⟩ = some (.bool false) := cell_blk pb.out 2
            have t3 : w6.cell? ⟨b, 3, none⟩ = some (.bool false) := cell_blk pb.out 3
            have t4 : w6.cell? ⟨b, 4, none⟩ = some (.string ⟨#[]⟩) := cell_blk pb.out 4
            have t5 : w6.cell? ⟨b, 5, none⟩ = some (.string ⟨#[]⟩) := cell_blk pb.out 5
            have t6 : w6.cell? ⟨b, 6, none⟩ = some (.slice none 0 0) := cell_blk pb.out 6
            go_wp2_with fail
            go_loop [95] (fun jv => jv = .int .i64 0) (fun _ => 0)
            case atStart => rfl
            case round =>
              subst hrel
              have pS6 := Lib.hid (blk_below p0.out hbel6 (blk_lt p0.out))
              have k0 : w6.cell? ⟨w.heap.size, 0, none⟩ = some (.bool h) := cell_blk pS6.out 0
              have k1 : w6.cell? ⟨w.heap.size, 1, none⟩ = some (.bool f) := cell_blk pS6.out 1
              have k2 : w6.cell? ⟨w.heap.size, 2, none⟩ = some (.bool true) := cell_blk pS6.out 2
              have k3 : w6.cell? ⟨w.heap.size, 3, none⟩ = some (.bool l) := cell_blk pS6.out 3
              have k4 : w6.cell? ⟨w.heap.size, 4, none⟩ = some (strV fr) := cell_blk pS6.out 4
              have k5 : w6.cell? ⟨w.heap.size, 5, none⟩ = some (strV bo) := cell_blk pS6.out 5
              have k6 : w6.cell? ⟨w.heap.size, 6, none⟩ = some (.slice A tl.length c) := cell_blk pS6.out 6
              have y0 : w6.frozen? ⟨w.heap.size, 0, none⟩ = false := free_blk pS6.out 0
              have y1 : w6.frozen? ⟨w.heap.size, 1, none⟩ = false := free_blk pS6.out 1
              have y2 : w6.frozen? ⟨w.heap.size, 2, none⟩ = false := free_blk pS6.out 2
              have y3 : w6.frozen? ⟨w.heap.size, 3, none⟩ = false := free_blk pS6.out 3
              have y4 : w6.frozen? ⟨w.heap.size, 4, none⟩ = false := free_blk pS6.out 4
              have y5 : w6.frozen? ⟨w.heap.size, 5, none⟩ = false := free_blk pS6.out 5
              have y6 : w6.frozen? ⟨w.heap.size, 6, none⟩ = false := free_blk pS6.out 6
              go_wp2
              go_roundw
              have hh := head_set hr.out TI hst.out hbel6
              dsimp only at hh
              case rel => with_reducible exact ⟨k + 1, _, _, _, by go_num, by omega, by omega, Lib.hid hh⟩
              case measure => simp [intOf]; omega

          · have HE := Lib.hid (show endedP ⟨h, f, true, l, fr, bo, tl⟩ (⟨x.toArray⟩ : ByteArray).data.toList = false by simp [endedP, hx46])
            clear hx46
            have pS := Lib.hid (blk_below p0.out hbel (blk_lt p0.out))
            have pT := Lib.hid hs2.blk
            have k0 : wc.cell? ⟨w.heap.size, 0, none⟩ = some (.bool h) := cell_blk pS.out 0
            have k1 : wc.cell? ⟨w.heap.size, 1, none⟩ = some (.bool f) := cell_blk pS.out 1
            have k2 : wc.cell? ⟨w.heap.size, 2, none⟩ = some (.bool true) := cell_blk pS.out 2
            have k3 : wc.cell? ⟨w.heap.size, 3, none⟩ = some (.bool l) := cell_blk pS.out 3
            have k4 : wc.cell? ⟨w.heap.size, 4, none⟩ = some (strV fr) := cell_blk pS.out 4
            have k5 : wc.cell? ⟨w.heap.size, 5, none⟩ = some (strV bo) := cell_blk pS.out 5
            have k6 : wc.cell? ⟨w.heap.size, 6, none⟩ = some (.slice A tl.length c) := cell_blk pS.out 6
            have t0 : wc.cell? ⟨b, 0, none⟩ = some ((.bool h')) := cell_blk pT.out 0
            have t1 : wc.cell? ⟨b, 1, none⟩ = some ((.bool f')) := cell_blk pT.out 1
            have t2 : wc.cell? ⟨b, 2, none⟩ = some ((.bool true)) := cell_blk pT.out 2
            have t3 : wc.cell? ⟨b, 3, none⟩ = some ((.bool l')) := cell_blk pT.out 3
            have t4 : wc.cell? ⟨b, 4, none⟩ = some ((strV fr')) := cell_blk pT.out 4
            have t5 : wc.cell? ⟨b, 5, none⟩ = some ((strV bo')) := cell_blk pT.out 5
            have t6 : wc.cell? ⟨b, 6, none⟩ = some ((.slice A2 tl'.length c2)) := cell_blk pT.out 6
            have q1 := Lib.hid (show wc.cell? ⟨b0, off0 + k, none⟩ = some (strV x) from (hbel.cell (World.block_lt_of_cell? wr _ q0)).trans q0)
            clear q0
            have q0 : wc.cell? ⟨b0, off0 + k, none⟩ = some (strV x) := q1.out
            have qc : (k : Int) < (ls.length : Int) := by omega
            go_upto_region 12 with fail
            clear k0 k1 k2 k3 k4 k5 k6 t0 t1 t2 t3 t4 t5 t6 q0
            refine RG.wp_region_det (fun W => Below wc.heap.size wc W) (by kernel_rfl) (by kernel_rfl) ((Below.refl _ _).drew) ?_
            apply RG.wpDet_cons
            · intro w9 hw9
              have p9 := Lib.hid (blk_below pS.out hw9 (blk_lt pS.out))
              have k0 : w9.cell? ⟨w.heap.size, 0, none⟩ = some (.bool h) := cell_blk p9.out 0
              have k1 : w9.cell? ⟨w.heap.size, 1, none⟩ = some (.bool f) := cell_blk p9.out 1
              have k2 : w9.cell? ⟨w.heap.size, 2, none⟩ = some (.bool true) := cell_blk p9.out 2
              have k3 : w9.cell? ⟨w.heap.size, 3, none⟩ = some (.bool l) := cell_blk p9.out 3
              have k4 : w9.cell? ⟨w.heap.size, 4, none⟩ = some (strV fr) := cell_blk p9.out 4
              have k5 : w9.cell? ⟨w.heap.size, 5, none⟩ = some (strV bo) := cell_blk p9.out 5
              have k6 : w9.cell? ⟨w.heap.size, 6, none⟩ = some (.slice A tl.length c) := cell_blk p9.out 6
              repeat go_step
              with_reducible refine RG.only_mk ?_
              exact hw9
            · rfl
            iterate 3
              apply RG.wpDet_cons
              · intro w9 hw9
                repeat go_step
                with_reducible refine RG.only_mk ?_
                exact hw9
              · rfl
            apply RG.wpDet_cons
            · intro w9 hw9
              have q9 : w9.cell? ⟨b0, off0 + k, none⟩ = some (strV x) := (hw9.cell (World.block_lt_of_cell? wc _ q1.out)).trans q1.out
              repeat go_step
              with_reducible refine RG.only_mk ?_
              exact hw9
            · rfl
            apply RG.wpDet_cons
            · intro w9 hw9
              repeat go_step
              refine (ended_any ⟨h, f, true, l, fr, bo, tl⟩ A _ c ⟨x.toArray⟩ _).mono ?_
              rw [HE.out]
              rintro e w8 ⟨rfl, hb8⟩
              simp only []
              repeat go_step
              with_reducible refine RG.only_mk ?_
              exact hw9.trans (hb8.mono hw9.size)
            · rfl
            refine RG.wpDet_nil (fun w5 hw5 => ?_)
            obtain ⟨w6, hw6⟩ : ∃ w6, w6 = w5 := ⟨_, rfl⟩
            subst hw6
            have hst := Lib.hid (hs2.below hw5)
            have hbel6 := hbel.trans (hw5.mono hbel.size)
            have TI := T1
            go_upto_region 14 with fail
            have i1 : tl'.length ≤ 4 := TI.out.few
            have i2 : List.length bo' ≤ 700 := TI.out.body
            have g1 : decide ((4 : Int) < (tl'.length : Int)) = false := by simp; omega
            have g2 : decide ((700 : Int) < (List.length bo' : Int)) = false := by simp; omega
            have g3 : decide (4 < tl'.length) = false := by simp; omega
            have g4 : decide (700 < List.length bo') = false := by simp; omega
            have pb := Lib.hid (hst.out.blk)
            have t0 : w6.cell? ⟨b, 0, none⟩ = some (.bool h') := cell_blk pb.out 0
            have t1 : w6.cell? ⟨b, 1, none⟩ = some (.bool f') := cell_blk pb.out 1
            have t2 : w6.cell? ⟨b, 2, none⟩ = some (.bool true) := cell_blk pb.out 2
            have t3 : w6.cell? ⟨b, 3, none⟩ = some (.bool l') := cell_blk pb.out 3
            have t4 : w6.cell? ⟨b, 4, none⟩ = some (strV fr') := cell_blk pb.out 4
            have t5 : w6.cell? ⟨b, 5, none⟩ = some (strV bo') := cell_blk pb.out 5
            have t6 : w6.cell? ⟨b, 6, none⟩ = some (.slice A2 tl'.length c2) := cell_blk pb.out 6
            obtain ⟨A9, c9, e9, hc9, hx9⟩ := hst.out.own.rd
            injection e9 with e9 _ e9'
            subst e9 e9'
            have Hx9 := Lib.hid hx9
            clear hx9
            have i4 := TI.out.frm rfl
            have i5 : f' = true := TI.out.has i4
            subst i5
            have i6 : 0 < tl'.length := List.length_pos_iff.2 i4
            have i7 : ((tl'.length : Int) == 0) = false := by simp; omega
            go_wp2_with fail
            go_loop [95] (fun jv => ∃ j : Nat, j ≤ tl'.length ∧ jv = .int .i64 j) (fun jv => tl'.length - (intOf jv).toNat)
            case atStart => exact ⟨0, Nat.zero_le _, rfl⟩
            case round =>
              obtain ⟨j, hj, rfl⟩ := hrel
              by_cases hjl : j < tl'.length
              · obtain ⟨b3, off3, e3, hb3, hx3⟩ := Hx9.out (by omega)
                subst e3
                obtain ⟨y, hy⟩ : ∃ y, tl'[j]? = some y := ⟨_, List.getElem?_eq_getElem hjl⟩
                have q3 := hx3 j y hy
                have Hy := Lib.hid (TI.out.user y (List.mem_of_getElem? hy))
                clear hx3 hy
                go_wp2_with fail
                go_loop [11, 101] (fun th iv => ∃ i : Nat, i ≤ us.length ∧ iv = .int .i64 i ∧ ∃ q : Bool, th = .bool q ∧ Hid (q = hasP us y i)) (fun _ iv => us.length - (intOf iv).toNat)
                case atStart => exact ⟨0, Nat.zero_le _, rfl, false, rfl, Lib.hid rfl⟩
                case round =>
                  obtain ⟨i, hi, rfl, q, rfl, hq⟩ := hrel
                  by_cases hil : i < us.length
                  · obtain ⟨b4, off4, e4, hb4, hx4⟩ := Hc1.out (by omega)
                    subst e4
                    obtain ⟨u, hu⟩ : ∃ u, us[i]? = some u := ⟨_, List.getElem?_eq_getElem hil⟩
                    have q4 : w6.cell? ⟨b4, off4 + i, none⟩ = some (strV u) := ((hr.out.bel.trans (hbel6.mono hr.out.bel.size)).cell hb4).trans (hx4 i u hu)
                    have Hn := Lib.hid (hasP_step y hu)
                    clear hx4 hu
                    cases q
                    · by_cases huy : u = y
                      · subst huy
                        go_wp2
                        go_round
                        case rel => exact ⟨i + 1, by omega, by go_num, true, rfl, Lib.hid (by rw [Hn.out, ← hq.out]; simp)⟩
                        case measure => simp [intOf]; omega
                      · have hb1 : (u == y) = false := by simpa using huy
                        have Huy := Lib.hid huy
                        clear huy
                        go_wp2
                        go_round
                        case rel => exact ⟨i + 1, by omega, by go_num, false, rfl, Lib.hid (by rw [Hn.out, ← hq.out]; simp [Huy.out])⟩
                        case measure => simp [intOf]; omega
                    · go_wp2
                      go_round
                      case rel => exact ⟨i + 1, by omega, by go_num, true, rfl, Lib.hid (by rw [Hn.out, ← hq.out]; rfl)⟩
                      case measure => simp [intOf]; omega
                  · have hq1 : q = true := by rw [hq.out]; exact hasP_all Hy.out (by omega)
                    subst hq1
                    go_wp2
                    go_round
                    case rel => exact ⟨j + 1, by omega, by go_num⟩
                    case measure => simp [intOf]; omega
              · have pS6 := Lib.hid (blk_below p0.out hbel6 (blk_lt p0.out))
                have k0 : w6.cell? ⟨w.heap.size, 0, none⟩ = some (.bool h) := cell_blk pS6.out 0
                have k1 : w6.cell? ⟨w.heap.size, 1, none⟩ = some (.bool f) := cell_blk pS6.out 1
                have k2 : w6.cell? ⟨w.heap.size, 2, none⟩ = some (.bool true) := cell_blk pS6.out 2
                have k3 : w6.cell? ⟨w.heap.size, 3, none⟩ = some (.bool l) := cell_blk pS6.out 3
                have k4 : w6.cell? ⟨w.heap.size, 4, none⟩ = some (strV fr) := cell_blk pS6.out 4
                have k5 : w6.cell? ⟨w.heap.size, 5, none⟩ = some (strV bo) := cell_blk pS6.out 5
                have k6 : w6.cell? ⟨w.heap.size, 6, none⟩ = some (.slice A tl.length c) := cell_blk pS6.out 6
                have y0 : w6.frozen? ⟨w.heap.size, 0, none⟩ = false := free_blk pS6.out 0
                have y1 : w6.frozen? ⟨w.heap.size, 1, none⟩ = false := free_blk pS6.out 1
                have y2 : w6.frozen? ⟨w.heap.size, 2, none⟩ = false := free_blk pS6.out 2
                have y3 : w6.frozen? ⟨w.heap.size, 3, none⟩ = false := free_blk pS6.out 3
                have y4 : w6.frozen? ⟨w.heap.size, 4, none⟩ = false := free_blk pS6.out 4
                have y5 : w6.frozen? ⟨w.heap.size, 5, none⟩ = false := free_blk pS6.out 5
                have y6 : w6.frozen? ⟨w.heap.size, 6, none⟩ = false := free_blk pS6.out 6
                go_wp2
                go_roundw
                have hh := head_set hr.out TI.out hst.out hbel6
                dsimp only at hh
                case rel => with_reducible exact ⟨k + 1, _, _, _, by go_num, by omega, by omega, Lib.hid hh⟩
                case measure => simp [intOf]; omega
    · have hlt' : ls.length ≤ k ∨ 40 ≤ k := by omega
      by_cases hlt1 : k < ls.length
      all_goals
        go_wp2_with (go_at_call 6; refine (awake_any m _ hmx.out).mono ?_; rintro e w2 ⟨rfl, hb2⟩)
        go_ret
        exact ⟨rfl, hr.out.bel.trans (hb2.mono hr.out.bel.size)⟩
end Go.Proofs.Ytnckfgihbimacaa.LM

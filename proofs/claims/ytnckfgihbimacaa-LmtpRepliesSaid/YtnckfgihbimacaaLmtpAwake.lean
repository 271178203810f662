/- The fixed answer of the statements of layer 18 is true. Condition: the cell of the library's MaxLen holds some int. -/
import Derived.Test.YtnckfgihbimacaaLmtpLine
namespace Go.Proofs.Ytnckfgihbimacaa.LM
open Go.RowKit Mailsack MM

theorem set7 {w : World} {g : Nat} {t : TypeId} {a0 a1 a2 a3 a4 a5 a6 : Value} (h : w.heap[g]? = some (.cells #[a0, a1, a2, a3, a4, a5, a6] t (0, 0))) (b0 b1 b2 b3 b4 b5 b6 : Value) : (((((((w.setCell ⟨g, 0, none⟩ (b0)).setCell ⟨g, 1, none⟩ (b1)).setCell ⟨g, 2, none⟩ (b2)).setCell ⟨g, 3, none⟩ (b3)).setCell ⟨g, 4, none⟩ (b4)).setCell ⟨g, 5, none⟩ (b5)).setCell ⟨g, 6, none⟩ (b6)).heap[g]? = some (.cells #[b0, b1, b2, b3, b4, b5, b6] t (0, 0)) := by
  have h0 := blk_set h 0 b0
  have h1 := blk_set h0 1 b1
  have h2 := blk_set h1 2 b2
  have h3 := blk_set h2 3 b3
  have h4 := blk_set h3 4 b4
  have h5 := blk_set h4 5 b5
  have h6 := blk_set h5 6 b6
  simpa using h6
theorem far7 {w : World} {g k : Nat} {o : Obj} (h : w.heap[k]? = some o) (hk : k ≠ g) (b0 b1 b2 b3 b4 b5 b6 : Value) : (((((((w.setCell ⟨g, 0, none⟩ (b0)).setCell ⟨g, 1, none⟩ (b1)).setCell ⟨g, 2, none⟩ (b2)).setCell ⟨g, 3, none⟩ (b3)).setCell ⟨g, 4, none⟩ (b4)).setCell ⟨g, 5, none⟩ (b5)).setCell ⟨g, 6, none⟩ (b6)).heap[k]? = some o :=
  blk_far (blk_far (blk_far (blk_far (blk_far (blk_far (blk_far h hk _) hk _) hk _) hk _) hk _) hk _) hk _
theorem below7 {B : Nat} {w0 w : World} {g : Nat} (h : Below B w0 w) (hg : B ≤ g) (b0 b1 b2 b3 b4 b5 b6 : Value) : Below B w0 (((((((w.setCell ⟨g, 0, none⟩ (b0)).setCell ⟨g, 1, none⟩ (b1)).setCell ⟨g, 2, none⟩ (b2)).setCell ⟨g, 3, none⟩ (b3)).setCell ⟨g, 4, none⟩ (b4)).setCell ⟨g, 5, none⟩ (b5)).setCell ⟨g, 6, none⟩ (b6)) :=
  ((((((h.setCell (p := ⟨g, 0, none⟩) hg b0).setCell (p := ⟨g, 1, none⟩) hg b1).setCell (p := ⟨g, 2, none⟩) hg b2).setCell (p := ⟨g, 3, none⟩) hg b3).setCell (p := ⟨g, 4, none⟩) hg b4).setCell (p := ⟨g, 5, none⟩) hg b5).setCell (p := ⟨g, 6, none⟩) hg b6

/-- a variable that holds a state, its list of recipients known -/
structure SAt (B : Nat) (s : LSt) (A : Option Addr) (c : Nat) (w : World) : Prop where
  blk : w.heap[B]? = some (.cells #[.bool s.hello, .bool s.hasFrom, .bool s.data, .bool s.long, strV s.frm, strV s.body, .slice A s.to.length c] 25 (0, 0))
  own : ∃ base, OwnS w base (.slice A s.to.length c) s.to
  ap : ∀ k, (Value.slice A s.to.length c).ownBlock = some k → k ≠ B
theorem SAt.new {w : World} {base : Nat} {s : LSt} {A : Option Addr} {c : Nat} (h : OwnS w base (.slice A s.to.length c) s.to) : SAt w.heap.size s A c (w.alloc (.cells #[.bool s.hello, .bool s.hasFrom, .bool s.data, .bool s.long, strV s.frm, strV s.body, .slice A s.to.length c] 25)) :=
  ⟨blk_new _ _, ⟨base, h.alloc _⟩, fun k hk => by have := (World.ownsRow.lt h k hk).2; omega⟩
theorem SAt.below {B : Nat} {w w' : World} {s : LSt} {A : Option Addr} {c : Nat} (h : SAt B s A c w) (hb : Below w.heap.size w w') : SAt B s A c w' := by
  obtain ⟨base, ho⟩ := h.own
  exact ⟨blk_below h.blk hb (blk_lt h.blk), ⟨base, ho.below hb⟩, h.ap⟩
theorem SAt.rd {B : Nat} {w : World} {s : LSt} {A : Option Addr} {c : Nat} (h : SAt B s A c w) : RdS w w.heap.size (.slice A s.to.length c) s.to := h.own.elim fun _ ho => ho.rd
theorem SAt.put {B base : Nat} {w : World} {s s' : LSt} {A A' : Option Addr} {c c' : Nat} (h : SAt B s A c w) (ho : OwnS w base (.slice A' s'.to.length c') s'.to) (hb : B < base) : SAt B s' A' c' (((((((w.setCell ⟨B, 0, none⟩ (.bool s'.hello)).setCell ⟨B, 1, none⟩ (.bool s'.hasFrom)).setCell ⟨B, 2, none⟩ (.bool s'.data)).setCell ⟨B, 3, none⟩ (.bool s'.long)).setCell ⟨B, 4, none⟩ (strV s'.frm)).setCell ⟨B, 5, none⟩ (strV s'.body)).setCell ⟨B, 6, none⟩ (.slice A' s'.to.length c')) :=
  ⟨set7 h.blk _ _ _ _ _ _ _, ⟨base, ((((((ho.set hb _).set hb _).set hb _).set hb _).set hb _).set hb _).set hb _⟩, fun k hk => by have := (World.ownsRow.lt ho k hk).1; omega⟩
theorem rds_one (w : World) (x : Bs) (t : TypeId) : RdS (w.alloc (.cells #[strV x] t)) (w.alloc (.cells #[strV x] t)).heap.size (.slice (some ⟨w.heap.size, 0, none⟩) 1 1) [x] := by
  refine ⟨_, 1, rfl, Nat.le_refl _, fun _ => ⟨w.heap.size, 0, rfl, by simp, fun j y hy => ?_⟩⟩
  match j, hy with
  | 0, hy => simp at hy; subst hy; simp
theorem rds_none (w : World) (B : Nat) : RdS w B (.slice none 0 0) [] := ⟨none, 0, rfl, Nat.le_refl _, fun h => absurd h (Nat.lt_irrefl _)⟩

theorem awake_0 : lineP ⟨false, false, false, false, [], [], []⟩ (⟨#[108, 104, 108, 111, 32, 120]⟩ : ByteArray).data.toList [] = (⟨true, false, false, false, [], [], []⟩, rHello) := by kernel_rfl
theorem awake_1 : lineP ⟨true, false, false, false, [], [], []⟩ (⟨#[77, 65, 73, 76, 32, 70, 82, 79, 77, 58, 60, 62]⟩ : ByteArray).data.toList [] = (⟨true, true, false, false, [], [], []⟩, rFine) := by kernel_rfl
theorem awake_2 : lineP ⟨true, true, false, false, [], [], []⟩ (⟨#[82, 67, 80, 84, 32, 84, 79, 58, 60, 97, 108, 64, 104, 101, 114, 101, 62]⟩ : ByteArray).data.toList [[97, 108]] = (⟨true, true, false, false, [], [], [[97, 108]]⟩, rFine) := by kernel_rfl
theorem awake_3 : lineP ⟨true, true, false, false, [], [], [[97, 108]]⟩ (⟨#[68, 65, 84, 65]⟩ : ByteArray).data.toList [] = (⟨true, true, true, false, [], [], [[97, 108]]⟩, rGoOn) := by kernel_rfl

set_option maxHeartbeats 2000000 in
theorem awake_any (m : Int) (w : World) (hm : w.cell? ⟨0, 0, none⟩ = some (.int .i64 m)) :
    Calls Try.prog 6 #[] w fun e w' => e = .returned (.bool true) ∧ Below w.heap.size w w' := by
  have hw0 : 0 < w.heap.size := World.block_lt_of_cell? w _ hm
  have Hm := Lib.hid hm
  clear hm
  go_enter Try.func6, Try.ntmps6
  go_wp2_with fail
  refine (line_any ⟨false, false, false, false, [], [], []⟩ (.slice none 0 0) ⟨#[108, 104, 108, 111, 32, 120]⟩ (.slice none 0 0) [] m _ (rds_none _ _) (rds_none _ _) Hm.out (by decide) (by decide) (by decide) (by decide)).mono ?_
  rw [awake_0]
  rintro e w1 ⟨tv, rfl, ho, hb1⟩
  obtain ⟨A1, c1, e1, _⟩ := ho.form
  subst e1
  have hS := Lib.hid (SAt.new (s := ⟨true, false, false, false, [], [], []⟩) ho)
  have hB := hb1.alloc hb1.size (.cells #[.bool true, .bool false, .bool false, .bool false, strV [], strV [], .slice A1 0 c1] 25)
  have hBw : w.heap.size ≤ w1.heap.size := hb1.size
  clear ho hb1
  go_upto_region 2 with fail
  generalize w1.alloc (.cells #[.bool true, .bool false, .bool false, .bool false, strV [], strV [], .slice A1 0 c1] 25) = w2 at hS hB ⊢
  generalize w1.heap.size = B at hS hBw ⊢
  clear w1
  have kf : ∀ i, w2.frozen? ⟨B, i, none⟩ = false := fun i => free_blk hS.out.blk i
  have k0 : w2.cell? ⟨B, 0, none⟩ = some (.bool true) := cell_blk hS.out.blk 0
  have k1 : w2.cell? ⟨B, 1, none⟩ = some (.bool false) := cell_blk hS.out.blk 1
  have k2 : w2.cell? ⟨B, 2, none⟩ = some (.bool false) := cell_blk hS.out.blk 2
  have k3 : w2.cell? ⟨B, 3, none⟩ = some (.bool false) := cell_blk hS.out.blk 3
  have k4 : w2.cell? ⟨B, 4, none⟩ = some (strV []) := cell_blk hS.out.blk 4
  have k5 : w2.cell? ⟨B, 5, none⟩ = some (strV []) := cell_blk hS.out.blk 5
  have k6 : w2.cell? ⟨B, 6, none⟩ = some (.slice A1 0 c1) := cell_blk hS.out.blk 6
  have hBs := blk_lt hS.out.blk
  have hmx : w2.cell? ⟨0, 0, none⟩ = some (.int .i64 m) := (hB.cell hw0).trans Hm.out
  go_wp2_with fail
  refine (line_any ⟨true, false, false, false, [], [], []⟩ (.slice A1 0 c1) ⟨#[77, 65, 73, 76, 32, 70, 82, 79, 77, 58, 60, 62]⟩ (.slice none 0 0) [] m _ hS.out.rd (rds_none _ _) hmx (by decide) (by decide) (by decide) (by decide)).mono ?_
  rw [awake_1]
  rintro e w3 ⟨tv, rfl, ho, hb1⟩
  obtain ⟨A2, c2, e1, _⟩ := ho.form
  subst e1
  have hS := Lib.hid (hS.out.below hb1)
  have hS2 := Lib.hid (SAt.put (s' := ⟨true, true, false, false, [], [], []⟩) hS.out ho hBs)
  have hB := hB.trans (hb1.mono hB.size)
  have hB2 := below7 hB hBw (.bool true) (.bool true) (.bool false) (.bool false) (strV []) (strV []) (.slice A2 0 c2)
  clear ho hb1 hmx k0 k1 k2 k3 k4 k5 k6 kf hBs
  have kf : ∀ i, w3.frozen? ⟨B, i, none⟩ = false := fun i => free_blk hS.out.blk i
  have k0 : w3.cell? ⟨B, 0, none⟩ = some (.bool true) := cell_blk hS.out.blk 0
  have k1 : w3.cell? ⟨B, 1, none⟩ = some (.bool false) := cell_blk hS.out.blk 1
  have k2 : w3.cell? ⟨B, 2, none⟩ = some (.bool false) := cell_blk hS.out.blk 2
  have k3 : w3.cell? ⟨B, 3, none⟩ = some (.bool false) := cell_blk hS.out.blk 3
  have k4 : w3.cell? ⟨B, 4, none⟩ = some (strV []) := cell_blk hS.out.blk 4
  have k5 : w3.cell? ⟨B, 5, none⟩ = some (strV []) := cell_blk hS.out.blk 5
  have k6 : w3.cell? ⟨B, 6, none⟩ = some (.slice A1 0 c1) := cell_blk hS.out.blk 6
  go_upto_region 3 with fail
  clear k0 k1 k2 k3 k4 k5 k6 kf hS hB
  have hS := hS2
  have hB := hB2
  clear hS2 hB2
  generalize (((((((w3.setCell ⟨B, 0, none⟩ (.bool true)).setCell ⟨B, 1, none⟩ (.bool true)).setCell ⟨B, 2, none⟩ (.bool false)).setCell ⟨B, 3, none⟩ (.bool false)).setCell ⟨B, 4, none⟩ (strV [])).setCell ⟨B, 5, none⟩ (strV [])).setCell ⟨B, 6, none⟩ (.slice A2 0 c2)) = w4 at hS hB ⊢
  have kf : ∀ i, w4.frozen? ⟨B, i, none⟩ = false := fun i => free_blk hS.out.blk i
  have k0 : w4.cell? ⟨B, 0, none⟩ = some (.bool true) := cell_blk hS.out.blk 0
  have k1 : w4.cell? ⟨B, 1, none⟩ = some (.bool true) := cell_blk hS.out.blk 1
  have k2 : w4.cell? ⟨B, 2, none⟩ = some (.bool false) := cell_blk hS.out.blk 2
  have k3 : w4.cell? ⟨B, 3, none⟩ = some (.bool false) := cell_blk hS.out.blk 3
  have k4 : w4.cell? ⟨B, 4, none⟩ = some (strV []) := cell_blk hS.out.blk 4
  have k5 : w4.cell? ⟨B, 5, none⟩ = some (strV []) := cell_blk hS.out.blk 5
  have k6 : w4.cell? ⟨B, 6, none⟩ = some (.slice A2 0 c2) := cell_blk hS.out.blk 6
  have hBs := blk_lt hS.out.blk
  have hmx : w4.cell? ⟨0, 0, none⟩ = some (.int .i64 m) := (hB.cell hw0).trans Hm.out
  go_wp2_with fail
  have hS := Lib.hid (hS.out.below ((Below.refl _ _).alloc (Nat.le_refl _) (.cells #[strV [97, 108]] 9)))
  have hB := hB.alloc hB.size (.cells #[strV [97, 108]] 9)
  have hmx : (w4.alloc (.cells #[strV [97, 108]] 9)).cell? ⟨0, 0, none⟩ = some (.int .i64 m) := (hB.cell hw0).trans Hm.out
  have hBs := blk_lt hS.out.blk
  refine (line_any ⟨true, true, false, false, [], [], []⟩ (.slice A2 0 c2) ⟨#[82, 67, 80, 84, 32, 84, 79, 58, 60, 97, 108, 64, 104, 101, 114, 101, 62]⟩ (.slice (some ⟨w4.heap.size, 0, none⟩) 1 1) [[97, 108]] m _ hS.out.rd (rds_one _ _ _) hmx (by decide) (by decide) (by decide) (by decide)).mono ?_
  rw [awake_2]
  rintro e w5 ⟨tv, rfl, ho, hb1⟩
  obtain ⟨A3, c3, e1, _⟩ := ho.form
  subst e1
  have hS := Lib.hid (hS.out.below hb1)
  have hS2 := Lib.hid (SAt.put (s' := ⟨true, true, false, false, [], [], [[97, 108]]⟩) hS.out ho hBs)
  have hB := hB.trans (hb1.mono hB.size)
  have hB2 := below7 hB hBw (.bool true) (.bool true) (.bool false) (.bool false) (strV []) (strV []) (.slice A3 1 c3)
  clear ho hb1 hmx k0 k1 k2 k3 k4 k5 k6 kf hBs
  have kf : ∀ i, w5.frozen? ⟨B, i, none⟩ = false := fun i => free_blk hS.out.blk i
  have k0 : w5.cell? ⟨B, 0, none⟩ = some (.bool true) := cell_blk hS.out.blk 0
  have k1 : w5.cell? ⟨B, 1, none⟩ = some (.bool true) := cell_blk hS.out.blk 1
  have k2 : w5.cell? ⟨B, 2, none⟩ = some (.bool false) := cell_blk hS.out.blk 2
  have k3 : w5.cell? ⟨B, 3, none⟩ = some (.bool false) := cell_blk hS.out.blk 3
  have k4 : w5.cell? ⟨B, 4, none⟩ = some (strV []) := cell_blk hS.out.blk 4
  have k5 : w5.cell? ⟨B, 5, none⟩ = some (strV []) := cell_blk hS.out.blk 5
  have k6 : w5.cell? ⟨B, 6, none⟩ = some (.slice A2 0 c2) := cell_blk hS.out.blk 6
  go_upto_region 4 with fail
  clear k0 k1 k2 k3 k4 k5 k6 kf hS hB
  have hS := hS2
  have hB := hB2
  clear hS2 hB2
  generalize (((((((w5.setCell ⟨B, 0, none⟩ (.bool true)).setCell ⟨B, 1, none⟩ (.bool true)).setCell ⟨B, 2, none⟩ (.bool false)).setCell ⟨B, 3, none⟩ (.bool false)).setCell ⟨B, 4, none⟩ (strV [])).setCell ⟨B, 5, none⟩ (strV [])).setCell ⟨B, 6, none⟩ (.slice A3 1 c3)) = w6 at hS hB ⊢
  have kf : ∀ i, w6.frozen? ⟨B, i, none⟩ = false := fun i => free_blk hS.out.blk i
  have k0 : w6.cell? ⟨B, 0, none⟩ = some (.bool true) := cell_blk hS.out.blk 0
  have k1 : w6.cell? ⟨B, 1, none⟩ = some (.bool true) := cell_blk hS.out.blk 1
  have k2 : w6.cell? ⟨B, 2, none⟩ = some (.bool false) := cell_blk hS.out.blk 2
  have k3 : w6.cell? ⟨B, 3, none⟩ = some (.bool false) := cell_blk hS.out.blk 3
  have k4 : w6.cell? ⟨B, 4, none⟩ = some (strV []) := cell_blk hS.out.blk 4
  have k5 : w6.cell? ⟨B, 5, none⟩ = some (strV []) := cell_blk hS.out.blk 5
  have k6 : w6.cell? ⟨B, 6, none⟩ = some (.slice A3 1 c3) := cell_blk hS.out.blk 6
  have hBs := blk_lt hS.out.blk
  have hmx : w6.cell? ⟨0, 0, none⟩ = some (.int .i64 m) := (hB.cell hw0).trans Hm.out
  go_wp2_with fail
  refine (line_any ⟨true, true, false, false, [], [], [[97, 108]]⟩ (.slice A3 1 c3) ⟨#[68, 65, 84, 65]⟩ (.slice none 0 0) [] m _ hS.out.rd (rds_none _ _) hmx (by decide) (by decide) (by decide) (by decide)).mono ?_
  rw [awake_3]
  rintro e w7 ⟨tv, rfl, ho, hb1⟩
  obtain ⟨A4, c4, e1, _⟩ := ho.form
  subst e1
  have hS := Lib.hid (hS.out.below hb1)
  have hS2 := Lib.hid (SAt.put (s' := ⟨true, true, true, false, [], [], [[97, 108]]⟩) hS.out ho hBs)
  have hB := hB.trans (hb1.mono hB.size)
  have hB2 := below7 hB hBw (.bool true) (.bool true) (.bool true) (.bool false) (strV []) (strV []) (.slice A4 1 c4)
  clear ho hb1 hmx k0 k1 k2 k3 k4 k5 k6 kf hBs
  have kf : ∀ i, w7.frozen? ⟨B, i, none⟩ = false := fun i => free_blk hS.out.blk i
  have k0 : w7.cell? ⟨B, 0, none⟩ = some (.bool true) := cell_blk hS.out.blk 0
  have k1 : w7.cell? ⟨B, 1, none⟩ = some (.bool true) := cell_blk hS.out.blk 1
  have k2 : w7.cell? ⟨B, 2, none⟩ = some (.bool false) := cell_blk hS.out.blk 2
  have k3 : w7.cell? ⟨B, 3, none⟩ = some (.bool false) := cell_blk hS.out.blk 3
  have k4 : w7.cell? ⟨B, 4, none⟩ = some (strV []) := cell_blk hS.out.blk 4
  have k5 : w7.cell? ⟨B, 5, none⟩ = some (strV []) := cell_blk hS.out.blk 5
  have k6 : w7.cell? ⟨B, 6, none⟩ = some (.slice A3 1 c3) := cell_blk hS.out.blk 6
  go_upto_region 5 with fail
  clear k0 k1 k2 k3 k4 k5 k6 kf hS hB
  have hS := hS2
  have hB := hB2
  clear hS2 hB2
  generalize (((((((w7.setCell ⟨B, 0, none⟩ (.bool true)).setCell ⟨B, 1, none⟩ (.bool true)).setCell ⟨B, 2, none⟩ (.bool true)).setCell ⟨B, 3, none⟩ (.bool false)).setCell ⟨B, 4, none⟩ (strV [])).setCell ⟨B, 5, none⟩ (strV [])).setCell ⟨B, 6, none⟩ (.slice A4 1 c4)) = w8 at hS hB ⊢
  have kf : ∀ i, w8.frozen? ⟨B, i, none⟩ = false := fun i => free_blk hS.out.blk i
  have k0 : w8.cell? ⟨B, 0, none⟩ = some (.bool true) := cell_blk hS.out.blk 0
  have k1 : w8.cell? ⟨B, 1, none⟩ = some (.bool true) := cell_blk hS.out.blk 1
  have k2 : w8.cell? ⟨B, 2, none⟩ = some (.bool true) := cell_blk hS.out.blk 2
  have k3 : w8.cell? ⟨B, 3, none⟩ = some (.bool false) := cell_blk hS.out.blk 3
  have k4 : w8.cell? ⟨B, 4, none⟩ = some (strV []) := cell_blk hS.out.blk 4
  have k5 : w8.cell? ⟨B, 5, none⟩ = some (strV []) := cell_blk hS.out.blk 5
  have k6 : w8.cell? ⟨B, 6, none⟩ = some (.slice A4 1 c4) := cell_blk hS.out.blk 6
  go_wp2_with fail
  refine (ended_any ⟨true, true, true, false, [], [], [[97, 108]]⟩ A4 1 c4 ⟨#[46]⟩ _).mono ?_
  rintro e w9 ⟨rfl, hb9⟩
  rw [show endedP ⟨true, true, true, false, [], [], [[97, 108]]⟩ (⟨#[46]⟩ : ByteArray).data.toList = true from rfl]
  go_wp2
  go_ret
  exact ⟨rfl, hB.trans (hb9.mono hB.size)⟩
end Go.Proofs.Ytnckfgihbimacaa.LM

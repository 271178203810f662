/- What law 22's equal returns of two states that are the same. Conditions: the state's index reads as plain data. -/
import Derived.Test.YtiapdhllphcnnaaGreatDoorIndexPut2
namespace Go.Proofs.YtiapdhllphcnnaaGreatDoor.IX
open Go.RowKit Mailsack MM BU VB

set_option maxHeartbeats 8000000 in
set_option maxRecDepth 100000 in
theorem equal_same (a b c bx : ByteArray) (ep : Int) (bv sv : Value) (x : IndexP) (o1 o2 : Bool) (w : World) (h : RdIx w w.heap.size bv sv x) (hm : ∀ b ∈ x.boxes, b.mails.length ≤ 9223372036854775807) (hl : x.boxes.length ≤ 9223372036854775807) (hl2 : x.subs.length ≤ 9223372036854775807) :
    Calls Tryz.prog 13 #[.agg #[.string a, .string b, .string c, .int .i64 ep, bv, sv, .int .i64 x.given, .string bx, .bool o1, .bool o2], .agg #[.string a, .string b, .string c, .int .i64 ep, bv, sv, .int .i64 x.given, .string bx, .bool o1, .bool o2]] w fun e w' => e = .returned (.bool true) ∧ Below w.heap.size w w' := by
  have HP : Hid (∀ W, Below w.heap.size w W → Calls Tryz.prog 21 #[.agg #[bv, sv, .int .i64 x.given]] W fun e w' => e = .returned (.tuple #[strV (putT x), .int .i64 (putE x)]) ∧ Below W.heap.size W w') :=
    Lib.hid (fun W hb => put_any bv sv x W ((h.below hb (Nat.le_refl _)).more hb.size) hm hl hl2)
  have hb1 : bv.oneCell' = true := by obtain ⟨A, c, rfl, _⟩ := h.boxes; rfl
  have hb2 : sv.oneCell' = true := by obtain ⟨A, c, rfl, _⟩ := h.subs; rfl
  clear h hm hl hl2
  obtain ⟨T, hT⟩ : ∃ T : ByteArray, (⟨(putT x).toArray⟩ : ByteArray) = T := ⟨_, rfl⟩
  rw [show strV (putT x) = .string T by rw [← hT]] at HP
  clear hT
  generalize putE x = E at HP
  have HW := Lib.hid (bel_alloc (bel_alloc (Below.refl w.heap.size w) (Nat.le_refl _) (.cells #[.string a, .string b, .string c, .int .i64 ep, bv, sv, .int .i64 x.given, .string bx, .bool o1, .bool o2] 34)) (Nat.le_refl _) (.cells #[.string a, .string b, .string c, .int .i64 ep, bv, sv, .int .i64 x.given, .string bx, .bool o1, .bool o2] 34))
  have P1 := Lib.hid (two_old w (.cells #[.string a, .string b, .string c, .int .i64 ep, bv, sv, .int .i64 x.given, .string bx, .bool o1, .bool o2] 34) (.cells #[.string a, .string b, .string c, .int .i64 ep, bv, sv, .int .i64 x.given, .string bx, .bool o1, .bool o2] 34))
  have P2 := Lib.hid (two_new w (.cells #[.string a, .string b, .string c, .int .i64 ep, bv, sv, .int .i64 x.given, .string bx, .bool o1, .bool o2] 34) (.cells #[.string a, .string b, .string c, .int .i64 ep, bv, sv, .int .i64 x.given, .string bx, .bool o1, .bool o2] 34))
  go_enter Tryz.func13, Tryz.ntmps13
  go_wp2_with fail
  refine (HP.out _ HW.out).mono ?_
  rintro e w2 ⟨rfl, hb⟩
  have q1 := blk_below P1.out hb (by simp; omega)
  have q2 := blk_below P2.out hb (by simp)
  have HB2 := Lib.hid (HW.out.trans (hb.mono HW.out.size))
  have y4 : w2.cell? ⟨w.heap.size + 1, 4, none⟩ = some (bv) := cell_blk q2 4
  have y5 : w2.cell? ⟨w.heap.size + 1, 5, none⟩ = some (sv) := cell_blk q2 5
  have y6 : w2.cell? ⟨w.heap.size + 1, 6, none⟩ = some (.int .i64 x.given) := cell_blk q2 6
  have Q1 := Lib.hid q1
  have Q2 := Lib.hid q2
  clear hb q1 q2
  go_wp2_with fail
  refine (HP.out _ HB2.out).mono ?_
  rintro e w3 ⟨rfl, hb⟩
  have hsz := blk_lt Q2.out
  have q1 := blk_below Q1.out hb (by omega)
  have q2 := blk_below Q2.out hb hsz
  have HB3 := Lib.hid (HB2.out.trans (hb.mono HB2.out.size))
  have z0 : w3.cell? ⟨w.heap.size, 0, none⟩ = some (.string a) := cell_blk q1 0
  have z1 : w3.cell? ⟨w.heap.size, 1, none⟩ = some (.string b) := cell_blk q1 1
  have z2 : w3.cell? ⟨w.heap.size, 2, none⟩ = some (.string c) := cell_blk q1 2
  have z3 : w3.cell? ⟨w.heap.size, 3, none⟩ = some (.int .i64 ep) := cell_blk q1 3
  have z7 : w3.cell? ⟨w.heap.size, 7, none⟩ = some (.string bx) := cell_blk q1 7
  have z8 : w3.cell? ⟨w.heap.size, 8, none⟩ = some (.bool o1) := cell_blk q1 8
  have z9 : w3.cell? ⟨w.heap.size, 9, none⟩ = some (.bool o2) := cell_blk q1 9
  have v0 : w3.cell? ⟨w.heap.size + 1, 0, none⟩ = some (.string a) := cell_blk q2 0
  have v1 : w3.cell? ⟨w.heap.size + 1, 1, none⟩ = some (.string b) := cell_blk q2 1
  have v2 : w3.cell? ⟨w.heap.size + 1, 2, none⟩ = some (.string c) := cell_blk q2 2
  have v3 : w3.cell? ⟨w.heap.size + 1, 3, none⟩ = some (.int .i64 ep) := cell_blk q2 3
  have v7 : w3.cell? ⟨w.heap.size + 1, 7, none⟩ = some (.string bx) := cell_blk q2 7
  have v8 : w3.cell? ⟨w.heap.size + 1, 8, none⟩ = some (.bool o1) := cell_blk q2 8
  have v9 : w3.cell? ⟨w.heap.size + 1, 9, none⟩ = some (.bool o2) := cell_blk q2 9
  clear hb q1 q2 y4 y5 y6
  go_wp2_with fail
  go_ret
  exact ⟨rfl, HB3.out⟩
end Go.Proofs.YtiapdhllphcnnaaGreatDoor.IX

/- What sha.ending returns. Conditions: a rest of less than 64 bytes; a count of 64 bits. -/
import Derived.Test.YtomnljigoljldaaGreatDoorByteBlk
import Derived.Test.YtomnljigoljldaaGreatDoorRegL
import Derived.WalkKit
import Derived.WalkLawsBesides
import Derived.WalkSpells
import Derived.Lib.Hide
import Derived.Deep.Cut
namespace Mailsack
def endN (r : Bs) : Nat := if 64 < r.length + 9 then 128 else 64
def endA (r : Bs) : Bs := (r ++ (zerosB (endN r)).drop r.length).set r.length (oct 128)
def endI (r : Bs) (count : Int) : Nat → Bs
  | 0 => endA r
  | k + 1 => (endI r count k).set (endN r - 1 - k) (oct (count / 2 ^ (8 * k)))
def endP (r : Bs) (count : Int) : Bs := endI r count 8
theorem endN_le (r : Bs) (h : r.length < 64) : r.length < endN r := by unfold endN; split <;> omega
theorem endI_len (r : Bs) (count : Int) (h : r.length < 64) : ∀ k, (endI r count k).length = endN r
  | 0 => by have := endN_le r h; simp [endI, endA, zerosB_len]; omega
  | k + 1 => by simp [endI, endI_len r count h k]
end Mailsack
namespace Go.Proofs.YtomnljigoljldaaGreatDoor.SH
open Go.RowKit Mailsack MM BB

set_option maxHeartbeats 4000000 in
set_option maxRecDepth 100000 in
theorem ending_any (b : ByteArray) (count : Int) (w : World) (hb : b.size < 64) :
    Calls Tryz.prog 274 #[.string b, .int .u64 count] w fun e w' => e = .returned (.string ⟨(endP b.data.toList count).toArray⟩) ∧ Below w.heap.size w w' := by
  have hbl : b.data.toList.length = b.size := by simp
  have HL := Lib.hid (fun k => endI_len b.data.toList count (by omega) k)
  by_cases hn : 64 < b.size + 9
  · have HN : Hid (endN b.data.toList = 128) := Lib.hid (by unfold endN; rw [if_pos (by omega)])
    have hmk : ∀ W : World, (Instr.makeSlice 88 (.int .i64 128) (.int .i64 128)).run Tryz.prog W = .ok (.slice (some ⟨W.heap.size, 0, none⟩) 128 128) (W.alloc (.cells (encB (zerosB 128)) 5)) := fun W => made W 128 128 (by decide) (by decide)
    have HB0 : Hid (HasB (w.alloc (.cells (encB (zerosB 128)) 5)) w.heap.size (zerosB 128)) := Lib.hid (blk_new _ _)
    have HW0 := Lib.hid ((Below.refl w.heap.size w).alloc (Nat.le_refl _) (.cells (encB (zerosB 128)) 5))
    go_enter Tryz.func274, Tryz.ntmps274
    go_upto_region 5 with fail
    refine wp_region_lit ?_
    iterate 6 go_step
    refine Lib.wpList_copy_run _ rfl _ _ _ _ rfl _ _ rfl rfl (copied HB0.out _ _ _ _ (by omega) (by rw [zerosB_len]; omega)) ?_
    have HB1 := Lib.hid (HB0.out.row (b.data.toList ++ (zerosB 128).drop b.size))
    have HW1 := Lib.hid (below_setRow HW0.out (Nat.le_refl _) (encB (b.data.toList ++ (zerosB 128).drop b.size)))
    clear hmk HB0 HW0
    generalize (w.alloc (.cells (encB (zerosB 128)) 5)).setRow w.heap.size (encB (b.data.toList ++ (zerosB 128).drop b.size)) = w1 at HB1 HW1 ⊢
    have q0 := HB1.out.cell (i := b.size) (by simp [zerosB_len]; omega)
    have q1 := HB1.out.free b.size
    have HB2 : Hid (HasB (w1.setCell ⟨w.heap.size, b.size, none⟩ (.int .u8 128)) w.heap.size (endI b.data.toList count 0)) := Lib.hid (by
      have h := HB1.out.put b.size 128
      unfold endI endA
      rw [HN.out, hbl]
      exact h)
    have HW2 := Lib.hid (HW1.out.setCell (p := ⟨w.heap.size, b.size, none⟩) (Nat.le_refl _) (.int .u8 128))
    clear HB1 HW1
    go_wp2_with fail
    clear q0 q1
    go_loopw [21] (fun iv wr => ∃ k : Nat, k ≤ 8 ∧ iv = .int .i64 k ∧ Hid (HasB wr w.heap.size (endI b.data.toList count k) ∧ Below w.heap.size w wr)) (fun iv _ => 8 - (intOf iv).toNat)
    case atStart => exact ⟨0, by decide, rfl, Lib.hid ⟨HB2.out, HW2.out⟩⟩
    case round =>
      obtain ⟨k, hk, rfl, hr⟩ := hrel
      clear HB2 HW2
      by_cases hlt : k < 8
      · have q0 := hr.out.1.cell (i := 127 - k) (by rw [HL.out k, HN.out]; omega)
        have q1 := hr.out.1.free (127 - k)
        have HK : Hid (HasB (wr.setCell ⟨w.heap.size, 127 - k, none⟩ (.int .u8 (count / 2 ^ (8 * k) % 256))) w.heap.size (endI b.data.toList count (k + 1))) := Lib.hid (by
          have h := hr.out.1.put (127 - k) (count / 2 ^ (8 * k))
          unfold endI
          rw [HN.out]
          exact h)
        have HKW := Lib.hid (hr.out.2.setCell (p := ⟨w.heap.size, 127 - k, none⟩) (Nat.le_refl _) (.int .u8 (count / 2 ^ (8 * k) % 256)))
        clear hr
        go_wp2
        exact ⟨⟨k + 1, by omega, by go_num, Lib.hid ⟨HK.out, HKW.out⟩⟩, by simp [intOf]; omega⟩
      · obtain rfl : k = 8 := by omega
        have ht := text_of hr.out.1 128 128 (by rw [HL.out 8, HN.out]; exact Nat.le_refl _)
        rw [List.take_of_length_le (by rw [HL.out 8, HN.out]; exact Nat.le_refl _)] at ht
        have HBW := Lib.hid hr.out.2
        clear hr
        go_wp2
        go_ret
        exact ⟨rfl, HBW.out⟩
  · have HN : Hid (endN b.data.toList = 64) := Lib.hid (by unfold endN; rw [if_neg (by omega)])
    have hmk : ∀ W : World, (Instr.makeSlice 88 (.int .i64 64) (.int .i64 64)).run Tryz.prog W = .ok (.slice (some ⟨W.heap.size, 0, none⟩) 64 64) (W.alloc (.cells (encB (zerosB 64)) 5)) := fun W => made W 64 64 (by decide) (by decide)
    have HB0 : Hid (HasB (w.alloc (.cells (encB (zerosB 64)) 5)) w.heap.size (zerosB 64)) := Lib.hid (blk_new _ _)
    have HW0 := Lib.hid ((Below.refl w.heap.size w).alloc (Nat.le_refl _) (.cells (encB (zerosB 64)) 5))
    go_enter Tryz.func274, Tryz.ntmps274
    go_upto_region 5 with fail
    refine wp_region_lit ?_
    iterate 6 go_step
    refine Lib.wpList_copy_run _ rfl _ _ _ _ rfl _ _ rfl rfl (copied HB0.out _ _ _ _ (by omega) (by rw [zerosB_len]; omega)) ?_
    have HB1 := Lib.hid (HB0.out.row (b.data.toList ++ (zerosB 64).drop b.size))
    have HW1 := Lib.hid (below_setRow HW0.out (Nat.le_refl _) (encB (b.data.toList ++ (zerosB 64).drop b.size)))
    clear hmk HB0 HW0
    generalize (w.alloc (.cells (encB (zerosB 64)) 5)).setRow w.heap.size (encB (b.data.toList ++ (zerosB 64).drop b.size)) = w1 at HB1 HW1 ⊢
    have q0 := HB1.out.cell (i := b.size) (by simp [zerosB_len]; omega)
    have q1 := HB1.out.free b.size
    have HB2 : Hid (HasB (w1.setCell ⟨w.heap.size, b.size, none⟩ (.int .u8 128)) w.heap.size (endI b.data.toList count 0)) := Lib.hid (by
      have h := HB1.out.put b.size 128
      unfold endI endA
      rw [HN.out, hbl]
      exact h)
    have HW2 := Lib.hid (HW1.out.setCell (p := ⟨w.heap.size, b.size, none⟩) (Nat.le_refl _) (.int .u8 128))
    clear HB1 HW1
    go_wp2_with fail
    clear q0 q1
    go_loopw [21] (fun iv wr => ∃ k : Nat, k ≤ 8 ∧ iv = .int .i64 k ∧ Hid (HasB wr w.heap.size (endI b.data.toList count k) ∧ Below w.heap.size w wr)) (fun iv _ => 8 - (intOf iv).toNat)
    case atStart => exact ⟨0, by decide, rfl, Lib.hid ⟨HB2.out, HW2.out⟩⟩
    case round =>
      obtain ⟨k, hk, rfl, hr⟩ := hrel
      clear HB2 HW2
      by_cases hlt : k < 8
      · have q0 := hr.out.1.cell (i := 63 - k) (by rw [HL.out k, HN.out]; omega)
        have q1 := hr.out.1.free (63 - k)
        have HK : Hid (HasB (wr.setCell ⟨w.heap.size, 63 - k, none⟩ (.int .u8 (count / 2 ^ (8 * k) % 256))) w.heap.size (endI b.data.toList count (k + 1))) := Lib.hid (by
          have h := hr.out.1.put (63 - k) (count / 2 ^ (8 * k))
          unfold endI
          rw [HN.out]
          exact h)
        have HKW := Lib.hid (hr.out.2.setCell (p := ⟨w.heap.size, 63 - k, none⟩) (Nat.le_refl _) (.int .u8 (count / 2 ^ (8 * k) % 256)))
        clear hr
        go_wp2
        exact ⟨⟨k + 1, by omega, by go_num, Lib.hid ⟨HK.out, HKW.out⟩⟩, by simp [intOf]; omega⟩
      · obtain rfl : k = 8 := by omega
        have ht := text_of hr.out.1 64 64 (by rw [HL.out 8, HN.out]; exact Nat.le_refl _)
        rw [List.take_of_length_le (by rw [HL.out 8, HN.out]; exact Nat.le_refl _)] at ht
        have HBW := Lib.hid hr.out.2
        clear hr
        go_wp2
        go_ret
        exact ⟨rfl, HBW.out⟩
end Go.Proofs.YtomnljigoljldaaGreatDoor.SH

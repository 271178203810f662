/- The fixed answer of layer 19's statements is true. Condition: the cell of the library's MaxLen holds some int. -/
import Derived.Test.YtgdhddkhnpcdmaaDoorPartGet
namespace Go.Proofs.YtgdhddkhnpcdmaaDoor.PT
open Go.RowKit Mailsack MM

def aText : ByteArray := ⟨#[65, 58, 32, 120, 13, 10, 13, 10, 116, 101, 120, 116]⟩
def aHead : Bs := [65, 58, 32, 120, 13, 10, 13, 10]
theorem aw_n : splitN aText.data.toList = 8 := by decide +kernel
theorem aw_f : fieldP (fieldsP (linesP aHead)) [97] = ([120], true) := by decide +kernel
theorem aw_l : cc aHead = 2 := by decide +kernel
theorem aw_h : hasP [84, 101, 120, 116] [101, 88] = true := by decide +kernel

set_option maxHeartbeats 1000000 in
theorem awake_any (m : Int) (w : World) (hm : w.cell? ⟨0, 0, none⟩ = some (.int .i64 m)) :
    Calls Tryd.prog 8 #[] w fun e w' => e = .returned (.bool true) ∧ Below w.heap.size w w' := by
  have hw0 : 0 < w.heap.size := World.block_lt_of_cell? w _ hm
  have Hm := Lib.hid hm
  clear hm
  have E1 := split_any aText m
  rw [aw_n] at E1
  rw [show aText.data.toList.take 8 = aHead from rfl, show aText.data.toList.drop 8 = [116, 101, 120, 116] from rfl] at E1
  have E2 := field_any ⟨aHead.toArray⟩ ⟨#[97]⟩ m
  rw [show (⟨aHead.toArray⟩ : ByteArray).data.toList = aHead from rfl, show (⟨#[97]⟩ : ByteArray).data.toList = [97] from rfl, aw_f] at E2
  have E3 := lines_any ⟨aHead.toArray⟩ m
  rw [show (⟨aHead.toArray⟩ : ByteArray).data.toList = aHead from rfl, aw_l] at E3
  have E4 := has_any ⟨#[84, 101, 120, 116]⟩ ⟨#[101, 88]⟩ m
  rw [show (⟨#[84, 101, 120, 116]⟩ : ByteArray).data.toList = [84, 101, 120, 116] from rfl, show (⟨#[101, 88]⟩ : ByteArray).data.toList = [101, 88] from rfl, aw_h] at E4
  have F1 := Lib.hid E1
  have F2 := Lib.hid E2
  have F3 := Lib.hid E3
  have F4 := Lib.hid E4
  clear E1 E2 E3 E4
  go_enter Tryd.func8, Tryd.ntmps8
  go_wp2_with fail
  refine (F1.out _ (by decide) Hm.out).mono ?_
  rintro e w1 ⟨rfl, hb1⟩
  go_wp2_with fail
  refine (F2.out _ (by decide) (by decide) ((hb1.cell hw0).trans Hm.out)).mono ?_
  rintro e w2 ⟨rfl, hb2⟩
  have hb := hb1.trans (hb2.mono hb1.size)
  have HB := Lib.hid hb
  clear hb1 hb2 hb
  go_wp2_with fail
  refine (F3.out _ (by decide) ((HB.out.cell hw0).trans Hm.out)).mono ?_
  rintro e w3 ⟨rfl, hw3⟩
  subst hw3
  go_wp2_with fail
  refine (F4.out _ (by decide) (by decide) ((HB.out.cell hw0).trans Hm.out)).mono ?_
  rintro e w4 ⟨rfl, hb4⟩
  go_wp2
  go_ret
  exact ⟨rfl, HB.out.trans (hb4.mono HB.out.size)⟩
end Go.Proofs.YtgdhddkhnpcdmaaDoor.PT

/- The fixed answer of layer 20 is true. Conditions: that the cell of the library's MaxLen holds some int. -/
import Derived.Test.YtkgngahmpafdhaaGreatDoorQueryParseAny
namespace Go.Proofs.YtkgngahmpafdhaaGreatDoor.QU
open Go.RowKit Mailsack MM PT

theorem rds_blk {w : World} {g : Nat} {t : TypeId} {l : List Bs} (h : w.heap[g]? = some (.cells (l.map strV).toArray t (0, 0))) : RdS w w.heap.size (.slice (some ⟨g, 0, none⟩) l.length l.length) l :=
  ⟨_, _, rfl, Nat.le_refl _, fun _ => ⟨g, 0, rfl, blk_lt h, fun j r hr => by rw [Nat.zero_add, cell_blk h j]; simp [hr]⟩⟩
def awW : List Bs := [[110, 111, 116], wSEEN, wLARGER, [53]]
def awV : List Bs := [[119, 104, 97, 116]]
def awK : List QKey := [.not (.flags 1 0), .size true 5]
theorem aw_q : queryP awW = some awK := by kernel_rfl
theorem aw_n : queryP awV = none := by kernel_rfl
theorem aw_s : Short awW := ⟨by decide, by decide⟩
theorem aw_t : Short awV := ⟨by decide, by decide⟩
def awA : QV := ⟨0, 0, 0, 6, [], 0, 0⟩
def awB : QV := ⟨0, 0, 1, 6, [], 0, 0⟩
theorem aw_a : allQ awK awA = true := by kernel_rfl
theorem aw_b : allQ awK awB = false := by kernel_rfl
theorem aw_ga : GoodV awA := ⟨by decide, by decide, by decide⟩
theorem aw_gb : GoodV awB := ⟨by decide, by decide, by decide⟩

set_option maxHeartbeats 2000000 in
set_option maxRecDepth 100000 in
theorem awake_any (m : Int) (w : World) (hm : w.cell? ⟨0, 0, none⟩ = some (.int .i64 m)) :
    Calls Tryz.prog 5 #[] w fun e w' => e = .returned (.bool true) ∧ Below w.heap.size w w' := by
  have hb1 := (Below.refl w.heap.size w).alloc (Nat.le_refl _) (.cells (awW.map strV).toArray 9)
  have HP := Lib.hid (parse_any _ awW m _ (rds_blk (l := awW) (blk_new w (.cells (awW.map strV).toArray 9))) aw_s (max_at hm hb1))
  rw [aw_q] at HP
  have HB1 := Lib.hid hb1
  have Hm := Lib.hid hm
  clear hb1 hm
  go_enter Tryz.func5, Tryz.ntmps5
  go_wp2_with fail
  refine HP.out.mono ?_
  rintro e w2 ⟨hb2, v, kvs, rfl, hK⟩
  have HK := Lib.hid hK
  have hlen := hK.len
  obtain ⟨A, c, rfl, hc⟩ := hK.form
  rw [hlen, show awK.length = 2 from rfl] at hc HK ⊢
  have HB2 := Lib.hid (HB1.out.trans (hb2.mono HB1.out.size))
  clear hb2 hlen HP HB1 hK
  go_wp2_with fail
  have hbA := two_bel w2 (.cells #[.slice A 2 c] 29) (.cells (awV.map strV).toArray 9)
  have HP2 := Lib.hid (parse_any _ awV m _ (rds_blk (l := awV) (two_new w2 (.cells #[.slice A 2 c] 29) (.cells (awV.map strV).toArray 9))) aw_t (max_at Hm.out (HB2.out.trans (hbA.mono HB2.out.size))))
  rw [aw_n] at HP2
  have HA := Lib.hid hbA
  clear hbA
  refine HP2.out.mono ?_
  rintro e w4 ⟨hb4, rfl⟩
  have hb4' := (HA.out.trans (hb4.mono HA.out.size)).alloc (Nat.le_trans HA.out.size hb4.size) (.cells #[.slice none 0 0] 29)
  have HB4 := Lib.hid (HB2.out.trans (hb4'.mono HB2.out.size))
  have HK4 := Lib.hid (HK.out.below hb4')
  have B4 := Lib.hid (blk_alloc (blk_below (two_old w2 (.cells #[.slice A 2 c] 29) (.cells (awV.map strV).toArray 9)) hb4 (by simp; omega)) (.cells #[.slice none 0 0] 29))
  have q4 : (w4.alloc (.cells #[.slice none 0 0] 29)).cell? ⟨w2.heap.size, 0, none⟩ = some (.slice A 2 c) := cell_blk B4.out 0
  clear hb4 hb4' HP2 HA
  go_wp2_with fail
  refine (holds_any _ _ kvs awK awA _ aw_ga HK4.out (by decide)).mono ?_
  rw [aw_a]
  rintro e w5 ⟨rfl, hb5⟩
  have HB5 := Lib.hid (HB4.out.trans (hb5.mono HB4.out.size))
  have HK5 := Lib.hid (HK4.out.below hb5)
  have B5 := Lib.hid (blk_below B4.out hb5 (blk_lt B4.out))
  have q5 : w5.cell? ⟨w2.heap.size, 0, none⟩ = some (.slice A 2 c) := cell_blk B5.out 0
  clear hb5 q4
  go_wp2_with fail
  refine (holds_any _ _ kvs awK awB _ aw_gb HK5.out (by decide)).mono ?_
  rw [aw_b]
  rintro e w6 ⟨rfl, hb6⟩
  have HB6 := Lib.hid (HB5.out.trans (hb6.mono HB5.out.size))
  clear hb6 q5
  go_wp2
  go_ret
  exact ⟨rfl, HB6.out⟩
end Go.Proofs.YtkgngahmpafdhaaGreatDoor.QU

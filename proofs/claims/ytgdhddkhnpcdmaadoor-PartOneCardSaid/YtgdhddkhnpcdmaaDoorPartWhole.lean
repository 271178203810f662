/- The walk of the statement PartWhole: the answer is true. Conditions: the cell of the library's MaxLen holds some int; lengths. -/
import Derived.Test.YtgdhddkhnpcdmaaDoorPartLaws
namespace Go.Proofs.YtgdhddkhnpcdmaaDoor.PT
open Go.RowKit Mailsack MM

theorem occAt_left {a b sub : Bs} {j : Nat} (h : j + sub.length ≤ a.length) : Lib.occAt (a ++ b) sub j = Lib.occAt a sub j := by
  rw [Lib.occAt_iff_take _ _ _ (by rw [List.length_append]; omega), Lib.occAt_iff_take _ _ _ h]
  rw [List.drop_append_of_le_length (by omega), List.take_append_of_le_length (by rw [List.length_drop]; omega)]
theorem prefix_occ (l : Bs) : Lib.hasPrefix l [13, 10] = Lib.occAt l [13, 10] 0 := rfl
theorem prefix_app {a b : Bs} (h : 2 ≤ a.length) : Lib.hasPrefix (a ++ b) [13, 10] = Lib.hasPrefix a [13, 10] := by
  rw [prefix_occ, prefix_occ, occAt_left (by simpa using h)]
theorem occ_take {l sub : Bs} {n j : Nat} (h : j + sub.length ≤ n) (hn : n ≤ l.length) : Lib.occAt (l.take n) sub j = Lib.occAt l sub j := by
  have e := occAt_left (a := l.take n) (b := l.drop n) (sub := sub) (j := j) (by rw [List.length_take]; omega)
  rw [List.take_append_drop] at e
  exact e.symm
/-- a head that ends: what stands behind it turns nothing -/
theorem split_pre {l more : Bs} (h : Lib.hasPrefix l [13, 10] = true) : splitN (l.take 2 ++ more) = 2 ∧ l.take 2 = [13, 10] := by
  have h2 := (splitN_pre h).2
  have e : l.take 2 = [13, 10] := by
    have := Lib.occAt_iff_take l [13, 10] 0 (by simpa using h2)
    rw [← prefix_occ, h] at this
    simpa using this.symm
  refine ⟨?_, e⟩
  have hp : Lib.hasPrefix (l.take 2 ++ more) [13, 10] = true := by rw [e]; rfl
  exact (splitN_pre hp).1
theorem split_hit {l more : Bs} {i : Nat} (h : Lib.hasPrefix l [13, 10] = false) (hi : Lib.index l [13, 10, 13, 10] = i) : splitN (l.take (i + 4) ++ more) = i + 4 ∧ (l.take (i + 4)).drop i = [13, 10, 13, 10] := by
  have hl := (splitN_hit h hi).2
  have hlen : (l.take (i + 4)).length = i + 4 := by rw [List.length_take]; omega
  rcases Lib.index_spec l [13, 10, 13, 10] with ⟨h1, _⟩ | ⟨k, h1, _, h3, h4⟩
  · omega
  · obtain rfl : i = k := by omega
    have hp : Lib.hasPrefix (l.take (i + 4) ++ more) [13, 10] = false := by
      rw [prefix_app (by omega), prefix_occ, occ_take (by simp) hl, ← prefix_occ]; exact h
    have hx : Lib.index (l.take (i + 4) ++ more) [13, 10, 13, 10] = i := by
      refine Lib.index_first (by rw [List.length_append]; omega) ?_ (fun j hj => ?_)
      · rw [occAt_left (by simp; omega), occ_take (by simp) hl]; exact h3
      · rw [occAt_left (by simp; omega), occ_take (by simp; omega) hl]; exact h4 j hj
    refine ⟨(splitN_hit hp hx).1, ?_⟩
    rw [Lib.occAt_iff_take _ _ _ (by simpa using hl), beq_iff_eq] at h3
    rw [List.drop_take, show i + 4 - i = 4 by omega]
    exact h3
theorem split_miss {l : Bs} (h : Lib.hasPrefix l [13, 10] = false) (hi : Lib.index l [13, 10, 13, 10] = -1) : l ≠ [13, 10] ∧ (4 ≤ l.length → l.drop (l.length - 4) ≠ [13, 10, 13, 10]) := by
  refine ⟨fun e => (by rw [e] at h; cases h), fun hl e => ?_⟩
  rcases Lib.index_spec l [13, 10, 13, 10] with ⟨_, h2⟩ | ⟨k, h1, _⟩
  · have := h2 (l.length - 4) (by omega)
    rw [Lib.occAt_iff_take _ _ _ (by simp; omega), beq_eq_false_iff_ne] at this
    apply this
    rw [e]; rfl
  · omega
theorem eqB {a b : ByteArray} (h : a = b) : (a.toList == b.toList) = true := by rw [h]; simp

set_option maxHeartbeats 4000000 in
theorem whole_good (s H B more nm : ByteArray) (m : Int) (w : World) (hw0 : 0 < w.heap.size) (Hm : Hid (w.cell? ⟨0, 0, none⟩ = some (.int .i64 m)))
    (l1 : s.size ≤ 2048) (l2 : more.size ≤ 2048) (l3 : nm.size ≤ 2048) (lH : H.size ≤ 2048) (lB : B.size ≤ 2048)
    (hHB : Hid (H ++ B = s)) (z2 : 2 ≤ H.size) (e2 : Hid (H.extract (H.size - 2) H.size = ⟨#[13, 10]⟩)) (hor : H.size = 2 ∧ H = ⟨#[13, 10]⟩ ∨ 4 ≤ H.size ∧ H.extract (H.size - 4) H.size = ⟨#[13, 10, 13, 10]⟩)
    (E1 : Hid (∀ w, w.cell? ⟨0, 0, none⟩ = some (.int .i64 m) → Calls Tryd.prog 9 #[.string s] w fun e w' => e = .returned (.tuple #[.string H, .string B]) ∧ Below w.heap.size w w'))
    (E2 : Hid (∀ w, w.cell? ⟨0, 0, none⟩ = some (.int .i64 m) → Calls Tryd.prog 9 #[.string (H ++ more)] w fun e w' => e = .returned (.tuple #[.string H, .string more]) ∧ Below w.heap.size w w')) :
    Calls Tryd.prog 5 #[.string s, .string more, .string nm] w fun e w' => e = .returned (.bool true) ∧ Below w.heap.size w w' := by
  have E3 := field_any H nm m
  generalize fieldP (fieldsP (linesP H.data.toList)) nm.data.toList = q at E3
  obtain ⟨v, ok⟩ := q
  simp only at E3
  replace E3 := Lib.hid E3
  have b1 : ((H ++ B).toList == s.toList) = true := eqB hHB.out
  have b2 : ((H.extract (H.size - 2) H.size).toList == [13, 10]) = true := by rw [e2.out, ByteArray.toList_eq]; rfl
  have big1 : ¬ 9223372036854775807 < H.size + B.size := by omega
  have big2 : ¬ 9223372036854775807 < H.size + more.size := by omega
  have y2 : (2 : Int) ≤ (H.size : Int) := by omega
  rcases hor with ⟨hz, hH⟩ | ⟨hz, hH⟩
  · have f1 : decide ((2 : Int) < (H.size : Int)) = false := by simp; omega
    have f2 : ((H.size : Int) == 2) = true := by simp; omega
    have b3 : (H.toList == [13, 10]) = true := by rw [hH, ByteArray.toList_eq]; rfl
    have hzl : H.size ≤ 2 := by omega
    clear hH hz
    by_cases hB : 0 < B.size
    · have d1 := some_bytes B hB
      have d2 : (!B.toList.isEmpty) = true := by rw [d1]; rfl
      go_enter Tryd.func5, Tryd.ntmps5
      go_wp2_with fail
      refine (E1.out _ Hm.out).mono ?_
      rintro e w1 ⟨rfl, hb1⟩
      have HB1 := Lib.hid hb1
      clear hb1
      go_wp2_with fail
      refine (E2.out _ ((HB1.out.cell hw0).trans Hm.out)).mono ?_
      rintro e w2 ⟨rfl, hb2⟩
      have HB2 := Lib.hid (HB1.out.trans (hb2.mono HB1.out.size))
      clear hb2 HB1
      go_wp2_with fail
      refine (E3.out _ (by omega) (by omega) ((HB2.out.cell hw0).trans Hm.out)).mono ?_
      rintro e w3 ⟨rfl, hb3⟩
      have HB3 := Lib.hid (HB2.out.trans (hb3.mono HB2.out.size))
      clear hb3 HB2
      go_wp2_with fail
      refine (E3.out _ (by omega) (by omega) ((HB3.out.cell hw0).trans Hm.out)).mono ?_
      rintro e w4 ⟨rfl, hb4⟩
      have HB4 := Lib.hid (HB3.out.trans (hb4.mono HB3.out.size))
      clear hb4 HB3
      go_wp2_with fail
      refine (awake_any m _ ((HB4.out.cell hw0).trans Hm.out)).mono ?_
      rintro e w5 ⟨rfl, hb5⟩
      go_wp2
      go_ret
      exact ⟨rfl, HB4.out.trans (hb5.mono HB4.out.size)⟩
    · have d1 : B.toList.isEmpty = true := by rw [ByteArray.toList_eq, List.isEmpty_iff, ← List.length_eq_zero_iff, size_list]; omega
      have d2 : (!B.toList.isEmpty) = false := by rw [d1]; rfl
      go_enter Tryd.func5, Tryd.ntmps5
      go_wp2_with fail
      refine (E1.out _ Hm.out).mono ?_
      rintro e w1 ⟨rfl, hb1⟩
      have HB1 := Lib.hid hb1
      clear hb1
      go_wp2_with fail
      refine (E2.out _ ((HB1.out.cell hw0).trans Hm.out)).mono ?_
      rintro e w2 ⟨rfl, hb2⟩
      have HB2 := Lib.hid (HB1.out.trans (hb2.mono HB1.out.size))
      clear hb2 HB1
      go_wp2_with fail
      refine (E3.out _ (by omega) (by omega) ((HB2.out.cell hw0).trans Hm.out)).mono ?_
      rintro e w3 ⟨rfl, hb3⟩
      have HB3 := Lib.hid (HB2.out.trans (hb3.mono HB2.out.size))
      clear hb3 HB2
      go_wp2_with fail
      refine (E3.out _ (by omega) (by omega) ((HB3.out.cell hw0).trans Hm.out)).mono ?_
      rintro e w4 ⟨rfl, hb4⟩
      have HB4 := Lib.hid (HB3.out.trans (hb4.mono HB3.out.size))
      clear hb4 HB3
      go_wp2_with fail
      refine (awake_any m _ ((HB4.out.cell hw0).trans Hm.out)).mono ?_
      rintro e w5 ⟨rfl, hb5⟩
      go_wp2
      go_ret
      exact ⟨rfl, HB4.out.trans (hb5.mono HB4.out.size)⟩
  · have b4 : ((H.extract (H.size - 4) H.size).toList == [13, 10, 13, 10]) = true := by rw [hH, ByteArray.toList_eq]; rfl
    have y4 : (4 : Int) ≤ (H.size : Int) := by omega
    have f2 : ((H.size : Int) == 2) = false := by simp; omega
    clear hH
    by_cases hB : 0 < B.size
    · have d1 := some_bytes B hB
      have d2 : (!B.toList.isEmpty) = true := by rw [d1]; rfl
      go_enter Tryd.func5, Tryd.ntmps5
      go_wp2_with fail
      refine (E1.out _ Hm.out).mono ?_
      rintro e w1 ⟨rfl, hb1⟩
      have HB1 := Lib.hid hb1
      clear hb1
      go_wp2_with fail
      refine (E2.out _ ((HB1.out.cell hw0).trans Hm.out)).mono ?_
      rintro e w2 ⟨rfl, hb2⟩
      have HB2 := Lib.hid (HB1.out.trans (hb2.mono HB1.out.size))
      clear hb2 HB1
      go_wp2_with fail
      refine (E3.out _ (by omega) (by omega) ((HB2.out.cell hw0).trans Hm.out)).mono ?_
      rintro e w3 ⟨rfl, hb3⟩
      have HB3 := Lib.hid (HB2.out.trans (hb3.mono HB2.out.size))
      clear hb3 HB2
      go_wp2_with fail
      refine (E3.out _ (by omega) (by omega) ((HB3.out.cell hw0).trans Hm.out)).mono ?_
      rintro e w4 ⟨rfl, hb4⟩
      have HB4 := Lib.hid (HB3.out.trans (hb4.mono HB3.out.size))
      clear hb4 HB3
      go_wp2_with fail
      refine (awake_any m _ ((HB4.out.cell hw0).trans Hm.out)).mono ?_
      rintro e w5 ⟨rfl, hb5⟩
      go_wp2
      go_ret
      exact ⟨rfl, HB4.out.trans (hb5.mono HB4.out.size)⟩
    · have d1 : B.toList.isEmpty = true := by rw [ByteArray.toList_eq, List.isEmpty_iff, ← List.length_eq_zero_iff, size_list]; omega
      have d2 : (!B.toList.isEmpty) = false := by rw [d1]; rfl
      go_enter Tryd.func5, Tryd.ntmps5
      go_wp2_with fail
      refine (E1.out _ Hm.out).mono ?_
      rintro e w1 ⟨rfl, hb1⟩
      have HB1 := Lib.hid hb1
      clear hb1
      go_wp2_with fail
      refine (E2.out _ ((HB1.out.cell hw0).trans Hm.out)).mono ?_
      rintro e w2 ⟨rfl, hb2⟩
      have HB2 := Lib.hid (HB1.out.trans (hb2.mono HB1.out.size))
      clear hb2 HB1
      go_wp2_with fail
      refine (E3.out _ (by omega) (by omega) ((HB2.out.cell hw0).trans Hm.out)).mono ?_
      rintro e w3 ⟨rfl, hb3⟩
      have HB3 := Lib.hid (HB2.out.trans (hb3.mono HB2.out.size))
      clear hb3 HB2
      go_wp2_with fail
      refine (E3.out _ (by omega) (by omega) ((HB3.out.cell hw0).trans Hm.out)).mono ?_
      rintro e w4 ⟨rfl, hb4⟩
      have HB4 := Lib.hid (HB3.out.trans (hb4.mono HB3.out.size))
      clear hb4 HB3
      go_wp2_with fail
      refine (awake_any m _ ((HB4.out.cell hw0).trans Hm.out)).mono ?_
      rintro e w5 ⟨rfl, hb5⟩
      go_wp2
      go_ret
      exact ⟨rfl, HB4.out.trans (hb5.mono HB4.out.size)⟩
end Go.Proofs.YtgdhddkhnpcdmaaDoor.PT

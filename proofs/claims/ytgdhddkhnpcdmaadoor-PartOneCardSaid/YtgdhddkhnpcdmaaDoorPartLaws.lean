/- The walks of the statements PartSplits, PartHas and PartLines: the answer is true. Conditions: the cell of the library's MaxLen holds some int; lengths. -/
import Derived.Test.YtgdhddkhnpcdmaaDoorPartAwake
namespace Go.Proofs.YtgdhddkhnpcdmaaDoor.PT
open Go.RowKit Mailsack MM

theorem cc_le : ∀ l : Bs, cc l ≤ l.length
  | [] => Nat.le_refl _
  | [a] => by
    rw [cc_ne (by simp)]
    simp [cc]
  | a :: b :: l => by
    by_cases h : a = 13 ∧ b = 10
    · obtain ⟨rfl, rfl⟩ := h
      have := cc_le l
      simp only [cc, List.length_cons]
      omega
    · rw [cc_ne (by simpa using h)]
      have := cc_le (b :: l)
      simp only [List.length_cons] at this ⊢
      omega
set_option maxHeartbeats 1000000 in
theorem splits_law (s : ByteArray) (hs : s.size ≤ 9223372036854775807) (m : Int) (w : World) (hm : w.cell? ⟨0, 0, none⟩ = some (.int .i64 m)) :
    Calls Tryd.prog 3 #[.string s] w fun e w' => e = .returned (.bool true) ∧ Below w.heap.size w w' := by
  have hw0 : 0 < w.heap.size := World.block_lt_of_cell? w _ hm
  have Hm := Lib.hid hm
  clear hm
  by_cases hl : 2048 < s.size
  · go_enter Tryd.func3, Tryd.ntmps3
    go_wp2_with fail
    refine (awake_any m _ Hm.out).mono ?_
    rintro e w2 ⟨rfl, hb2⟩
    go_wp2
    go_ret
    exact ⟨rfl, hb2⟩
  · have hn := splitN_le s.data.toList
    rw [size_list] at hn
    have E1 := Lib.hid (split_any s m)
    have E2 := Lib.hid (rsplit_any s)
    generalize splitN s.data.toList = n at hn E1 E2
    have hnI : (n : Int) ≤ (s.size : Int) := by omega
    have E3 := Lib.hid (lines_any s m)
    have E4 := Lib.hid (rows_any s)
    have hc := cc_le s.data.toList
    rw [size_list] at hc
    generalize cc s.data.toList = c at E3 E4 hc
    have hc1 : ((c : Int) == (c : Int) + 1 - 1) = true := by simp
    have hc2 : ((c : Int) == ((c + 1 : Nat) : Int) - 1) = true := by simp
    go_enter Tryd.func3, Tryd.ntmps3
    go_wp2_with fail
    refine (E1.out _ (by omega) Hm.out).mono ?_
    rw [strV_take, strV_drop]
    rintro e w1 ⟨rfl, hb1⟩
    have hm1 := Lib.hid ((hb1.cell hw0).trans Hm.out)
    go_wp2_with fail
    refine (E2.out _ (by omega)).mono ?_
    rintro e w2 ⟨rfl, hw2⟩
    subst hw2
    go_wp2_with fail
    refine (E3.out _ (by omega) hm1.out).mono ?_
    rintro e w3 ⟨rfl, hw3⟩
    subst hw3
    go_wp2_with fail
    refine (E4.out _ (by omega)).mono ?_
    rintro e w4 ⟨A, c4, rfl, hb4⟩
    have hb14 := hb1.trans (hb4.mono hb1.size)
    have HB := Lib.hid hb14
    clear hb1 hb4 hb14
    go_wp2_with fail
    refine (awake_any m _ ((HB.out.cell hw0).trans Hm.out)).mono ?_
    rintro e w5 ⟨rfl, hb5⟩
    go_wp2
    go_ret
    exact ⟨rfl, HB.out.trans (hb5.mono HB.out.size)⟩

set_option maxHeartbeats 1000000 in
theorem has_law (s t : ByteArray) (hs : s.size ≤ 9223372036854775807) (ht : t.size ≤ 9223372036854775807) (m : Int) (w : World) (hm : w.cell? ⟨0, 0, none⟩ = some (.int .i64 m)) :
    Calls Tryd.prog 4 #[.string s, .string t] w fun e w' => e = .returned (.bool true) ∧ Below w.heap.size w w' := by
  have hw0 : 0 < w.heap.size := World.block_lt_of_cell? w _ hm
  have Hm := Lib.hid hm
  clear hm
  by_cases hl : 512 < s.size ∨ 512 < t.size
  · by_cases hl1 : 512 < s.size
    · go_enter Tryd.func4, Tryd.ntmps4
      go_wp2_with fail
      refine (awake_any m _ Hm.out).mono ?_
      rintro e w2 ⟨rfl, hb2⟩
      go_wp2
      go_ret
      exact ⟨rfl, hb2⟩
    · have hl2 : 512 < t.size := by omega
      go_enter Tryd.func4, Tryd.ntmps4
      go_wp2_with fail
      refine (awake_any m _ Hm.out).mono ?_
      rintro e w2 ⟨rfl, hb2⟩
      go_wp2
      go_ret
      exact ⟨rfl, hb2⟩
  · have hl1 : s.size ≤ 512 := by omega
    have hl2 : t.size ≤ 512 := by omega
    clear hl
    have E1 := Lib.hid (has_any s t m)
    have E2 := Lib.hid (rhas_any s t)
    generalize hasP s.data.toList t.data.toList = q at E1 E2
    have hE3 : hasP (s ++ t).data.toList t.data.toList = true := by
      rw [show (s ++ t).data.toList = s.data.toList ++ t.data.toList by simp [ByteArray.data_append]]
      exact hasP_end _ _
    have E3 := has_any (s ++ t) t m
    rw [hE3] at E3
    replace E3 := Lib.hid E3
    have hsz : (s ++ t).size = s.size + t.size := ByteArray.size_append
    have Hsz := Lib.hid hsz
    clear hE3 hsz
    go_enter Tryd.func4, Tryd.ntmps4
    go_wp2_with fail
    refine (E1.out _ (by omega) (by omega) Hm.out).mono ?_
    rintro e w1 ⟨rfl, hb1⟩
    go_wp2_with fail
    refine (E2.out _ (by omega) (by omega)).mono ?_
    rintro e w2 ⟨rfl, hb2⟩
    have HB := Lib.hid (hb1.trans (hb2.mono hb1.size))
    clear hb1 hb2
    go_wp2_with fail
    refine (E3.out _ (by rw [Hsz.out]; omega) (by omega) ((HB.out.cell hw0).trans Hm.out)).mono ?_
    rintro e w3 ⟨rfl, hb3⟩
    have HB3 := Lib.hid (HB.out.trans (hb3.mono HB.out.size))
    clear hb3 HB
    go_wp2_with fail
    refine (awake_any m _ ((HB3.out.cell hw0).trans Hm.out)).mono ?_
    rintro e w5 ⟨rfl, hb5⟩
    go_wp2
    go_ret
    exact ⟨rfl, HB3.out.trans (hb5.mono HB3.out.size)⟩

theorem data_app (s t : ByteArray) : (s ++ t).data.toList = s.data.toList ++ t.data.toList := by simp [ByteArray.data_append]

set_option maxHeartbeats 2000000 in
theorem lines_law (a b : ByteArray) (ha : a.size ≤ 9223372036854775807) (hb : b.size ≤ 9223372036854775807) (n : Int) (wn : (Lit.int .u8 n).wf = true) (m : Int) (w : World) (hm : w.cell? ⟨0, 0, none⟩ = some (.int .i64 m)) :
    Calls Tryd.prog 6 #[.string a, .string b, .int .u8 n] w fun e w' => e = .returned (.bool true) ∧ Below w.heap.size w w' := by
  have hw0 : 0 < w.heap.size := World.block_lt_of_cell? w _ hm
  have Hm := Lib.hid hm
  clear hm
  have hn : 0 ≤ n ∧ n ≤ 255 := by
    have h := wn
    simp [Lit.wf] at h
    exact ⟨h.1, h.2⟩
  obtain ⟨hn0, hn1⟩ := hn
  clear wn
  by_cases hl : 512 < a.size ∨ 512 < b.size
  · by_cases hl1 : 512 < a.size
    · go_enter Tryd.func6, Tryd.ntmps6
      go_wp2_with fail
      refine (awake_any m _ Hm.out).mono ?_
      rintro e w2 ⟨rfl, hb2⟩
      go_wp2
      go_ret
      exact ⟨rfl, hb2⟩
    · have hl2 : 512 < b.size := by omega
      go_enter Tryd.func6, Tryd.ntmps6
      go_wp2_with fail
      refine (awake_any m _ Hm.out).mono ?_
      rintro e w2 ⟨rfl, hb2⟩
      go_wp2
      go_ret
      exact ⟨rfl, hb2⟩
  · have hl1 : a.size ≤ 512 := by omega
    have hl2 : b.size ≤ 512 := by omega
    clear hl
    have hc := cc_le a.data.toList
    rw [size_list] at hc
    go_enter Tryd.func6, Tryd.ntmps6
    go_wp2_with fail
    go_loop [7, 20] (fun sv iv => ∃ (i : Nat) (S : ByteArray), (i : Int) ≤ n % 8 ∧ iv = .int .u8 i ∧ sv = .string S ∧ S.size ≤ 512 + 3 * i ∧ Hid (S.data.toList = a.data.toList ++ lines3 i)) (fun _ iv => 8 - (intOf iv).toNat)
    case atStart => exact ⟨0, a, by omega, rfl, rfl, by omega, Lib.hid (by simp [lines3])⟩
    case round =>
      obtain ⟨i, S, hi, rfl, rfl, hsz, hS⟩ := hrel
      by_cases hlt : (i : Int) < n % 8
      · have hrel2 := Lib.hid (show (S ++ (⟨#[120, 13, 10]⟩ : ByteArray)).data.toList = a.data.toList ++ lines3 (i + 1) by rw [data_app, hS.out, List.append_assoc]; rfl)
        have hsz2 : (S ++ (⟨#[120, 13, 10]⟩ : ByteArray)).size ≤ 512 + 3 * (i + 1) := by rw [ByteArray.size_append]; show S.size + 3 ≤ _; omega
        have hbig : ¬ 9223372036854775807 < S.size + 3 := by omega
        go_wp2
        go_round
        case rel => exact ⟨i + 1, S ++ ⟨#[120, 13, 10]⟩, by omega, by go_num, rfl, hsz2, hrel2⟩
        case measure => simp [intOf]; omega
      · have hi8 : (i : Int) = n % 8 := by omega
        have E1 := lines_any S m
        rw [hS.out, cc_lines3] at E1
        replace E1 := Lib.hid E1
        have E2 := Lib.hid (lines_any a m)
        have E3 := has_any (a ++ b ++ a) b m
        rw [show hasP (a ++ b ++ a).data.toList b.data.toList = true by rw [data_app, data_app]; exact hasP_mid _ _ _] at E3
        replace E3 := Lib.hid E3
        have E4 := Lib.hid (small_any (a ++ b))
        have E5 := has_any ⟨(lowP (a ++ b).data.toList).toArray⟩ b m
        rw [show hasP (⟨(lowP (a ++ b).data.toList).toArray⟩ : ByteArray).data.toList b.data.toList = true by
          show hasP (lowP (a ++ b).data.toList) _ = true
          rw [data_app]; exact hasP_low _ _] at E5
        replace E5 := Lib.hid E5
        have z1 := Lib.hid (show (a ++ b ++ a).size = a.size + b.size + a.size by rw [ByteArray.size_append, ByteArray.size_append])
        have z2 := Lib.hid (show (a ++ b).size = a.size + b.size by rw [ByteArray.size_append])
        have z3 := Lib.hid (show (⟨(lowP (a ++ b).data.toList).toArray⟩ : ByteArray).size = a.size + b.size by rw [size_mk, lowP_length, size_list]; exact z2.out)
        generalize cc a.data.toList = c at E1 E2 hc
        have Hi8 := Lib.hid hi8
        have hq1 : ((((c + i : Nat) : Int)) == (c : Int) + n % 8) = true := by simp; omega
        have hq2 : ((c : Int) + (i : Int) == (c : Int) + n % 8) = true := by simp; omega
        clear hi8
        go_wp2_with fail
        refine (E1.out _ (by omega) Hm.out).mono ?_
        rintro e w1 ⟨rfl, hw1⟩
        subst hw1
        go_wp2_with fail
        refine (E2.out _ (by omega) Hm.out).mono ?_
        rintro e w1 ⟨rfl, hw1⟩
        subst hw1
        go_wp2_with fail
        refine (E3.out _ (by rw [z1.out]; omega) (by omega) Hm.out).mono ?_
        rintro e w3 ⟨rfl, hb3⟩
        go_wp2_with fail
        refine (E4.out _ (by rw [z2.out]; omega)).mono ?_
        rintro e w4 ⟨rfl, hb4⟩
        have HB4 := Lib.hid (hb3.trans (hb4.mono hb3.size))
        clear hb3 hb4
        go_wp2_with fail
        refine (E5.out _ (by rw [z3.out]; omega) (by omega) ((HB4.out.cell hw0).trans Hm.out)).mono ?_
        rintro e w5 ⟨rfl, hb5⟩
        have HB5 := Lib.hid (HB4.out.trans (hb5.mono HB4.out.size))
        clear hb5 HB4
        go_wp2_with fail
        refine (awake_any m _ ((HB5.out.cell hw0).trans Hm.out)).mono ?_
        rintro e w6 ⟨rfl, hb6⟩
        go_wp2
        go_ret
        exact ⟨rfl, HB5.out.trans (hb6.mono HB5.out.size)⟩
end Go.Proofs.YtgdhddkhnpcdmaaDoor.PT

/- The statement PartWhole, whatever the input: the cases joined. Conditions: the cell of the library's MaxLen holds some int; lengths. -/
import Derived.Test.YtgdhddkhnpcdmaaDoorPartWhole
namespace Go.Proofs.YtgdhddkhnpcdmaaDoor.PT
open Go.RowKit Mailsack MM

set_option maxHeartbeats 4000000 in
theorem whole_miss (s more nm : ByteArray) (m : Int) (w : World) (hw0 : 0 < w.heap.size) (Hm : Hid (w.cell? ⟨0, 0, none⟩ = some (.int .i64 m)))
    (l1 : s.size ≤ 2048) (l2 : more.size ≤ 2048) (l3 : nm.size ≤ 2048) (hn2 : ¬ s = ⟨#[13, 10]⟩) (hn4 : 4 ≤ s.size → ¬ s.extract (s.size - 4) s.size = ⟨#[13, 10, 13, 10]⟩) (G C : ByteArray)
    (E1 : Hid (∀ w, w.cell? ⟨0, 0, none⟩ = some (.int .i64 m) → Calls Tryd.prog 9 #[.string s] w fun e w' => e = .returned (.tuple #[.string s, .string ⟨#[]⟩]) ∧ Below w.heap.size w w'))
    (E2 : Hid (∀ w, w.cell? ⟨0, 0, none⟩ = some (.int .i64 m) → Calls Tryd.prog 9 #[.string (s ++ more)] w fun e w' => e = .returned (.tuple #[.string G, .string C]) ∧ Below w.heap.size w w')) :
    Calls Tryd.prog 5 #[.string s, .string more, .string nm] w fun e w' => e = .returned (.bool true) ∧ Below w.heap.size w w' := by
  have b1 : ((s ++ (⟨#[]⟩ : ByteArray)).toList == s.toList) = true := by
    rw [ByteArray.toList_eq, ByteArray.toList_eq, data_app]; simp
  have big1 : ¬ 9223372036854775807 < s.size := by omega
  have big2 : ¬ 9223372036854775807 < s.size + more.size := by omega
  by_cases hz : s.size = 2
  · have f2 : ((s.size : Int) == 2) = true := by simp; omega
    have b3 : (s.toList == [13, 10]) = false := by
      rw [beq_eq_false_iff_ne, ByteArray.toList_eq]; intro e; apply hn2; rcases s with ⟨⟨l⟩⟩; simp only at e; rw [e]
    have f3 : decide ((3 : Int) < (s.size : Int)) = false := by simp; omega
    clear hz hn2 hn4
    go_enter Tryd.func5, Tryd.ntmps5
    go_wp2_with fail
    refine (E1.out _ Hm.out).mono ?_
    rintro e w1 ⟨rfl, hb1⟩
    have HB1 := Lib.hid hb1
    clear hb1
    go_wp2_with fail
    refine (E2.out _ ((HB1.out.cell hw0).trans Hm.out)).mono ?_
    rintro e w2 ⟨rfl, hb2⟩
    have HB2 := Lib.hid (HB1.out.trans (hb2.mono HB1.out.size))
    clear hb2 HB1
    go_wp2_with fail
    refine (awake_any m _ ((HB2.out.cell hw0).trans Hm.out)).mono ?_
    rintro e w5 ⟨rfl, hb5⟩
    go_wp2
    go_ret
    exact ⟨rfl, HB2.out.trans (hb5.mono HB2.out.size)⟩
  · have f2 : ((s.size : Int) == 2) = false := by simp; omega
    clear hz hn2
    by_cases h4 : 4 ≤ s.size
    · have b4 : ((s.extract (s.size - 4) s.size).toList == [13, 10, 13, 10]) = false := by
        have h := hn4 h4
        rw [beq_eq_false_iff_ne, ByteArray.toList_eq]; intro e; apply h
        generalize s.extract (s.size - 4) s.size = b at e
        rcases b with ⟨⟨l⟩⟩; simp only at e; rw [e]
      have f3 : decide ((3 : Int) < (s.size : Int)) = true := by simp; omega
      have y4 : (4 : Int) ≤ (s.size : Int) := by omega
      clear hn4
      go_enter Tryd.func5, Tryd.ntmps5
      go_wp2_with fail
      refine (E1.out _ Hm.out).mono ?_
      rintro e w1 ⟨rfl, hb1⟩
      have HB1 := Lib.hid hb1
      clear hb1
      go_wp2_with fail
      refine (E2.out _ ((HB1.out.cell hw0).trans Hm.out)).mono ?_
      rintro e w2 ⟨rfl, hb2⟩
      have HB2 := Lib.hid (HB1.out.trans (hb2.mono HB1.out.size))
      clear hb2 HB1
      go_wp2_with fail
      refine (awake_any m _ ((HB2.out.cell hw0).trans Hm.out)).mono ?_
      rintro e w5 ⟨rfl, hb5⟩
      go_wp2
      go_ret
      exact ⟨rfl, HB2.out.trans (hb5.mono HB2.out.size)⟩
    · have f3 : decide ((3 : Int) < (s.size : Int)) = false := by simp; omega
      clear hn4
      go_enter Tryd.func5, Tryd.ntmps5
      go_wp2_with fail
      refine (E1.out _ Hm.out).mono ?_
      rintro e w1 ⟨rfl, hb1⟩
      have HB1 := Lib.hid hb1
      clear hb1
      go_wp2_with fail
      refine (E2.out _ ((HB1.out.cell hw0).trans Hm.out)).mono ?_
      rintro e w2 ⟨rfl, hb2⟩
      have HB2 := Lib.hid (HB1.out.trans (hb2.mono HB1.out.size))
      clear hb2 HB1
      go_wp2_with fail
      refine (awake_any m _ ((HB2.out.cell hw0).trans Hm.out)).mono ?_
      rintro e w5 ⟨rfl, hb5⟩
      go_wp2
      go_ret
      exact ⟨rfl, HB2.out.trans (hb5.mono HB2.out.size)⟩

theorem str_of (s : ByteArray) : strV s.data.toList = .string s := rfl
theorem ext_app (s : ByteArray) (n : Nat) (h : n ≤ s.size) : s.extract 0 n ++ s.extract n s.size = s := by
  have e : (s.extract 0 n ++ s.extract n s.size).data.toList = s.data.toList := by
    rw [data_app, ext_take, ext_drop]
    exact List.take_append_drop n _
  generalize s.extract 0 n ++ s.extract n s.size = b at e
  rcases b with ⟨⟨l⟩⟩; rcases s with ⟨⟨l2⟩⟩
  simp only at e
  rw [e]
theorem ext_of {s : ByteArray} {l : Bs} (h : s.data.toList = l) : s = ⟨l.toArray⟩ := by rw [← h]
theorem split_two (s : ByteArray) (n : Nat) (more : ByteArray) (m : Int) (hn : splitN (s.data.toList.take n ++ more.data.toList) = n) (hl : n ≤ s.size) (hz : s.size + more.size < 4294967281) (w : World) (hm : w.cell? ⟨0, 0, none⟩ = some (.int .i64 m)) :
    Calls Tryd.prog 9 #[.string (s.extract 0 n ++ more)] w fun e w' => e = .returned (.tuple #[.string (s.extract 0 n), .string more]) ∧ Below w.heap.size w w' := by
  have e : (s.extract 0 n ++ more).data.toList = s.data.toList.take n ++ more.data.toList := by rw [data_app, ext_take]
  have hlen : (s.data.toList.take n).length = n := by rw [List.length_take, size_list]; omega
  have h := split_any (s.extract 0 n ++ more) m w (by rw [ByteArray.size_append, ext_size]; omega) hm
  rw [e, hn] at h
  rw [List.take_append_of_le_length (by omega), List.take_of_length_le (by omega), List.drop_append_of_le_length (by omega), List.drop_eq_nil_of_le (by omega), List.nil_append, strV_take, str_of] at h
  exact h

theorem whole_law (s more nm : ByteArray) (hs : s.size ≤ 9223372036854775807) (hmo : more.size ≤ 9223372036854775807) (hnm : nm.size ≤ 9223372036854775807) (m : Int) (w : World) (hm : w.cell? ⟨0, 0, none⟩ = some (.int .i64 m)) :
    Calls Tryd.prog 5 #[.string s, .string more, .string nm] w fun e w' => e = .returned (.bool true) ∧ Below w.heap.size w w' := by
  have hw0 : 0 < w.heap.size := World.block_lt_of_cell? w _ hm
  have Hm := Lib.hid hm
  clear hm
  by_cases l1 : s.size ≤ 2048
  · by_cases l2 : more.size ≤ 2048
    · by_cases l3 : nm.size ≤ 2048
      · clear hs hmo hnm
        cases hp : Lib.hasPrefix s.data.toList [13, 10]
        · rcases index_cases s.data.toList [13, 10, 13, 10] with h1 | ⟨i, h1⟩
          · have hmiss := split_miss hp h1
            have hN := splitN_miss hp h1
            have E1 := fun w => split_any s m w (by omega)
            rw [hN, List.take_length, List.drop_length, str_of] at E1
            have E2 := fun w => split_any (s ++ more) m w (by rw [ByteArray.size_append]; omega)
            rw [strV_take, strV_drop] at E2
            refine whole_miss s more nm m w hw0 Hm l1 l2 l3 (fun e => hmiss.1 (by rw [e])) (fun h4 e => hmiss.2 (by rw [size_list]; exact h4) ?_) _ _ (Lib.hid E1) (Lib.hid E2)
            have := congrArg (fun b : ByteArray => b.data.toList) e
            simp only at this
            rw [ext_drop] at this
            rw [size_list]; exact this
          · have hl := (splitN_hit hp h1).2
            rw [size_list] at hl
            have hN := (splitN_hit hp h1).1
            obtain ⟨h2, h3⟩ := split_hit (more := more.data.toList) hp h1
            have E1 := fun w => split_any s m w (by omega)
            rw [hN, strV_take, strV_drop] at E1
            have hsz : (s.extract 0 (i + 4)).size = i + 4 := by rw [ext_size]; omega
            have d4 : (s.extract 0 (i + 4)).data.toList.drop i = [13, 10, 13, 10] := by rw [ext_take]; exact h3
            refine whole_good s (s.extract 0 (i + 4)) (s.extract (i + 4) s.size) more nm m w hw0 Hm l1 l2 l3 (by omega) (by rw [ext_size]; omega) (Lib.hid (ext_app s _ hl)) (by omega) (Lib.hid ?_) (.inr ⟨by omega, ?_⟩) (Lib.hid E1)
              (Lib.hid (fun w hm => split_two s (i + 4) more m h2 hl (by omega) w hm))
            · rw [ext_drop, hsz, show i + 4 - 2 = i + 2 by omega, ← List.drop_drop, d4]; rfl
            · rw [ext_drop, hsz, show i + 4 - 4 = i by omega, d4]
        · obtain ⟨hN, hl⟩ := splitN_pre hp
          rw [size_list] at hl
          obtain ⟨h2, h3⟩ := split_pre (more := more.data.toList) hp
          have E1 := fun w => split_any s m w (by omega)
          rw [hN, strV_take, strV_drop] at E1
          have hH : s.extract 0 2 = ⟨#[13, 10]⟩ := by rw [ext_take, h3]
          have hsz : (s.extract 0 2).size = 2 := by rw [ext_size]; omega
          refine whole_good s (s.extract 0 2) (s.extract 2 s.size) more nm m w hw0 Hm l1 l2 l3 (by omega) (by rw [ext_size]; omega) (Lib.hid (ext_app s _ hl)) (by omega) (Lib.hid ?_) (.inl ⟨hsz, hH⟩) (Lib.hid E1)
            (Lib.hid (fun w hm => split_two s 2 more m h2 hl (by omega) w hm))
          rw [hH]; rfl
      · have l3' : 2048 < nm.size := by omega
        go_enter Tryd.func5, Tryd.ntmps5
        go_wp2_with fail
        refine (awake_any m _ Hm.out).mono ?_
        rintro e w2 ⟨rfl, hb2⟩
        go_wp2
        go_ret
        exact ⟨rfl, hb2⟩
    · have l2' : 2048 < more.size := by omega
      go_enter Tryd.func5, Tryd.ntmps5
      go_wp2_with fail
      refine (awake_any m _ Hm.out).mono ?_
      rintro e w2 ⟨rfl, hb2⟩
      go_wp2
      go_ret
      exact ⟨rfl, hb2⟩
  · have l1' : 2048 < s.size := by omega
    go_enter Tryd.func5, Tryd.ntmps5
    go_wp2_with fail
    refine (awake_any m _ Hm.out).mono ?_
    rintro e w2 ⟨rfl, hb2⟩
    go_wp2
    go_ret
    exact ⟨rfl, hb2⟩
end Go.Proofs.YtgdhddkhnpcdmaaDoor.PT

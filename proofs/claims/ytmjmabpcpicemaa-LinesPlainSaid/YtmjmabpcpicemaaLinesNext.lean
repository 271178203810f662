/- What lines.Next and the reference's Line and Next return, for any text. Conditions: a length below 2^32 - 15 for lines.Next, and that the cell of the library's MaxLen holds some int. -/
import Derived.Test.YtmjmabpcpicemaaLinesPlain
import Derived.Test.YtmjmabpcpicemaaShelf
import Derived.WalkKit
import Derived.WalkLawsBesides
import Derived.WalkSpells
import Derived.Lib.Hide
import Derived.Deep.QuietTactic
import Derived.BigQuiet
namespace Go.Proofs.Ytmjmabpcpicemaa.LN
open Go.RowKit Mailsack

set_option maxHeartbeats 400000 in
theorem next_any (s : ByteArray) (m : Int) (w : World) (hl : s.size < 4294967281) (hm : w.cell? ⟨0, 0, none⟩ = some (.int .i64 m)) :
    Calls Try.prog 8 #[.string s] w fun e w' => e = .returned (.tuple #[.string ⟨(nextP s.data.toList).1.toArray⟩, .string ⟨(nextP s.data.toList).2.1.toArray⟩, .int .i64 (nextP s.data.toList).2.2]) ∧ ∃ n, w' = w.drewN n := by
  have hz := size_list s
  rcases index_cases s.data.toList [13, 10] with hi | ⟨i, hi⟩
  · have hc2 : Go.Lib.cut s.data.toList (⟨#[13, 10]⟩ : ByteArray).data.toList = (s.data.toList, [], false) := cut_miss hi
    have Hc := Lib.hid hc2
    clear hc2
    by_cases hs : s.size ≤ 512
    · rw [nextP_miss_short hi (by omega)]
      clear hi hz
      go_enter Try.func8, Try.ntmps8
      go_wp2_with fail
      refine (Try.strings_Cut s ⟨#[13, 10]⟩ m _ hl hm).mono ?_
      rintro e w' ⟨rfl, n, rfl⟩
      rw [Hc.out]
      go_wp2
      go_ret3
      exact ⟨rfl, n, rfl⟩
    · rw [nextP_miss_long hi (by omega)]
      clear hi hz
      have hs : 512 < s.size := by omega
      go_enter Try.func8, Try.ntmps8
      go_wp2_with fail
      refine (Try.strings_Cut s ⟨#[13, 10]⟩ m _ hl hm).mono ?_
      rintro e w' ⟨rfl, n, rfl⟩
      rw [Hc.out]
      go_wp2
      go_ret3
      exact ⟨rfl, n, rfl⟩
  · have hc2 : Go.Lib.cut s.data.toList (⟨#[13, 10]⟩ : ByteArray).data.toList = (s.data.toList.take i, s.data.toList.drop (i + 2), true) := cut_hit hi
    have Hc := Lib.hid hc2
    clear hc2
    have hle : i + 2 ≤ s.size := hz ▸ index_le hi
    by_cases hs : i ≤ 512
    · rw [nextP_hit_short hi hs]
      have ht : (s.data.toList.take i).length ≤ 512 := by rw [List.length_take]; omega
      clear hi hz
      go_enter Try.func8, Try.ntmps8
      go_wp2_with fail
      refine (Try.strings_Cut s ⟨#[13, 10]⟩ m _ hl hm).mono ?_
      rintro e w' ⟨rfl, n, rfl⟩
      rw [Hc.out]
      go_wp2
      go_ret3
      exact ⟨rfl, n, rfl⟩
    · rw [nextP_hit_long hi hs]
      have ht : 512 < (s.data.toList.take i).length := by rw [List.length_take]; omega
      clear hi hz
      go_enter Try.func8, Try.ntmps8
      go_wp2_with fail
      refine (Try.strings_Cut s ⟨#[13, 10]⟩ m _ hl hm).mono ?_
      rintro e w' ⟨rfl, n, rfl⟩
      rw [Hc.out]
      go_wp2
      go_ret3
      exact ⟨rfl, n, rfl⟩

set_option maxHeartbeats 400000 in
theorem line_any (s : ByteArray) (w : World) (hl : s.size < 4611686018427387904) :
    Calls Try.prog 16 #[.string s] w fun e w' => e = .returned (.int .i64 (Go.Lib.index s.data.toList [13, 10])) ∧ w = w' := by
  go_enter Try.func16, Try.ntmps16
  go_wp2
  go_loop [3] (fun i => ∃ k : Nat, k ≤ s.size ∧ i = .int .i64 k ∧ Hid (∀ j, j < k → Go.Lib.occAt s.data.toList [13, 10] j = false)) (fun i => s.size - (intOf i).toNat)
  case atStart => exact ⟨0, Nat.zero_le _, rfl, Lib.hid (fun j hj => absurd hj (Nat.not_lt_zero _))⟩
  case round =>
    obtain ⟨k, hk, rfl, hno⟩ := hrel
    by_cases hlt : k + 1 < s.size
    · go_wp2
      · rename_i h1 _ h2
        go_ret
        exact ⟨congrArg (fun z => Ending.returned (.int .i64 z)) (line_hit rfl hlt hno.out (by assumption) (by simpa using h2)).symm, rfl⟩
      · rename_i h2
        go_round
        case rel => exact ⟨k + 1, by omega, by go_num, Lib.hid (line_go rfl hlt hno.out (.inr (by simpa using h2)))⟩
        case measure => simp [intOf]; omega
      · go_round
        case rel => exact ⟨k + 1, by omega, by go_num, Lib.hid (line_go rfl hlt hno.out (.inl (by assumption)))⟩
        case measure => simp [intOf]; omega
    · go_wp2
      go_ret
      exact ⟨congrArg (fun z => Ending.returned (.int .i64 z)) (line_end rfl (by omega) hno.out).symm, rfl⟩

set_option maxHeartbeats 400000 in
theorem rnext_any (s : ByteArray) (w : World) (hl : s.size < 4611686018427387904) :
    Calls Try.prog 9 #[.string s] w fun e w' => e = .returned (.tuple #[.string ⟨(nextP s.data.toList).1.toArray⟩, .string ⟨(nextP s.data.toList).2.1.toArray⟩, .int .i64 (nextP s.data.toList).2.2]) ∧ ∃ n, w' = w.drewN n := by
  have hz := size_list s
  rcases index_cases s.data.toList [13, 10] with hi | ⟨i, hi⟩
  · have Hi := Lib.hid hi
    by_cases hs : s.size ≤ 512
    · rw [nextP_miss_short hi (by omega)]
      clear hi hz
      go_enter Try.func9, Try.ntmps9
      go_wp2_with fail
      refine (line_any s _ hl).mono ?_
      rintro e w' ⟨rfl, rfl⟩
      rw [Hi.out]
      go_wp2
      go_ret3
      exact ⟨rfl, 0, rfl⟩
    · rw [nextP_miss_long hi (by omega)]
      clear hi hz
      go_enter Try.func9, Try.ntmps9
      go_wp2_with fail
      refine (line_any s _ hl).mono ?_
      rintro e w' ⟨rfl, rfl⟩
      rw [Hi.out]
      go_wp2
      go_ret3
      exact ⟨rfl, 0, rfl⟩
  · have Hi := Lib.hid hi
    have hle : i + 2 ≤ s.size := hz ▸ index_le hi
    have hle1 : (i : Int) + 2 ≤ s.size := by omega
    have hle2 : (0 : Int) ≤ (i : Int) + 2 := by omega
    by_cases hs : i ≤ 512
    · rw [nextP_hit_short hi hs]
      clear hi hz
      go_enter Try.func9, Try.ntmps9
      go_wp2_with fail
      refine (line_any s _ hl).mono ?_
      rintro e w' ⟨rfl, rfl⟩
      rw [Hi.out]
      go_wp2
      go_quiet (fail)
      go_wp2
      go_ret3
      refine ⟨?_, _, rfl⟩
      rw [← ext_take, ← ext_drop]
      rfl
    · rw [nextP_hit_long hi hs]
      clear hi hz
      go_enter Try.func9, Try.ntmps9
      go_wp2_with fail
      refine (line_any s _ hl).mono ?_
      rintro e w' ⟨rfl, rfl⟩
      rw [Hi.out]
      go_wp2
      go_quiet (fail)
      go_wp2
      go_ret3
      refine ⟨?_, _, rfl⟩
      rw [← ext_drop]
      rfl
end Go.Proofs.Ytmjmabpcpicemaa.LN

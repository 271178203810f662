/- What lines.Next returns, for any text. Conditions: a length below 2^32 - 15, and that the cell of the library's MaxLen holds some int. -/
import Derived.Test.YtomnljigoljldaaGreatDoorLinesPlain
import Derived.Test.YtomnljigoljldaaGreatDoorShelf
import Derived.WalkKit
import Derived.WalkLawsBesides
import Derived.WalkSpells
import Derived.Lib.Hide
import Derived.Deep.QuietTactic
import Derived.BigQuiet
namespace Go.Proofs.YtomnljigoljldaaGreatDoor.LN
open Go.RowKit Mailsack

set_option maxHeartbeats 400000 in
set_option maxRecDepth 100000 in
theorem next_any (s : ByteArray) (m : Int) (w : World) (hl : s.size < 4294967281) (hm : w.cell? ⟨1, 0, none⟩ = some (.int .i64 m)) :
    Calls Tryz.prog 33 #[.string s] w fun e w' => e = .returned (.tuple #[.string ⟨(nextP s.data.toList).1.toArray⟩, .string ⟨(nextP s.data.toList).2.1.toArray⟩, .int .i64 (nextP s.data.toList).2.2]) ∧ ∃ n, w' = w.drewN n := by
  have hz := size_list s
  rcases index_cases s.data.toList [13, 10] with hi | ⟨i, hi⟩
  · have hc2 : Go.Lib.cut s.data.toList (⟨#[13, 10]⟩ : ByteArray).data.toList = (s.data.toList, [], false) := cut_miss hi
    have Hc := Lib.hid hc2
    clear hc2
    by_cases hs : s.size ≤ 512
    · rw [nextP_miss_short hi (by omega)]
      clear hi hz
      go_enter Tryz.func33, Tryz.ntmps33
      go_wp2_with fail
      refine (Tryz.strings_Cut s ⟨#[13, 10]⟩ m _ hl hm).mono ?_
      rintro e w' ⟨rfl, n, rfl⟩
      rw [Hc.out]
      go_wp2
      go_ret3
      exact ⟨rfl, n, rfl⟩
    · rw [nextP_miss_long hi (by omega)]
      clear hi hz
      have hs : 512 < s.size := by omega
      go_enter Tryz.func33, Tryz.ntmps33
      go_wp2_with fail
      refine (Tryz.strings_Cut s ⟨#[13, 10]⟩ m _ hl hm).mono ?_
      rintro e w' ⟨rfl, n, rfl⟩
      rw [Hc.out]
      go_wp2
      go_ret3
      exact ⟨rfl, n, rfl⟩
  · have hc2 : Go.Lib.cut s.data.toList (⟨#[13, 10]⟩ : ByteArray).data.toList = (s.data.toList.take i, s.data.toList.drop (i + 2), true) := cut_hit hi
    have Hc := Lib.hid hc2
    clear hc2
    have hle : i + 2 ≤ s.size := hz ▸ index_le hi
    by_cases hs : i ≤ 512
    · rw [nextP_hit_short hi hs]
      have ht : (s.data.toList.take i).length ≤ 512 := by rw [List.length_take]; omega
      clear hi hz
      go_enter Tryz.func33, Tryz.ntmps33
      go_wp2_with fail
      refine (Tryz.strings_Cut s ⟨#[13, 10]⟩ m _ hl hm).mono ?_
      rintro e w' ⟨rfl, n, rfl⟩
      rw [Hc.out]
      go_wp2
      go_ret3
      exact ⟨rfl, n, rfl⟩
    · rw [nextP_hit_long hi hs]
      have ht : 512 < (s.data.toList.take i).length := by rw [List.length_take]; omega
      clear hi hz
      go_enter Tryz.func33, Tryz.ntmps33
      go_wp2_with fail
      refine (Tryz.strings_Cut s ⟨#[13, 10]⟩ m _ hl hm).mono ?_
      rintro e w' ⟨rfl, n, rfl⟩
      rw [Hc.out]
      go_wp2
      go_ret3
      exact ⟨rfl, n, rfl⟩


end Go.Proofs.YtomnljigoljldaaGreatDoor.LN

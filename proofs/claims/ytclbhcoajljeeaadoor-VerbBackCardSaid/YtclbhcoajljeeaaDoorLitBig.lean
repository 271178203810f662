/- lines.Literal returns, for any text: the plain answer where the text is short, some answer where it is long. Conditions: a length that an int holds. -/
import Derived.Test.YtclbhcoajljeeaaDoorLinesNumber
import Derived.Lib.PathFns
namespace Go.Proofs.YtclbhcoajljeeaaDoor.LN
open Go.RowKit Mailsack

set_option maxHeartbeats 400000 in
theorem number_long (s : ByteArray) (w : World) (hl : 4 < s.size) (hs : s.size ≤ 9223372036854775807) :
    Calls Tryd.prog 24 #[.string s] w fun e w' => e = .returned (.tuple #[.int .i64 0, .bool false]) ∧ w = w' := by
  go_enter Tryd.func24, Tryd.ntmps24
  go_wp2
  go_ret2
  exact ⟨rfl, rfl⟩
theorem number_some (s : ByteArray) (w : World) (hs : s.size ≤ 9223372036854775807) :
    Calls Tryd.prog 24 #[.string s] w fun e w' => ∃ n b, e = .returned (.tuple #[.int .i64 n, .bool b]) ∧ w = w' := by
  by_cases h : 4 < s.size
  · exact (number_long s w h hs).mono fun e w' ⟨h1, h2⟩ => ⟨_, _, h1, h2⟩
  · exact (number_any s w (by omega)).mono fun e w' ⟨h1, h2⟩ => ⟨_, _, h1, h2⟩
set_option maxHeartbeats 400000 in
theorem last_big (s : ByteArray) (w : World) (hs : s.size ≤ 9223372036854775807) :
    Calls Tryd.prog 23 #[.string s, .int .u8 123] w fun e w' => e = .returned (.int .i64 (Go.Lib.Pa.lastIndexByte s.data.toList 123)) ∧ w = w' := by
  go_enter Tryd.func23, Tryd.ntmps23
  go_wp2_with fail
  refine (Tryd.bytealg_LastIndexByteString s 123 _ hs).mono ?_
  rintro e w' ⟨rfl, rfl⟩
  go_wp2
  go_ret
  exact ⟨rfl, rfl⟩
set_option maxHeartbeats 400000 in
theorem literal_some (s : ByteArray) (w : World) (hl : s.size ≤ 9223372036854775807) :
    Calls Tryd.prog 11 #[.string s] w fun e w' => ∃ t n b, e = .returned (.tuple #[.string t, .int .i64 n, .bool b]) ∧ w = w' := by
  obtain ⟨b, hb⟩ : ∃ b : ByteArray, (⟨(Lib.trimSuffix s.data.toList (⟨#[125]⟩ : ByteArray).data.toList).toArray⟩ : ByteArray) = b := ⟨_, rfl⟩
  have hbl : b.data.toList = Lib.trimSuffix s.data.toList [125] := by rw [← hb]
  have Hb := Lib.hid hb
  clear hb
  have hbs : b.size ≤ s.size := trim_size hbl
  have hbs2 : b.size ≤ 9223372036854775807 := Nat.le_trans hbs hl
  clear hbl
  obtain ⟨i, hi⟩ : ∃ i : Int, i = Go.Lib.Pa.lastIndexByte b.data.toList 123 := ⟨_, rfl⟩
  have hbd := Go.Lib.Pa.lastIndexByte_bounds b.data.toList 123
  rw [← hi, size_list] at hbd
  have Hi := Lib.hid hi
  clear hi
  generalize hu : Lib.hasSuffix s.data.toList (⟨#[125]⟩ : ByteArray).data.toList = u
  have Hu := Lib.hid hu
  clear hu
  cases u
  · go_enter Tryd.func11, Tryd.ntmps11
    go_wp2_with fail
    refine (Tryd.strings_CutSuffix s ⟨#[125]⟩ _ (by omega)).mono ?_
    rintro e w' ⟨rfl, rfl⟩
    rw [Hb.out, Hu.out]
    go_wp2
    go_ret3
    exact ⟨_, _, _, rfl, rfl⟩
  · by_cases hi0 : i < 0
    · go_enter Tryd.func11, Tryd.ntmps11
      go_wp2_with fail
      refine (Tryd.strings_CutSuffix s ⟨#[125]⟩ _ (by omega)).mono ?_
      rintro e w' ⟨rfl, rfl⟩
      rw [Hb.out, Hu.out]
      go_wp2_with fail
      refine (last_big b _ hbs2).mono ?_
      rintro e w' ⟨rfl, rfl⟩
      rw [← Hi.out]
      go_wp2
      go_ret3
      exact ⟨_, _, _, rfl, rfl⟩
    · obtain ⟨k, hk⟩ : ∃ k : Nat, i = k := ⟨i.toNat, by omega⟩
      subst hk
      have hkb : k < b.size := by omega
      have hks : k ≤ s.size := by omega
      have hes : (b.extract (k + 1) b.size).size ≤ 9223372036854775807 := by rw [ext_size]; omega
      clear hbd hi0
      go_enter Tryd.func11, Tryd.ntmps11
      go_wp2_with fail
      refine (Tryd.strings_CutSuffix s ⟨#[125]⟩ _ (by omega)).mono ?_
      rintro e w' ⟨rfl, rfl⟩
      rw [Hb.out, Hu.out]
      go_wp2_with fail
      refine (last_big b _ hbs2).mono ?_
      rintro e w' ⟨rfl, rfl⟩
      rw [← Hi.out]
      go_wp2_with fail
      refine (number_some (b.extract (k + 1) b.size) _ hes).mono ?_
      rintro e w' ⟨n, v, rfl, rfl⟩
      cases v
      · go_wp2
        go_ret3
        exact ⟨_, _, _, rfl, rfl⟩
      · go_wp2
        go_ret3
        exact ⟨_, _, _, rfl, rfl⟩
end Go.Proofs.YtclbhcoajljeeaaDoor.LN

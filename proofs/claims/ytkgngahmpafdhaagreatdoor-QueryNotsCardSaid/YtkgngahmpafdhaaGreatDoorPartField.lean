/- What the fields of a head are: part.fields. Conditions: lengths, and that the cell of the library's MaxLen holds some int. -/
import Derived.Test.YtkgngahmpafdhaaGreatDoorPartRows
import Derived.Test.YtkgngahmpafdhaaGreatDoorPartFields
import Derived.Shelf.Strings.SlTrimAscii
namespace Go.Proofs.YtkgngahmpafdhaaGreatDoor.PT
open Go.RowKit Mailsack MM

theorem trim_any (s : ByteArray) (w : World) (hs : s.size ≤ 9223372036854775807) :
    Calls Tryz.prog 74 #[.string s, .string ⟨#[32, 9]⟩] w fun e w' => e = .returned (strV (Lib.trimS s.data.toList [32, 9])) ∧ Below w.heap.size w w' :=
  Any.strings_Trim_laid Tryz.lays160 (by kernel_rfl) s ⟨#[32, 9]⟩ w hs (by decide) (ascii_of_all (by decide))

theorem cont_get (s : ByteArray) (h : 0 < s.size) : isCont s.data.toList = (s[0] == 32 || s[0] == 9) := by
  rcases s with ⟨⟨l⟩⟩
  rcases l with _ | ⟨c, r⟩
  · exact absurd h (Nat.lt_irrefl _)
  · rfl
theorem some_bytes (s : ByteArray) (h : 0 < s.size) : s.toList.isEmpty = false := by
  rw [ByteArray.toList_eq, List.isEmpty_eq_false_iff, ne_eq, ← List.length_eq_zero_iff, size_list]; omega
theorem cont_any (s : ByteArray) (w : World) :
    Calls Tryz.prog 72 #[.string s] w fun e w' => e = .returned (.bool (isCont s.data.toList)) ∧ w = w' := by
  by_cases h0 : 0 < s.size
  · have Hc := Lib.hid (cont_get s h0)
    have e1 := some_bytes s h0
    have e2 : (!s.toList.isEmpty) = true := by rw [e1]; rfl
    have hi : (0 : Int) < (s.size : Int) := by omega
    by_cases h32 : s[0] = 32
    · have b1 : ((s[0].toNat : Int) == 32) = true := by rw [h32]; rfl
      have Hv := Lib.hid (show isCont s.data.toList = true by rw [Hc.out, h32]; rfl)
      clear h32 Hc
      rw [Hv.out]
      go_enter Tryz.func72, Tryz.ntmps72
      go_wp2
      go_ret
      exact ⟨rfl, rfl⟩
    · have b1 : ((s[0].toNat : Int) == 32) = false := by rw [beq_eq_false_iff_ne]; intro e; exact h32 ((byte_eq (by decide)).1 e)
      have d1 : (s[0] == 32) = false := by simpa using h32
      by_cases h9 : s[0] = 9
      · have b2 : ((s[0].toNat : Int) == 9) = true := by rw [h9]; rfl
        have Hv := Lib.hid (show isCont s.data.toList = true by rw [Hc.out, h9]; rfl)
        clear h32 h9 d1 Hc
        rw [Hv.out]
        go_enter Tryz.func72, Tryz.ntmps72
        go_wp2
        go_ret
        exact ⟨rfl, rfl⟩
      · have b2 : ((s[0].toNat : Int) == 9) = false := by rw [beq_eq_false_iff_ne]; intro e; exact h9 ((byte_eq (by decide)).1 e)
        have d2 : (s[0] == 9) = false := by simpa using h9
        have Hv := Lib.hid (show isCont s.data.toList = false by rw [Hc.out, d1, d2]; rfl)
        clear h32 h9 d1 d2 Hc
        rw [Hv.out]
        go_enter Tryz.func72, Tryz.ntmps72
        go_wp2
        go_ret
        exact ⟨rfl, rfl⟩
  · have : s = ⟨#[]⟩ := by
      rcases s with ⟨⟨l⟩⟩
      rcases l with _ | ⟨c, r⟩
      · rfl
      · exact absurd (Nat.succ_pos _) h0
    subst this
    go_enter Tryz.func72, Tryz.ntmps72
    go_wp2
    go_ret
    exact ⟨rfl, rfl⟩
end Go.Proofs.YtkgngahmpafdhaaGreatDoor.PT

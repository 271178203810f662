/- What unquote of layer 21 returns. Conditions: lengths. -/
import Derived.Test.YtomnljigoljldaaGreatDoorVerbAdd
import Derived.OwnWalk
namespace Go.Proofs.YtomnljigoljldaaGreatDoor.VB
open Go.RowKit Mailsack MM BU

def unqV (sz : Nat) : Option (Bs × Nat) → Value
  | none => .tuple #[.string ⟨#[]⟩, .int .i64 0, .bool false]
  | some (q, n) => .tuple #[strV q, .int .i64 ((sz - n : Nat) : Int), .bool true]
theorem unqV_some {sz k : Nat} {acc : Bs} (h : k < sz) : unqV sz (some (acc, sz - (k + 1))) = .tuple #[strV acc, .int .i64 ((k : Int) + 1), .bool true] := by
  unfold unqV
  simp only
  rw [show ((sz - (sz - (k + 1)) : Nat) : Int) = (k : Int) + 1 by omega]
theorem drop_get (s : ByteArray) (k : Nat) (h : k < s.size) : s.data.toList.drop k = s[k] :: s.data.toList.drop (k + 1) := by
  rw [List.drop_eq_getElem_cons (by rw [size_list]; exact h)]; rfl
theorem drop_end (s : ByteArray) (k : Nat) (h : s.size ≤ k) : s.data.toList.drop k = [] := by
  rw [List.drop_eq_nil_iff, size_list]; exact h
theorem drop_len (s : ByteArray) (k : Nat) : (s.data.toList.drop k).length = s.size - k := by rw [List.length_drop, size_list]

set_option maxHeartbeats 4000000 in
set_option maxRecDepth 100000 in
theorem unq_any (s : ByteArray) (k0 : Nat) (w : World) (hs : s.size ≤ 1000000) (hk0 : k0 ≤ s.size) :
    Calls Tryz.prog 207 #[.string s, .int .i64 k0] w fun e w' => e = .returned (unqV s.size (unqA [] (s.data.toList.drop k0))) ∧ Below w.heap.size w w' := by
  generalize hR : unqA [] (s.data.toList.drop k0) = R
  have h0 := Lib.hid hR
  clear hR
  have hq0 := Lib.hid (Lib.fresh_isBuilder 90 5 w)
  go_enter Tryz.func207, Tryz.ntmps207
  go_wp2_with fail
  go_loopw [1] (fun iv wr => ∃ (k : Nat) (acc : Bs), k ≤ s.size ∧ acc.length ≤ k ∧ iv = .int .i64 k ∧ Hid (unqA acc (s.data.toList.drop k) = R) ∧ Hid (Bld w.heap.size w.heap.size acc wr ∧ Below w.heap.size w wr)) (fun iv _ => s.size - (intOf iv).toNat)
  case atStart => exact ⟨k0, [], hk0, Nat.zero_le _, rfl, h0, Lib.hid ⟨hq0.out, (Below.refl _ _).alloc (Nat.le_refl _) _⟩⟩
  case round =>
    obtain ⟨k, acc, hk, hacc, rfl, HR0, hr⟩ := hrel
    have hR := HR0.out
    clear hq0 h0 HR0
    by_cases hlt : k < s.size
    · rw [drop_get s k hlt] at hR
      unfold unqA at hR
      by_cases h34 : s[k] = 34
      · rw [if_pos h34, drop_len] at hR
        have HR := Lib.hid hR.symm
        have b1 : ((s[k].toNat : Int) == 34) = true := by rw [h34]; rfl
        clear hR h34
        go_wp2_with fail
        refine (Tryz.Builder_String_any w.heap.size w.heap.size _ _ hr.out.1 hr.out.2.size).mono ?_
        rintro e w5 ⟨rfl, hb5⟩
        go_wp2
        go_ret3
        refine ⟨?_, hr.out.2.trans hb5⟩
        rw [HR.out]
        rw [unqV_some hlt]
        rfl
      · rw [if_neg h34] at hR
        have b1 : ((s[k].toNat : Int) == 34) = false := by rw [beq_eq_false_iff_ne]; intro e; exact h34 ((byte_eq (by decide)).1 e)
        clear h34
        by_cases h92 : s[k] = 92
        · rw [if_pos h92] at hR
          have b2 : ((s[k].toNat : Int) == 92) = true := by rw [h92]; rfl
          clear h92
          by_cases hl2 : k + 1 < s.size
          · rw [drop_get s (k + 1) hl2] at hR
            simp only at hR
            have c0 : (((k : Int) + 1) == (s.size : Int)) = false := by rw [beq_eq_false_iff_ne]; omega
            by_cases he : s[k + 1] = 92 ∨ s[k + 1] = 34
            · rw [if_pos he] at hR
              have HR := Lib.hid hR
              clear hR
              rcases he with he | he
              · have d1 : ((s[k + 1].toNat : Int) == 92) = true := by rw [he]; rfl
                have d1' : ((s[k + 1].toNat : Int) != 92) = false := by rw [he]; rfl
                clear he
                go_wp2_with fail
                refine (writeByte_any w.heap.size w.heap.size acc s[k + 1] _ hr.out.1 (by omega) hr.out.2.size).mono ?_
                rintro e w4 ⟨rfl, hq4, hb4⟩
                have h4 : Hid (Bld w.heap.size w.heap.size (acc ++ [s[k + 1]]) w4 ∧ Below w.heap.size w w4) := Lib.hid ⟨hq4, hr.out.2.trans hb4⟩
                clear hq4 hb4
                go_wp2
                go_roundw
                case rel => exact ⟨k + 1 + 1, acc ++ [s[k + 1]], by omega, by simp; omega, by go_num, HR, h4⟩
                case measure => simp [intOf]; omega
              · have d1 : ((s[k + 1].toNat : Int) == 92) = false := by rw [he]; rfl
                have d1' : ((s[k + 1].toNat : Int) != 92) = true := by rw [he]; rfl
                have d2 : ((s[k + 1].toNat : Int) == 34) = true := by rw [he]; rfl
                have d2' : ((s[k + 1].toNat : Int) != 34) = false := by rw [he]; rfl
                clear he
                go_wp2_with fail
                refine (writeByte_any w.heap.size w.heap.size acc s[k + 1] _ hr.out.1 (by omega) hr.out.2.size).mono ?_
                rintro e w4 ⟨rfl, hq4, hb4⟩
                have h4 : Hid (Bld w.heap.size w.heap.size (acc ++ [s[k + 1]]) w4 ∧ Below w.heap.size w w4) := Lib.hid ⟨hq4, hr.out.2.trans hb4⟩
                clear hq4 hb4
                go_wp2
                go_roundw
                case rel => exact ⟨k + 1 + 1, acc ++ [s[k + 1]], by omega, by simp; omega, by go_num, HR, h4⟩
                case measure => simp [intOf]; omega
            · rw [if_neg he] at hR
              have HR := Lib.hid hR.symm
              have d1 : ((s[k + 1].toNat : Int) == 92) = false := by rw [beq_eq_false_iff_ne]; intro e; exact he (.inl ((byte_eq (by decide)).1 e))
              have d2 : ((s[k + 1].toNat : Int) == 34) = false := by rw [beq_eq_false_iff_ne]; intro e; exact he (.inr ((byte_eq (by decide)).1 e))
              have d1' : ((s[k + 1].toNat : Int) != 92) = true := by unfold bne; rw [d1]; rfl
              have d2' : ((s[k + 1].toNat : Int) != 34) = true := by unfold bne; rw [d2]; rfl
              clear hR he
              go_wp2
              go_ret3
              refine ⟨?_, hr.out.2⟩
              rw [HR.out]
              rfl
          · rw [drop_end s (k + 1) (by omega)] at hR
            simp only at hR
            have HR := Lib.hid hR.symm
            have c0 : (((k : Int) + 1) == (s.size : Int)) = true := by rw [beq_iff_eq]; omega
            clear hR
            go_wp2
            go_ret3
            refine ⟨?_, hr.out.2⟩
            rw [HR.out]
            rfl
        · rw [if_neg h92] at hR
          have b2 : ((s[k].toNat : Int) == 92) = false := by rw [beq_eq_false_iff_ne]; intro e; exact h92 ((byte_eq (by decide)).1 e)
          have HR := Lib.hid hR
          clear h92 hR
          go_wp2_with fail
          refine (writeByte_any w.heap.size w.heap.size acc s[k] _ hr.out.1 (by omega) hr.out.2.size).mono ?_
          rintro e w4 ⟨rfl, hq4, hb4⟩
          have h4 : Hid (Bld w.heap.size w.heap.size (acc ++ [s[k]]) w4 ∧ Below w.heap.size w w4) := Lib.hid ⟨hq4, hr.out.2.trans hb4⟩
          clear hq4 hb4
          go_wp2
          go_roundw
          case rel => exact ⟨k + 1, acc ++ [s[k]], by omega, by simp; omega, by go_num, HR, h4⟩
          case measure => simp [intOf]; omega
    · rw [drop_end s k (by omega)] at hR
      unfold unqA at hR
      have HR := Lib.hid hR.symm
      clear hR
      go_wp2
      go_ret3
      refine ⟨?_, hr.out.2⟩
      rw [HR.out]
      rfl
end Go.Proofs.YtomnljigoljldaaGreatDoor.VB

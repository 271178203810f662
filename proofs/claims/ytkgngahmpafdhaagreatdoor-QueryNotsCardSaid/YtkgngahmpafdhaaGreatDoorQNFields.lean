/- What the document's Rows and Fields of layer 19 return, as far as QueryNots needs it: rows and fields of some texts, with their lengths. Conditions: lengths. -/
import Derived.Test.YtkgngahmpafdhaaGreatDoorQNSmall
import Derived.Test.YtkgngahmpafdhaaGreatDoorPartRef
import Derived.Test.YtkgngahmpafdhaaGreatDoorPartRows
import Derived.Test.YtkgngahmpafdhaaGreatDoorPartGet
namespace Go.Proofs.YtkgngahmpafdhaaGreatDoor.QN
open Go.RowKit Mailsack MM PT

/-- texts that the call has made -/
def SomeOwn (N M : Nat) (w : World) (e : Ending) (w' : World) : Prop := ∃ A c, ∃ L : List Bs, e = .returned (.slice A L.length c) ∧ OwnS w' w.heap.size (.slice A L.length c) L ∧ L.length ≤ N ∧ (∀ x ∈ L, x.length ≤ M) ∧ Below w.heap.size w w'
structure RwK (s : ByteArray) (w : World) (k : Nat) (lv : Value) (L : List Bs) (wr : World) : Prop where
  own : OwnS wr w.heap.size lv L
  bel : Below w.heap.size w wr
  len : L.length ≤ k
  each : ∀ x ∈ L, x.length ≤ s.size
theorem take_len (s : ByteArray) (a n : Nat) : ((s.data.toList.drop a).take n).length ≤ s.size := by
  rw [List.length_take, List.length_drop, size_list]; omega

set_option maxHeartbeats 1000000 in
set_option maxRecDepth 100000 in
theorem rows_own (s : ByteArray) (w : World) (hs : s.size < 4294967281) :
    Calls Tryz.prog 55 #[.string s] w (SomeOwn (s.size + 1) s.size w) := by
  obtain ⟨i0, hi, hz0, hz1, hz2⟩ := info_parts infoStr
  go_enter Tryz.func55, Tryz.ntmps55
  go_wp2
  go_loopw [3, 4, 5] (fun lv fv iv wr => ∃ (fr k : Nat) (L : List Bs), k ≤ s.size ∧ fr ≤ s.size ∧ fv = .int .i64 fr ∧ iv = .int .i64 k ∧ Hid (RwK s w k lv L wr)) (fun _ _ iv _ => s.size - (intOf iv).toNat)
  case atStart => exact ⟨0, 0, [], Nat.zero_le _, Nat.zero_le _, rfl, rfl, Lib.hid ⟨OwnS.nil _ _, Below.refl _ _, Nat.le_refl _, by simp⟩⟩
  case round =>
    obtain ⟨fr, k, L, hk, hfk, rfl, rfl, hr⟩ := hrel
    have hlen := hr.out.len
    by_cases hlt : k < s.size
    · have hrel2 := Lib.hid ((fun lv (h : RwK s w k lv L wr) => (⟨h.own, h.bel, by have := h.len; omega, h.each⟩ : RwK s w (k + 1) lv L wr)) _ hr.out)
      by_cases h1 : fr ≤ k
      · by_cases h2 : k + 1 < s.size
        · by_cases h13 : ((s[k].toNat : Int) == 13) = true
          · by_cases h10 : ((s[k + 1].toNat : Int) == 10) = true
            · have Hx := Lib.hid (ext_any s fr k)
              go_wp2_with (at_builtin; refine wpList_append_lies _ rfl _ _ 22 rfl w.heap.size 9 i0 (.string ⟨#[]⟩) 1 16 Tryz.underlying22 hi hz0 hz1 hz2 rfl (by decide) _ _ _ rfl (hr.out.own.row.alloc _) ⟨wr.heap.size, 0, none⟩ 1 1 [.string (s.extract fr k)] rfl rfl (cell_one_new _ _ _) (one_cell_bytes _) (by decide) (by unfold maxLen; omega) (by omega) (by have := hr.out.bel.size; simp; omega) (wr.heap.size + 1) (by simp) ?_; intro g cap w1 hown hgrow hat hlt1)
              rw [Hx.out] at hown
              have hp := push_str hr.out.own hown hgrow hr.out.bel
              have h9 : Hid (RwK s w (k + 1) (.slice (some ⟨g, 0, none⟩) (L.length + 1) cap) (L ++ [(s.data.toList.drop fr).take (k - fr)]) w1) := Lib.hid ⟨hp.1, hp.2, by simp; omega, fun x hx => by
                rcases List.mem_append.1 hx with hx | hx
                · exact hr.out.each x hx
                · simp only [List.mem_singleton] at hx; subst hx; exact take_len s fr (k - fr)⟩
              clear hown hgrow hp
              go_roundw
              case rel => exact ⟨k + 2, k + 1, _, by omega, by omega, by go_num, by go_num, h9⟩
              case measure => simp [intOf]; omega
            · have h10 : ((s[k + 1].toNat : Int) == 10) = false := by simpa using h10
              go_wp2
              go_roundw
              case rel => exact ⟨fr, k + 1, L, by omega, by omega, rfl, by go_num, hrel2⟩
              case measure => simp [intOf]; omega
          · have h13 : ((s[k].toNat : Int) == 13) = false := by simpa using h13
            go_wp2
            go_roundw
            case rel => exact ⟨fr, k + 1, L, by omega, by omega, rfl, by go_num, hrel2⟩
            case measure => simp [intOf]; omega
        · go_wp2
          go_roundw
          case rel => exact ⟨fr, k + 1, L, by omega, by omega, rfl, by go_num, hrel2⟩
          case measure => simp [intOf]; omega
      · go_wp2
        go_roundw
        case rel => exact ⟨fr, k + 1, L, by omega, by omega, rfl, by go_num, hrel2⟩
        case measure => simp [intOf]; omega
    · have Hx := Lib.hid (ext_drop s fr)
      have hzs := size_list s
      go_wp2_with (at_builtin; refine wpList_append_lies _ rfl _ _ 22 rfl w.heap.size 9 i0 (.string ⟨#[]⟩) 1 16 Tryz.underlying22 hi hz0 hz1 hz2 rfl (by decide) _ _ _ rfl (hr.out.own.row.alloc _) ⟨wr.heap.size, 0, none⟩ 1 1 [.string (s.extract fr s.size)] rfl rfl (cell_one_new _ _ _) (one_cell_bytes _) (by decide) (by unfold maxLen; omega) (by omega) (by have := hr.out.bel.size; simp; omega) (wr.heap.size + 1) (by simp) ?_; intro g cap w1 hown hgrow hat hlt1)
      rw [Hx.out] at hown
      have hp := push_str hr.out.own hown hgrow hr.out.bel
      go_ret
      refine ⟨_, cap, L ++ [s.data.toList.drop fr], by rw [List.length_append]; rfl, by rw [List.length_append]; exact hp.1, by simp; omega, fun x hx => ?_, hp.2⟩
      rcases List.mem_append.1 hx with hx | hx
      · exact hr.out.each x hx
      · simp only [List.mem_singleton] at hx; subst hx; rw [List.length_drop]; omega

set_option maxHeartbeats 1000000 in
set_option maxRecDepth 100000 in
theorem blank_any (n : Int) (b : Bool) (h : (n == 32 || n == 9) = b) (w : World) : Calls Tryz.prog 56 #[.int .u8 n] w fun e w' => e = .returned (.bool b) ∧ w = w' := by
  subst h
  cases h1 : (n == 32) <;> cases h2 : (n == 9)
  all_goals
    go_enter Tryz.func56, Tryz.ntmps56
    go_wp2
    go_ret
    exact ⟨rfl, rfl⟩
end Go.Proofs.YtkgngahmpafdhaaGreatDoor.QN

/- What the reference's Literal returns, for any text. No condition but the text's length. -/
import Derived.Test.YtmjmabpcpicemaaLinesLitPlain
import Derived.Test.YtmjmabpcpicemaaShelf
import Derived.WalkKit
import Derived.WalkLawsBesides
import Derived.WalkSpells
import Derived.Lib.Hide
import Derived.Deep.QuietTactic
import Derived.BigQuiet
namespace Go.Proofs.Ytmjmabpcpicemaa.LN
open Go.RowKit Mailsack

set_option maxHeartbeats 2000000 in
theorem rliteral_any (s : ByteArray) (w : World) (hl : s.size ≤ 9223372036854775807) :
    Calls Try.prog 11 #[.string s] w fun e w' => e = .returned (.tuple #[.int .i64 (rlitR s.data.toList).1, .int .i64 (rlitR s.data.toList).2]) ∧ w = w' := by
  have hz := size_list s
  by_cases h3 : s.size < 3
  · rw [rlitR_none (rlit_short (hz.symm ▸ h3))]
    clear hz
    go_enter Try.func11, Try.ntmps11
    go_wp2
    go_ret2
    exact ⟨rfl, rfl⟩
  have h3 : 3 ≤ s.size := by clear hz; omega
  have hlt : s.size - 1 < s.size := by clear hz; omega
  by_cases he : ((s[s.size - 1]'hlt).toNat : Int) = 125
  · have He : (((s[s.size - 1]'hlt).toNat : Int) != 125) = false := by simpa using he
    have Hlast := Lib.hid (rlit_last hlt he)
    have Hz := Lib.hid hz
    clear he hz
    go_enter Try.func11, Try.ntmps11
    go_wp2
    go_loop [4] (fun t => ∃ z : Int, -1 ≤ z ∧ z + 1 < s.size ∧ t = .int .i64 z ∧ Hid (digBack s.data.toList z)) (fun t => (intOf t + 1).toNat)
    case atStart => exact ⟨(s.size : Int) - 2, by omega, by omega, rfl, Lib.hid (by have := digBack_start (l := s.data.toList); rw [Hz.out] at this; exact this)⟩
    case round =>
      obtain ⟨z, hz1, hz2, rfl, hd⟩ := hrel
      by_cases hneg : z = -1
      · subst hneg
        have Hn := Lib.hid (rlitR_none (rlit_neg hd.out))
        go_wp2
        go_ret2
        rw [Hn.out]
        exact ⟨rfl, rfl⟩
      obtain ⟨a, rfl⟩ : ∃ a : Nat, z = a := ⟨z.toNat, by omega⟩
      have ha : a < s.size := by omega
      have ha1 : a + 1 < s.data.toList.length := by rw [Hz.out]; omega
      clear hneg
      by_cases hdg : 48 ≤ ((s[a]'ha).toNat : Int) ∧ ((s[a]'ha).toNat : Int) ≤ 57
      · have Hd2 := Lib.hid (digBack_step hd.out ha1 (dig_iff.2 hdg))
        obtain ⟨hd1, hd2⟩ := hdg
        go_wp2
        go_round
        case rel => exact ⟨(a : Int) - 1, by omega, by omega, rfl, Hd2⟩
        case measure => first | (simp [intOf]; done) | (simp [intOf]; omega)
      have hnd : isDig s.data.toList[a] = false := isDig_no hdg
      by_cases hbr : ((s[a]'ha).toNat : Int) = 123
      · have hlit := rlit_brace ha1 hbr Hlast.out hd.out
        have Hdm := Lib.hid (mid_dig hd.out)
        have hml : (mid s.data.toList a).length = s.size - 2 - a := by rw [mid_len, Hz.out]
        have Hb : (((s[a]'ha).toNat : Int) != 123) = false := by simpa using hbr
        have hb57 : 57 < ((s[a]'ha).toNat : Int) := by omega
        have h2sa : 2 + a ≤ s.size := by omega
        clear hnd hbr hdg hd
        by_cases hm1 : s.size < 3 + a
        · rw [if_neg (by rw [goodNum_short (by omega)]; decide)] at hlit
          have Hn := Lib.hid (rlitR_none hlit)
          clear hlit hml
          go_wp2
          go_ret2
          rw [Hn.out]
          exact ⟨rfl, rfl⟩
        by_cases hm4 : 6 + a < s.size
        · rw [if_neg (by rw [goodNum_long (by omega)]; decide)] at hlit
          have Hn := Lib.hid (rlitR_none hlit)
          clear hlit hml
          go_wp2
          go_ret2
          rw [Hn.out]
          exact ⟨rfl, rfl⟩
        have hp : a + 1 < s.size := by clear hml; omega
        have Hfirst := Lib.hid (show (mid s.data.toList a)[0]? = some (s[a + 1]'hp) from mid_get (k := 0) (by rw [Hz.out]; omega))
        by_cases h0 : 3 + a < s.size ∧ ((s[a + 1]'hp).toNat : Int) = 48
        · rw [if_neg (by rw [mid_zero Hfirst.out (by rw [hml]; omega) h0.2]; decide)] at hlit
          have Hn := Lib.hid (rlitR_none hlit)
          obtain ⟨h01, h02⟩ := h0
          clear hlit hml
          go_wp2
          go_ret2
          rw [Hn.out]
          exact ⟨rfl, rfl⟩
        have hok : s.size ≤ 3 + a ∨ (3 + a < s.size ∧ (((s[a + 1]'hp).toNat : Int) == 48) = false) := by
          by_cases e : s.size ≤ 3 + a
          · exact .inl e
          · exact .inr ⟨by omega, by simpa using fun e' => h0 ⟨by omega, e'⟩⟩
        rw [if_pos (mid_good Hfirst.out (by omega) (by omega) (by rcases hok with e | e; exact .inl (by omega); exact .inr (by simpa using e.2)) Hdm.out)] at hlit
        have Hn := Lib.hid (rlitR_some hlit)
        have Hml := Lib.hid hml
        clear hlit h0 hml
        rcases hok with h5 | ⟨h5, h6⟩
        all_goals
          go_wp2
          go_loop [6, 7] (fun n i => ∃ j : Nat, a + 1 ≤ j ∧ j + 1 ≤ s.size ∧ i = .int .i64 j ∧ n = .int .i64 (numP ((mid s.data.toList a).take (j - (a + 1))))) (fun _ i => s.size - (intOf i).toNat)
          case atStart => exact ⟨a + 1, Nat.le_refl _, by omega, by go_num, by simp [numP]⟩
          case round =>
            obtain ⟨j, hj1, hj2, rfl, rfl⟩ := hrel
            have hn := numP_small (fun c hc => Hdm.out c (List.mem_of_mem_take hc)) (show ((mid s.data.toList a).take (j - (a + 1))).length ≤ 4 by rw [List.length_take, Hml.out]; omega)
            by_cases hjl : j + 1 < s.size
            · have hjs : j < s.size := by omega
              have hdj : isDig (s[j]'hjs) = true := Hdm.out _ (mid_mem (l := s.data.toList) hj1 (by rw [Hz.out]; exact hjl))
              have hdj := dig_iff.1 hdj
              have Hs := Lib.hid (mid_num (l := s.data.toList) hj1 (by rw [Hz.out]; exact hjl))
              obtain ⟨hd1, hd2⟩ := hdj
              go_wp2
              go_round
              case rel => exact ⟨j + 1, by omega, by omega, by go_num, congrArg (Value.int .i64) Hs.out.symm⟩
              case measure => first | (simp [intOf]; done) | (simp [intOf]; omega)
            · have e : (mid s.data.toList a).take (j - (a + 1)) = mid s.data.toList a := List.take_of_length_le (by rw [Hml.out]; omega)
              rw [e] at hn ⊢
              clear e
              go_wp2
              go_ret2
              rw [Hn.out]
              exact ⟨rfl, rfl⟩
      · have Hn := Lib.hid (rlitR_none (rlit_other ha1 hnd hbr hd.out))
        have Hb : (((s[a]'ha).toNat : Int) != 123) = true := by simpa using hbr
        clear hnd hbr
        have hdg : ((s[a]'ha).toNat : Int) < 48 ∨ 57 < ((s[a]'ha).toNat : Int) := by omega
        rcases hdg with hdg | hdg
        · go_wp2
          go_ret2
          rw [Hn.out]
          exact ⟨rfl, rfl⟩
        · go_wp2
          go_ret2
          rw [Hn.out]
          exact ⟨rfl, rfl⟩
  · rw [rlitR_none (rlit_noend hlt he)]
    have He : (((s[s.size - 1]'hlt).toNat : Int) != 125) = true := by simpa using he
    clear hz he
    go_enter Try.func11, Try.ntmps11
    go_wp2
    go_ret2
    exact ⟨rfl, rfl⟩
end Go.Proofs.Ytmjmabpcpicemaa.LN

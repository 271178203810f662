/- What verb.Quote returns, for any text. Conditions: the text's length, and, where it is not plain, that the library's table of powers lies as its text lays it. -/
import Derived.Test.YtomnljigoljldaaGreatDoorVerbFns
import Derived.Lib.AppendIntMem
import Derived.Lib.LaidTab
import Derived.Deep.Cut
namespace Go.Proofs.YtomnljigoljldaaGreatDoor.VB
open Go.RowKit Mailsack MM BU

/-- the library's table of powers -/
abbrev Tab (w : World) : Prop := Lib.TabIs Tryz.prog w "internal/strconv.uint64pow10" .u64 Lib.pow10Tab
theorem itoa_nat (n : Nat) : Lib.itoa (n : Int) = Lib.decDigits n := by
  unfold Lib.itoa; rw [if_neg (by omega)]; rfl
theorem digits_len {n : Nat} (h : n ≤ 1000000) : (Lib.decDigits n).length ≤ 7 := by
  rw [Lib.decDigits_length]
  rcases Nat.lt_or_ge (Lib.nDigits n) 8 with h1 | h1
  · omega
  · exfalso
    have key : ∀ k u : Nat, k < Lib.nDigits u → 0 < k → 10 ^ k ≤ u := by
      intro k
      induction k with
      | zero => intro u _ h; omega
      | succ k ih =>
        intro u hu _
        by_cases h10 : u < 10
        · rw [Lib.nDigits_small h10] at hu; omega
        · rw [Lib.nDigits_big h10] at hu
          by_cases hk : k = 0
          · subst hk; simp; omega
          · have := ih (u / 10) (by omega) (by omega)
            rw [Nat.pow_succ]; omega
    have := key 7 n (by omega) (by decide)
    have h7 : 10 ^ 7 = 10000000 := by decide
    omega
theorem bytes_app (a b : Bs) : (⟨a.toArray⟩ : ByteArray) ++ ⟨b.toArray⟩ = ⟨(a ++ b).toArray⟩ := by
  have : ((⟨a.toArray⟩ : ByteArray) ++ ⟨b.toArray⟩).data = (a ++ b).toArray := by rw [ByteArray.data_append]; simp
  generalize (⟨a.toArray⟩ : ByteArray) ++ ⟨b.toArray⟩ = c at this
  cases c
  simp only at this
  rw [this]
theorem str_of (s : ByteArray) : strV s.data.toList = .string s := rfl
theorem isWord_iff (l : Bs) : isWord l = (decide (0 < l.length) && decide (wordLen l = l.length)) := by
  unfold isWord
  congr 1
  rw [Bool.eq_iff_iff, decide_eq_true_iff]
  exact (wordLen_all l).symm

theorem bld_below {B b : Nat} {l : Bs} {w : World} (h : Bld B b l w) : b < w.heap.size := by
  rcases h with h | h
  · exact h.lt
  · exact h.lt

/-- in the midst of a quoted text -/
structure QI (s : ByteArray) (w1 : World) (k : Nat) (wr : World) : Prop where
  bld : Bld w1.heap.size w1.heap.size ([34] ++ escP (s.data.toList.take k)) wr
  bel : Below w1.heap.size w1 wr

set_option maxHeartbeats 2000000 in
set_option maxRecDepth 100000 in
theorem quote_any (s : ByteArray) (w : World) (hs : s.size ≤ 1000000) (htab : plainP s.data.toList = false → Tab w) :
    Calls Tryz.prog 229 #[.string s] w fun e w' => e = .returned (strV (quoteP s.data.toList)) ∧ Below w.heap.size w w' := by
  cases hp : plainP s.data.toList
  · have Ht := Lib.hid (htab hp)
    have Hp := Lib.hid hp
    have E1 := printable_any s
    rw [hp] at E1
    replace E1 := Lib.hid E1
    have hq : quoteP s.data.toList = [123] ++ Lib.decDigits s.size ++ [125, 13, 10] ++ s.data.toList := by unfold quoteP; rw [if_pos hp, size_list]
    have hd := digits_len hs
    have HQ : Hid (strV (quoteP s.data.toList) = .string ((⟨#[123]⟩ : ByteArray) ++ ⟨(Lib.decDigits s.size).toArray⟩ ++ ⟨#[125, 13, 10]⟩ ++ s)) := Lib.hid (by
      rw [hq]
      conv => rhs; rw [show s = ⟨s.data.toList.toArray⟩ from rfl]
      rw [show (⟨#[123]⟩ : ByteArray) = ⟨([123] : Bs).toArray⟩ from rfl, show (⟨#[125, 13, 10]⟩ : ByteArray) = ⟨([125, 13, 10] : Bs).toArray⟩ from rfl, bytes_app, bytes_app, bytes_app])
    have HI := Lib.hid (itoa_nat s.size)
    generalize hD : (⟨(Lib.decDigits s.size).toArray⟩ : ByteArray) = D at HQ
    have hDz : D.size ≤ 7 := by rw [← hD]; exact hd
    have HD := Lib.hid hD
    clear htab hp hq hd hD
    go_enter Tryz.func229, Tryz.ntmps229
    go_wp2_with fail
    refine (E1.out _ hs).mono ?_
    rintro e w1 ⟨rfl, hw1⟩
    subst hw1
    go_wp2_with fail
    refine (Tryz.strconv_Itoa (s.size : Int) (by omega) (by omega) _ Ht.out).mono ?_
    rw [HI.out, HD.out]
    rintro e w2 ⟨rfl, k2, os2, hw2⟩
    have hb2 : Below w.heap.size w w2 := by subst hw2; exact Lib.below_grow _ _ (Nat.le_refl _) _ _
    have big1 : ¬ 9223372036854775807 < 1 + D.size := by omega
    have big2 : ¬ 9223372036854775807 < 1 + D.size + 3 := by omega
    have big3 : ¬ 9223372036854775807 < 1 + D.size + 3 + s.size := by omega
    clear hw2
    go_wp2
    go_ret
    refine ⟨?_, hb2⟩
    rw [HQ.out]
    rfl
  · have E1 := printable_any s
    rw [hp] at E1
    replace E1 := Lib.hid E1
    have E2 := Lib.hid (fun w => word_any s w hs hp)
    have hwl := wordLen_le s.data.toList
    rw [size_list] at hwl
    cases hw : isWord s.data.toList
    · have HQ := Lib.hid (show quoteP s.data.toList = [34] ++ escP s.data.toList ++ [34] by unfold quoteP; rw [if_neg (by rw [hp]; simp), if_neg (by rw [hw]; simp)])
      by_cases h0 : 0 < s.size
      · have d1 : s.toList.isEmpty = false := by rw [ByteArray.toList_eq, List.isEmpty_eq_false_iff, ne_eq, ← List.length_eq_zero_iff, size_list]; omega
        have d2 : (!s.toList.isEmpty) = true := by rw [d1]; rfl
        have hne : ¬ wordLen s.data.toList = s.size := by
          rw [isWord_iff, size_list] at hw
          simp [h0] at hw
          exact hw
        generalize wordLen s.data.toList = n at E2 hwl hne
        have b0 : ((n : Int) == (s.size : Int)) = false := by simp; omega
        clear hw hp htab hne
        go_enter Tryz.func229, Tryz.ntmps229
        go_wp2_with fail
        refine (E1.out _ hs).mono ?_
        rintro e w1 ⟨rfl, hw1⟩
        subst hw1
        go_wp2_with fail
        refine (E2.out _).mono ?_
        rintro e w1 ⟨rfl, hb1⟩
        have HB1 := Lib.hid hb1
        clear hb1
        go_upto_region 6 with fail
        have hq0 := Lib.hid (Lib.fresh_isBuilder 90 5 w1)
        have hz0 : w1.heap.size ≤ (w1.alloc (.cells #[.pointer none, .slice none 0 0] 90)).heap.size := by simp
        go_wp2_with fail
        refine (writeByte_any w1.heap.size w1.heap.size [] 34 _ hq0.out (by decide) hz0).mono ?_
        rintro e w2 ⟨rfl, hq2, hb2⟩
        have h0 : Hid (QI s w1 0 w2) := Lib.hid ⟨by simpa [escP] using hq2, ((Below.refl _ _).alloc (Nat.le_refl _) _).trans hb2⟩
        clear hq2 hb2 hq0 hz0
        go_wp2_with fail
        go_loopw [28] (fun iv wr => ∃ k : Nat, k ≤ s.size ∧ iv = .int .i64 k ∧ Hid (QI s w1 k wr)) (fun iv _ => s.size - (intOf iv).toNat)
        case atStart => exact ⟨0, Nat.zero_le _, rfl, h0⟩
        case round =>
          obtain ⟨k, hk, rfl, hr⟩ := hrel
          have hel := escP_len (s.data.toList.take k)
          have htl : (s.data.toList.take k).length ≤ k := List.length_take_le _ _
          have hel' : ([34] ++ escP (s.data.toList.take k)).length ≤ 1 + 2 * k := by rw [List.length_append]; simp; omega
          clear hel htl
          by_cases hlt : k < s.size
          · have hsn := take_snoc s k hlt
            by_cases he : s[k] = 92 ∨ s[k] = 34
            · have hx : [34] ++ escP (s.data.toList.take (k + 1)) = [34] ++ escP (s.data.toList.take k) ++ [92] ++ [s[k]] := by
                rw [hsn, escP_snoc]; unfold escB; rw [if_pos he]; simp
              have Hx := Lib.hid hx
              clear hx hsn
              rcases he with he | he
              · have b1 : ((s[k].toNat : Int) == 92) = true := by rw [he]; rfl
                clear he
                go_wp2_with fail
                refine (writeByte_any w1.heap.size w1.heap.size _ 92 _ hr.out.bld (by omega) hr.out.bel.size).mono ?_
                rintro e w3 ⟨rfl, hq3, hb3⟩
                have Hq3 := Lib.hid hq3
                have Hb3 := Lib.hid (hr.out.bel.trans hb3)
                clear hq3 hb3
                go_wp2_with fail
                refine (writeByte_any w1.heap.size w1.heap.size _ s[k] _ Hq3.out (by rw [List.length_append]; simp only [List.length_cons, List.length_nil]; omega) Hb3.out.size).mono ?_
                rintro e w4 ⟨rfl, hq4, hb4⟩
                have h4 : Hid (QI s w1 (k + 1) w4) := Lib.hid ⟨by rw [Hx.out]; exact hq4, Hb3.out.trans hb4⟩
                clear hq4 hb4
                go_wp2
                go_roundw
                case rel => exact ⟨k + 1, by omega, by go_num, h4⟩
                case measure => simp [intOf]; omega
              · have b1 : ((s[k].toNat : Int) == 92) = false := by rw [he]; rfl
                have b2 : ((s[k].toNat : Int) == 34) = true := by rw [he]; rfl
                clear he
                go_wp2_with fail
                refine (writeByte_any w1.heap.size w1.heap.size _ 92 _ hr.out.bld (by omega) hr.out.bel.size).mono ?_
                rintro e w3 ⟨rfl, hq3, hb3⟩
                have Hq3 := Lib.hid hq3
                have Hb3 := Lib.hid (hr.out.bel.trans hb3)
                clear hq3 hb3
                go_wp2_with fail
                refine (writeByte_any w1.heap.size w1.heap.size _ s[k] _ Hq3.out (by rw [List.length_append]; simp only [List.length_cons, List.length_nil]; omega) Hb3.out.size).mono ?_
                rintro e w4 ⟨rfl, hq4, hb4⟩
                have h4 : Hid (QI s w1 (k + 1) w4) := Lib.hid ⟨by rw [Hx.out]; exact hq4, Hb3.out.trans hb4⟩
                clear hq4 hb4
                go_wp2
                go_roundw
                case rel => exact ⟨k + 1, by omega, by go_num, h4⟩
                case measure => simp [intOf]; omega
            · have hx : [34] ++ escP (s.data.toList.take (k + 1)) = [34] ++ escP (s.data.toList.take k) ++ [s[k]] := by
                rw [hsn, escP_snoc]; unfold escB; rw [if_neg he]; simp
              have b1 : ((s[k].toNat : Int) == 92) = false := by rw [beq_eq_false_iff_ne]; intro e; exact he (.inl ((byte_eq (by decide)).1 e))
              have b2 : ((s[k].toNat : Int) == 34) = false := by rw [beq_eq_false_iff_ne]; intro e; exact he (.inr ((byte_eq (by decide)).1 e))
              have Hx := Lib.hid hx
              clear hx hsn he
              go_wp2_with fail
              refine (writeByte_any w1.heap.size w1.heap.size _ s[k] _ hr.out.bld (by omega) hr.out.bel.size).mono ?_
              rintro e w4 ⟨rfl, hq4, hb4⟩
              have h4 : Hid (QI s w1 (k + 1) w4) := Lib.hid ⟨by rw [Hx.out]; exact hq4, hr.out.bel.trans hb4⟩
              clear hq4 hb4
              go_wp2
              go_roundw
              case rel => exact ⟨k + 1, by omega, by go_num, h4⟩
              case measure => simp [intOf]; omega
          · have hks : k = s.size := by omega
            have hb9 := hr.out.bld
            rw [hks, take_all] at hb9
            have Hb9 := Lib.hid hb9
            have hel9 : ([34] ++ escP s.data.toList).length ≤ 2000001 := by
              have := escP_len s.data.toList
              rw [size_list] at this
              rw [List.length_append]; simp; omega
            clear hks hb9
            go_wp2_with fail
            refine (writeByte_any w1.heap.size w1.heap.size _ 34 _ Hb9.out (by omega) hr.out.bel.size).mono ?_
            rintro e w4 ⟨rfl, hq4, hb4⟩
            have h4 : Hid (Bld w1.heap.size w1.heap.size ([34] ++ escP s.data.toList ++ [34]) w4) := Lib.hid hq4
            have hB4 := Lib.hid (hr.out.bel.trans hb4)
            clear hq4 hb4
            go_wp2_with fail
            refine (Tryz.Builder_String_any w1.heap.size w1.heap.size _ _ h4.out hB4.out.size).mono ?_
            rintro e w5 ⟨rfl, hb5⟩
            go_wp2
            go_ret
            refine ⟨?_, HB1.out.trans ((hB4.out.trans hb5).mono HB1.out.size)⟩
            rw [HQ.out]
            rfl
      · have d1 : s.toList.isEmpty = true := by rw [ByteArray.toList_eq, List.isEmpty_iff, ← List.length_eq_zero_iff, size_list]; omega
        have d2 : (!s.toList.isEmpty) = false := by rw [d1]; rfl
        clear hw hp htab E2
        go_enter Tryz.func229, Tryz.ntmps229
        go_wp2_with fail
        refine (E1.out _ hs).mono ?_
        rintro e w1 ⟨rfl, hw1⟩
        subst hw1
        have HB1 := Lib.hid (Below.refl w.heap.size w)
        go_upto_region 6 with fail
        have hq0 := Lib.hid (Lib.fresh_isBuilder 90 5 w)
        have hz0 : w.heap.size ≤ (w.alloc (.cells #[.pointer none, .slice none 0 0] 90)).heap.size := by simp
        go_wp2_with fail
        refine (writeByte_any w.heap.size w.heap.size [] 34 _ hq0.out (by decide) hz0).mono ?_
        rintro e w2 ⟨rfl, hq2, hb2⟩
        have h0 : Hid (QI s w 0 w2) := Lib.hid ⟨by simpa [escP] using hq2, ((Below.refl _ _).alloc (Nat.le_refl _) _).trans hb2⟩
        clear hq2 hb2 hq0 hz0
        go_wp2_with fail
        go_loopw [28] (fun iv wr => ∃ k : Nat, k ≤ s.size ∧ iv = .int .i64 k ∧ Hid (QI s w k wr)) (fun iv _ => s.size - (intOf iv).toNat)
        case atStart => exact ⟨0, Nat.zero_le _, rfl, h0⟩
        case round =>
          obtain ⟨k, hk, rfl, hr⟩ := hrel
          have hel := escP_len (s.data.toList.take k)
          have htl : (s.data.toList.take k).length ≤ k := List.length_take_le _ _
          have hel' : ([34] ++ escP (s.data.toList.take k)).length ≤ 1 + 2 * k := by rw [List.length_append]; simp; omega
          clear hel htl
          by_cases hlt : k < s.size
          · have hsn := take_snoc s k hlt
            by_cases he : s[k] = 92 ∨ s[k] = 34
            · have hx : [34] ++ escP (s.data.toList.take (k + 1)) = [34] ++ escP (s.data.toList.take k) ++ [92] ++ [s[k]] := by
                rw [hsn, escP_snoc]; unfold escB; rw [if_pos he]; simp
              have Hx := Lib.hid hx
              clear hx hsn
              rcases he with he | he
              · have b1 : ((s[k].toNat : Int) == 92) = true := by rw [he]; rfl
                clear he
                go_wp2_with fail
                refine (writeByte_any w.heap.size w.heap.size _ 92 _ hr.out.bld (by omega) hr.out.bel.size).mono ?_
                rintro e w3 ⟨rfl, hq3, hb3⟩
                have Hq3 := Lib.hid hq3
                have Hb3 := Lib.hid (hr.out.bel.trans hb3)
                clear hq3 hb3
                go_wp2_with fail
                refine (writeByte_any w.heap.size w.heap.size _ s[k] _ Hq3.out (by rw [List.length_append]; simp only [List.length_cons, List.length_nil]; omega) Hb3.out.size).mono ?_
                rintro e w4 ⟨rfl, hq4, hb4⟩
                have h4 : Hid (QI s w (k + 1) w4) := Lib.hid ⟨by rw [Hx.out]; exact hq4, Hb3.out.trans hb4⟩
                clear hq4 hb4
                go_wp2
                go_roundw
                case rel => exact ⟨k + 1, by omega, by go_num, h4⟩
                case measure => simp [intOf]; omega
              · have b1 : ((s[k].toNat : Int) == 92) = false := by rw [he]; rfl
                have b2 : ((s[k].toNat : Int) == 34) = true := by rw [he]; rfl
                clear he
                go_wp2_with fail
                refine (writeByte_any w.heap.size w.heap.size _ 92 _ hr.out.bld (by omega) hr.out.bel.size).mono ?_
                rintro e w3 ⟨rfl, hq3, hb3⟩
                have Hq3 := Lib.hid hq3
                have Hb3 := Lib.hid (hr.out.bel.trans hb3)
                clear hq3 hb3
                go_wp2_with fail
                refine (writeByte_any w.heap.size w.heap.size _ s[k] _ Hq3.out (by rw [List.length_append]; simp only [List.length_cons, List.length_nil]; omega) Hb3.out.size).mono ?_
                rintro e w4 ⟨rfl, hq4, hb4⟩
                have h4 : Hid (QI s w (k + 1) w4) := Lib.hid ⟨by rw [Hx.out]; exact hq4, Hb3.out.trans hb4⟩
                clear hq4 hb4
                go_wp2
                go_roundw
                case rel => exact ⟨k + 1, by omega, by go_num, h4⟩
                case measure => simp [intOf]; omega
            · have hx : [34] ++ escP (s.data.toList.take (k + 1)) = [34] ++ escP (s.data.toList.take k) ++ [s[k]] := by
                rw [hsn, escP_snoc]; unfold escB; rw [if_neg he]; simp
              have b1 : ((s[k].toNat : Int) == 92) = false := by rw [beq_eq_false_iff_ne]; intro e; exact he (.inl ((byte_eq (by decide)).1 e))
              have b2 : ((s[k].toNat : Int) == 34) = false := by rw [beq_eq_false_iff_ne]; intro e; exact he (.inr ((byte_eq (by decide)).1 e))
              have Hx := Lib.hid hx
              clear hx hsn he
              go_wp2_with fail
              refine (writeByte_any w.heap.size w.heap.size _ s[k] _ hr.out.bld (by omega) hr.out.bel.size).mono ?_
              rintro e w4 ⟨rfl, hq4, hb4⟩
              have h4 : Hid (QI s w (k + 1) w4) := Lib.hid ⟨by rw [Hx.out]; exact hq4, hr.out.bel.trans hb4⟩
              clear hq4 hb4
              go_wp2
              go_roundw
              case rel => exact ⟨k + 1, by omega, by go_num, h4⟩
              case measure => simp [intOf]; omega
          · have hks : k = s.size := by omega
            have hb9 := hr.out.bld
            rw [hks, take_all] at hb9
            have Hb9 := Lib.hid hb9
            have hel9 : ([34] ++ escP s.data.toList).length ≤ 2000001 := by
              have := escP_len s.data.toList
              rw [size_list] at this
              rw [List.length_append]; simp; omega
            clear hks hb9
            go_wp2_with fail
            refine (writeByte_any w.heap.size w.heap.size _ 34 _ Hb9.out (by omega) hr.out.bel.size).mono ?_
            rintro e w4 ⟨rfl, hq4, hb4⟩
            have h4 : Hid (Bld w.heap.size w.heap.size ([34] ++ escP s.data.toList ++ [34]) w4) := Lib.hid hq4
            have hB4 := Lib.hid (hr.out.bel.trans hb4)
            clear hq4 hb4
            go_wp2_with fail
            refine (Tryz.Builder_String_any w.heap.size w.heap.size _ _ h4.out hB4.out.size).mono ?_
            rintro e w5 ⟨rfl, hb5⟩
            go_wp2
            go_ret
            refine ⟨?_, HB1.out.trans ((hB4.out.trans hb5).mono HB1.out.size)⟩
            rw [HQ.out]
            rfl
    · have HQ := Lib.hid (show quoteP s.data.toList = s.data.toList by unfold quoteP; rw [if_neg (by rw [hp]; simp), if_pos hw])
      have h0 : 0 < s.size := by
        rw [isWord_iff, size_list, Bool.and_eq_true, decide_eq_true_iff] at hw; exact hw.1
      have hne : wordLen s.data.toList = s.size := by
        rw [isWord_iff, size_list, Bool.and_eq_true, decide_eq_true_iff, decide_eq_true_iff] at hw; exact hw.2
      rw [hne] at E2
      have d1 : s.toList.isEmpty = false := by rw [ByteArray.toList_eq, List.isEmpty_eq_false_iff, ne_eq, ← List.length_eq_zero_iff, size_list]; omega
      have d2 : (!s.toList.isEmpty) = true := by rw [d1]; rfl
      clear hw hp htab hne
      go_enter Tryz.func229, Tryz.ntmps229
      go_wp2_with fail
      refine (E1.out _ hs).mono ?_
      rintro e w1 ⟨rfl, hw1⟩
      subst hw1
      go_wp2_with fail
      refine (E2.out _).mono ?_
      rintro e w1 ⟨rfl, hb1⟩
      go_wp2
      go_ret
      refine ⟨?_, hb1⟩
      rw [HQ.out]
      rfl
end Go.Proofs.YtomnljigoljldaaGreatDoor.VB

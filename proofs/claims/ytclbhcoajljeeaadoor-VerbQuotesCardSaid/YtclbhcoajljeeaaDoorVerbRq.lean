/- What the document's Quote of layer 21 returns. Conditions: the text's length. -/
import Derived.Test.YtclbhcoajljeeaaDoorVerbDig
namespace Go.Proofs.YtclbhcoajljeeaaDoor.VB
open Go.RowKit Mailsack MM BU

theorem ext_one (s : ByteArray) (k : Nat) (h : k < s.size) : s.extract k (k + 1) = ⟨([s[k]] : Bs).toArray⟩ := by
  have h' : k < s.data.size := h
  have : (s.extract k (k + 1)).data = #[s[k]] := by
    rw [ByteArray.data_extract]
    apply Array.ext
    · simp; omega
    · intro i h1 h2
      have : i = 0 := by simp at h2; omega
      subst this
      simp
      rfl
  generalize s.extract k (k + 1) = c at this
  cases c
  simp only at this
  rw [this]
def wordTo (s : ByteArray) (k : Nat) : Bool := decide (0 < s.size) && (s.data.toList.take k).all (fun c => !specialB c)
theorem wordTo_step (s : ByteArray) (k : Nat) (h : k < s.size) : wordTo s (k + 1) = (wordTo s k && !specialB s[k]) := by
  unfold wordTo
  rw [take_snoc s k h, List.all_append]
  simp [Bool.and_assoc]
theorem wordTo_end (s : ByteArray) : wordTo s s.size = isWord s.data.toList := by
  unfold wordTo isWord; rw [take_all, size_list]
theorem conv_92 (W : World) : (convert 41 9 (.slice (some ⟨W.heap.size, 0, none⟩) 1 1)).run Tryd.prog (W.alloc (.cells #[.int .u8 92] 5)) = .ok (.string ⟨#[92]⟩) (W.alloc (.cells #[.int .u8 92] 5)) := conv_one W 92

set_option maxHeartbeats 4000000 in
theorem rquote_any (s : ByteArray) (w : World) (hs : s.size ≤ 1000000) :
    Calls Tryd.prog 8 #[.string s] w fun e w' => e = .returned (strV (quoteP s.data.toList)) ∧ Below w.heap.size w w' := by
  have E1 := rplain_any s
  cases hp : plainP s.data.toList
  · rw [hp] at E1
    replace E1 := Lib.hid E1
    have hq : quoteP s.data.toList = [123] ++ Lib.decDigits s.size ++ [125, 13, 10] ++ s.data.toList := by unfold quoteP; rw [if_pos hp, size_list]
    have hd := digits_len hs
    have HQ : Hid (strV (quoteP s.data.toList) = .string ((⟨#[123]⟩ : ByteArray) ++ ⟨(Lib.decDigits s.size).toArray⟩ ++ ⟨#[125, 13, 10]⟩ ++ s)) := Lib.hid (by
      rw [hq]
      conv => rhs; rw [show s = ⟨s.data.toList.toArray⟩ from rfl]
      rw [show (⟨#[123]⟩ : ByteArray) = ⟨([123] : Bs).toArray⟩ from rfl, show (⟨#[125, 13, 10]⟩ : ByteArray) = ⟨([125, 13, 10] : Bs).toArray⟩ from rfl, bytes_app, bytes_app, bytes_app])
    generalize hD : (⟨(Lib.decDigits s.size).toArray⟩ : ByteArray) = D at HQ
    have hDz : D.size ≤ 7 := by rw [← hD]; exact hd
    have HD := Lib.hid hD
    clear hp hq hd hD
    go_enter Tryd.func8, Tryd.ntmps8
    go_wp2_with fail
    refine (E1.out _ hs).mono ?_
    rintro e w1 ⟨rfl, hw1⟩
    subst hw1
    go_wp2_with fail
    refine (rdigits_any s.size _ hs).mono ?_
    rintro e w2 ⟨he, hb2⟩
    rw [show strV (Lib.decDigits s.size) = .string D from congrArg Value.string HD.out] at he
    subst he
    have big1 : ¬ 9223372036854775807 < 1 + D.size := by omega
    have big2 : ¬ 9223372036854775807 < 1 + D.size + 3 := by omega
    have big3 : ¬ 9223372036854775807 < 1 + D.size + 3 + s.size := by omega
    go_wp2
    go_ret
    refine ⟨?_, hb2⟩
    rw [HQ.out]
    rfl
  · rw [hp] at E1
    replace E1 := Lib.hid E1
    have HQ : Hid (quoteP s.data.toList = if wordTo s s.size = true then s.data.toList else [34] ++ escP s.data.toList ++ [34]) := Lib.hid (by
      unfold quoteP; rw [if_neg (by rw [hp]; simp), wordTo_end])
    clear hp
    go_enter Tryd.func8, Tryd.ntmps8
    go_wp2_with fail
    refine (E1.out _ hs).mono ?_
    rintro e w1 ⟨rfl, hw1⟩
    subst hw1
    go_wp2
    go_loopw [3, 4, 5] (fun dv qv iv wr => ∃ (k : Nat) (B : ByteArray), k ≤ s.size ∧ B.size ≤ 1 + 2 * k ∧ dv = .bool (wordTo s k) ∧ qv = .string B ∧ iv = .int .i64 k ∧ Hid (B = ⟨([34] ++ escP (s.data.toList.take k)).toArray⟩) ∧ Hid (Below w.heap.size w wr)) (fun _ _ iv _ => s.size - (intOf iv).toNat)
    case atStart => exact ⟨0, _, Nat.zero_le _, by decide, by simp [wordTo], rfl, rfl, Lib.hid rfl, Lib.hid (Below.refl _ _)⟩
    case round =>
      obtain ⟨k, B, hk, hB, rfl, rfl, rfl, hq, hb⟩ := hrel
      by_cases hlt : k < s.size
      · have hsn := take_snoc s k hlt
        have hws := wordTo_step s k hlt
        have Hxe := Lib.hid (ext_one s k hlt)
        have hxz : (s.extract k (k + 1)).size = 1 := by rw [Hxe.out]; rfl
        by_cases he : s[k] = 92 ∨ s[k] = 34
        · have hx : B ++ ⟨#[92]⟩ ++ ⟨([s[k]] : Bs).toArray⟩ = ⟨([34] ++ escP (s.data.toList.take (k + 1))).toArray⟩ := by
            rw [hq.out, show (⟨#[92]⟩ : ByteArray) = ⟨([92] : Bs).toArray⟩ from rfl, bytes_app, bytes_app, hsn, escP_snoc]; unfold escB; rw [if_pos he]; simp
          have Hx := Lib.hid hx
          have hcv := conv_92
          have big1 : ¬ 9223372036854775807 < B.size + 1 := by omega
          have big2 : ¬ 9223372036854775807 < B.size + 1 + (s.extract k (k + 1)).size := by omega
          clear hx hsn
          rcases he with he | he
          · have b1 : ((s[k].toNat : Int) == 92) = true := by rw [he]; rfl
            clear he
            cases hw : wordTo s k
            · rw [hw, Bool.false_and] at hws
              have Hws := Lib.hid hws
              clear hws hw
              go_wp2
              go_roundw
              case rel => exact ⟨k + 1, _, by omega, by rw [ByteArray.size_append, ByteArray.size_append, hxz]; show B.size + 1 + 1 ≤ _; omega, by rw [Hws.out], rfl, by go_num, Lib.hid (by rw [Hxe.out, Hx.out]), Lib.hid (hb.out.alloc hb.out.size _)⟩
              case measure => simp [intOf]; omega
            · rw [hw, Bool.true_and] at hws
              have Hws := Lib.hid hws
              clear hws hw
              go_wp2_with fail
              refine (special_any s[k] _).mono ?_
              rintro e w3 ⟨rfl, hw3⟩
              subst hw3
              go_wp2
              go_roundw
              case rel => exact ⟨k + 1, _, by omega, by rw [ByteArray.size_append, ByteArray.size_append, hxz]; show B.size + 1 + 1 ≤ _; omega, by rw [Hws.out], rfl, by go_num, Lib.hid (by rw [Hxe.out, Hx.out]), Lib.hid (hb.out.alloc hb.out.size _)⟩
              case measure => simp [intOf]; omega
          · have b1 : ((s[k].toNat : Int) == 92) = false := by rw [he]; rfl
            have b2 : ((s[k].toNat : Int) == 34) = true := by rw [he]; rfl
            clear he
            cases hw : wordTo s k
            · rw [hw, Bool.false_and] at hws
              have Hws := Lib.hid hws
              clear hws hw
              go_wp2
              go_roundw
              case rel => exact ⟨k + 1, _, by omega, by rw [ByteArray.size_append, ByteArray.size_append, hxz]; show B.size + 1 + 1 ≤ _; omega, by rw [Hws.out], rfl, by go_num, Lib.hid (by rw [Hxe.out, Hx.out]), Lib.hid (hb.out.alloc hb.out.size _)⟩
              case measure => simp [intOf]; omega
            · rw [hw, Bool.true_and] at hws
              have Hws := Lib.hid hws
              clear hws hw
              go_wp2_with fail
              refine (special_any s[k] _).mono ?_
              rintro e w3 ⟨rfl, hw3⟩
              subst hw3
              go_wp2
              go_roundw
              case rel => exact ⟨k + 1, _, by omega, by rw [ByteArray.size_append, ByteArray.size_append, hxz]; show B.size + 1 + 1 ≤ _; omega, by rw [Hws.out], rfl, by go_num, Lib.hid (by rw [Hxe.out, Hx.out]), Lib.hid (hb.out.alloc hb.out.size _)⟩
              case measure => simp [intOf]; omega
        · have hx : B ++ ⟨([s[k]] : Bs).toArray⟩ = ⟨([34] ++ escP (s.data.toList.take (k + 1))).toArray⟩ := by
            rw [hq.out, bytes_app, hsn, escP_snoc]; unfold escB; rw [if_neg he]; simp
          have b1 : ((s[k].toNat : Int) == 92) = false := by rw [beq_eq_false_iff_ne]; intro e; exact he (.inl ((byte_eq (by decide)).1 e))
          have b2 : ((s[k].toNat : Int) == 34) = false := by rw [beq_eq_false_iff_ne]; intro e; exact he (.inr ((byte_eq (by decide)).1 e))
          have Hx := Lib.hid hx
          have big2 : ¬ 9223372036854775807 < B.size + (s.extract k (k + 1)).size := by omega
          clear hx hsn he
          cases hw : wordTo s k
          · rw [hw, Bool.false_and] at hws
            have Hws := Lib.hid hws
            clear hws hw
            go_wp2
            go_roundw
            case rel => exact ⟨k + 1, _, by omega, by rw [ByteArray.size_append, hxz]; omega, by rw [Hws.out], rfl, by go_num, Lib.hid (by rw [Hxe.out, Hx.out]), hb⟩
            case measure => simp [intOf]; omega
          · rw [hw, Bool.true_and] at hws
            have Hws := Lib.hid hws
            clear hws hw
            go_wp2_with fail
            refine (special_any s[k] _).mono ?_
            rintro e w3 ⟨rfl, hw3⟩
            subst hw3
            go_wp2
            go_roundw
            case rel => exact ⟨k + 1, _, by omega, by rw [ByteArray.size_append, hxz]; omega, by rw [Hws.out], rfl, by go_num, Lib.hid (by rw [Hxe.out, Hx.out]), hb⟩
            case measure => simp [intOf]; omega
      · have hks : k = s.size := by omega
        have hq9 := hq.out
        have HQ9 := HQ.out
        rw [hks, take_all] at hq9
        have Hq9 := Lib.hid hq9
        have Hks := Lib.hid hks
        have big2 : ¬ 9223372036854775807 < B.size + 1 := by omega
        rw [← hks] at HQ9
        cases hw : wordTo s k
        · rw [hw, if_neg (by simp)] at HQ9
          have H9 := Lib.hid HQ9
          clear HQ9 hq9 hks hw
          go_wp2
          go_ret
          refine ⟨?_, hb.out⟩
          rw [H9.out, Hq9.out, show (⟨#[34]⟩ : ByteArray) = ⟨([34] : Bs).toArray⟩ from rfl, bytes_app]
          rfl
        · rw [hw, if_pos rfl] at HQ9
          have H9 := Lib.hid HQ9
          clear HQ9 hq9 hks hw
          go_wp2
          go_ret
          refine ⟨?_, hb.out⟩
          rw [H9.out]
          rfl
end Go.Proofs.YtclbhcoajljeeaaDoor.VB

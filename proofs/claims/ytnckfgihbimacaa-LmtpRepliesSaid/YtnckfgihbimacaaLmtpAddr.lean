/- What strings.ContainsAny (at the two signs), ring.RightUser and lmtp.address return, for any text. No conditions but lengths. -/
import Derived.Test.YtnckfgihbimacaaAngle
import Derived.Test.YtnckfgihbimacaaLmtpUpper
namespace Go.Proofs.Ytnckfgihbimacaa.LM
open Go.RowKit Mailsack MM

theorem indexAny_angle : ∀ l : Bs, decide (0 ≤ Lib.indexAny l [60, 62]) = l.any isAngle
  | [] => by simp [Lib.indexAny]
  | b :: l => by
    have ih := indexAny_angle l
    have hg := Lib.indexAny_ge [60, 62] l
    unfold Lib.indexAny
    rw [List.any_cons, ← ih]
    have hc : ([60, 62] : Bs).contains b = isAngle b := by rw [Lib.contains_iff_indexByte]; exact idx_angle b
    rw [hc]
    cases isAngle b
    · simp only [Bool.false_eq_true, if_false, Bool.false_or]
      split
      · rename_i h
        have h : Lib.indexAny l [60, 62] = -1 := by simpa using h
        rw [h]
      · rename_i h
        have h : Lib.indexAny l [60, 62] ≠ -1 := by simpa using h
        rw [decide_eq_decide]; omega
    · simp

theorem set_info : (Try.prog.info? 62).map (fun i => (i.zero, i.size)) = some (some (.agg (Array.replicate 256 (.bool false))), 256) := by kernel_rfl

theorem zero_set (w : World) : (zeroValue 62).run Try.prog w = .ok (.agg (Array.replicate 256 (.bool false))) w := (zero_of_info set_info).1 w

set_option maxHeartbeats 400000 in
theorem containsAny_any (s : ByteArray) (w : World) (hs : s.size < 4294967281) :
    Calls Try.prog 29 #[.string s, .string ⟨#[60, 62]⟩] w fun e w' => e = .returned (.bool (s.data.toList.any isAngle)) ∧ Below w.heap.size w w' := by
  by_cases h8 : s.size ≤ 8
  · go_enter Try.func29, Try.ntmps29
    go_wp2_with fail
    refine (indexAny_short s _ h8).mono ?_
    rintro e w1 ⟨n, rfl, hn, hb⟩
    have Hn := Lib.hid hn
    clear hn
    go_wp2
    go_ret
    exact ⟨by rw [← Hn.out]; rfl, hb⟩
  · have Hn := Lib.hid (indexAny_angle s.data.toList)
    go_enter Try.func29, Try.ntmps29
    go_wp2_with fail
    refine (Try.strings_IndexAny_long zero_set s ⟨#[60, 62]⟩ _ (by decide) (by omega) hs (by decide) (by
      intro j b hj
      match j, hj with
      | 0, hj => simp at hj; subst hj; decide
      | 1, hj => simp at hj; subst hj; decide)).mono ?_
    rintro e w1 ⟨rfl, rfl⟩
    have hb : Below w.heap.size w ((w.alloc (.cells (Lib.setCells (⟨#[60, 62]⟩ : ByteArray).data.toList) 62)).alloc (.cells (Lib.setCells (⟨#[60, 62]⟩ : ByteArray).data.toList) 62)) :=
      ((Below.refl _ _).alloc (Nat.le_refl _) _).alloc (by simp) _
    generalize (w.alloc (.cells (Lib.setCells (⟨#[60, 62]⟩ : ByteArray).data.toList) 62)).alloc (.cells (Lib.setCells (⟨#[60, 62]⟩ : ByteArray).data.toList) 62) = w2 at hb ⊢
    generalize Lib.indexAny s.data.toList (⟨#[60, 62]⟩ : ByteArray).data.toList = n at Hn ⊢
    go_wp2
    go_ret
    exact ⟨by rw [← Hn.out]; rfl, hb⟩

theorem userOk_short {l : Bs} (h : l.length < 1) : userOk l = false := by simp [userOk, show ¬ 1 ≤ l.length by omega]
theorem userOk_long {l : Bs} (h : 8 < l.length) : userOk l = false := by simp [userOk, show ¬ l.length ≤ 8 by omega]
theorem userOk_bad {l : Bs} {k : Nat} (h : k < l.length) (hd : userByte l[k] = false) : userOk l = false := by
  have : l.all userByte = false := by rw [List.all_eq_false]; exact ⟨l[k], List.getElem_mem h, by simp [hd]⟩
  simp [userOk, this]
theorem userOk_ok {l : Bs} (h1 : 1 ≤ l.length) (h8 : l.length ≤ 8) (hd : ∀ c ∈ l, userByte c = true) : userOk l = true := by
  have ha : l.all userByte = true := by rw [List.all_eq_true]; exact hd
  simp [userOk, ha, h1, h8]
theorem user_no {c : UInt8} (h : userByte c = false) : ((c.toNat : Int) < 97 ∨ 122 < (c.toNat : Int)) ∧ ((c.toNat : Int) < 48 ∨ 57 < (c.toNat : Int)) := by
  simp only [userByte, Bool.or_eq_false_iff, decide_eq_false_iff_not] at h; omega
theorem user_yes {c : UInt8} (h : userByte c = true) : (97 ≤ (c.toNat : Int) ∧ (c.toNat : Int) ≤ 122) ∨ (48 ≤ (c.toNat : Int) ∧ (c.toNat : Int) ≤ 57) := by
  simp only [userByte, Bool.or_eq_true, decide_eq_true_eq] at h; omega
theorem user_take {l : Bs} {k : Nat} (h : k < l.length) (h0 : ∀ c ∈ l.take k, userByte c = true) (hd : userByte l[k] = true) : ∀ c ∈ l.take (k + 1), userByte c = true := by
  intro c hc
  rw [List.take_succ_eq_append_getElem h, List.mem_append] at hc
  rcases hc with hc | hc
  · exact h0 c hc
  · rw [List.mem_singleton.1 hc]; exact hd

set_option maxHeartbeats 1000000 in
theorem rightUser_any (s : ByteArray) (w : World) (hl : s.size < 4611686018427387904) :
    Calls Try.prog 23 #[.string s] w fun e w' => e = .returned (.bool (userOk s.data.toList)) ∧ w = w' := by
  have hz := size_list s
  by_cases h1 : s.size < 1
  · rw [userOk_short (by omega)]
    clear hz
    go_enter Try.func23, Try.ntmps23
    go_wp2
    go_ret
    exact ⟨rfl, rfl⟩
  by_cases h8 : 8 < s.size
  · rw [userOk_long (by omega)]
    clear hz
    go_enter Try.func23, Try.ntmps23
    go_wp2
    go_ret
    exact ⟨rfl, rfl⟩
  have Hz := Lib.hid hz
  clear hz
  go_enter Try.func23, Try.ntmps23
  go_wp2
  go_loop [14] (fun iv => ∃ k : Nat, k ≤ s.size ∧ iv = .int .i64 k ∧ Hid (∀ c ∈ s.data.toList.take k, userByte c = true)) (fun iv => s.size - (intOf iv).toNat)
  case atStart => exact ⟨0, Nat.zero_le _, rfl, Lib.hid (by simp)⟩
  case round =>
    obtain ⟨k, hk, rfl, hd⟩ := hrel
    by_cases hlt : k < s.size
    · have hll : k < s.data.toList.length := by rw [Hz.out]; exact hlt
      rcases hu : userByte (s.data.toList[k]'hll) with _ | _
      · have Hn := Lib.hid (userOk_bad hll hu)
        have hc := (user_no (c := s[k]'hlt) hu).1
        have hc2 := (user_no (c := s[k]'hlt) hu).2
        clear hu
        rcases hc with hc | hc
        all_goals
          rcases hc2 with hc2 | hc2
          all_goals
            first
              | (exfalso; omega)
              | (go_wp2
                 go_ret
                 rw [Hn.out]
                 exact ⟨rfl, rfl⟩)
      · have hd2 := Lib.hid (user_take hll hd.out hu)
        have hc := user_yes (c := s[k]'hlt) hu
        clear hu
        rcases hc with ⟨hc1, hc2⟩ | ⟨hc1, hc2⟩
        all_goals
          go_wp2
          go_round
          case rel => exact ⟨k + 1, by omega, by go_num, hd2⟩
          case measure => first | (simp [intOf]; done) | (simp [intOf]; omega)
    · have Hn := Lib.hid (userOk_ok (l := s.data.toList) (by rw [Hz.out]; omega) (by rw [Hz.out]; omega) (by have := hd.out; rw [List.take_of_length_le (by rw [Hz.out]; omega)] at this; exact this))
      go_wp2
      go_ret
      rw [Hn.out]
      exact ⟨rfl, rfl⟩

/-- what 'address' answers -/
def addrR (o : Option Bs) : Bs × Bool := match o with
  | some t => (t, true)
  | none => ([], false)

set_option maxHeartbeats 1000000 in
theorem address_any (arg word : ByteArray) (w : World) (hl : arg.size < 4294967281) (hw : word.size ≤ 100) :
    Calls Try.prog 22 #[.string arg, .string word] w fun e w' => e = .returned (.tuple #[strV (addrR (addrP arg.data.toList word.data.toList)).1, .bool (addrR (addrP arg.data.toList word.data.toList)).2]) ∧ Below w.heap.size w w' := by
  have hza := size_list arg
  have hzw := size_list word
  by_cases h1 : arg.size < word.size
  · have e : addrP arg.data.toList word.data.toList = none := by unfold addrP; rw [if_pos (.inl (by omega))]
    rw [e]
    clear hza hzw e
    go_enter Try.func22, Try.ntmps22
    go_wp2
    go_ret2
    exact ⟨rfl, Below.refl _ _⟩
  have hext : (arg.extract 0 word.size).data.toList = arg.data.toList.take word.data.toList.length := by rw [ext_take, hzw]
  have hexs : (arg.extract 0 word.size).size < 4611686018427387904 := by rw [ext_size]; omega
  by_cases h2 : upP (arg.data.toList.take word.data.toList.length) = word.data.toList
  · have hdr : (arg.extract word.size arg.size).data.toList = arg.data.toList.drop word.data.toList.length := by rw [ext_drop, hzw]
    have hds : (arg.extract word.size arg.size).size < 4294967281 := by rw [ext_size]; omega
    obtain ⟨u, hu⟩ : ∃ u, upP (arg.extract 0 word.size).data.toList = u := ⟨_, rfl⟩
    have hB : (u == word.toList) = true := by rw [ByteArray.toList_eq, ← hu, hext, h2]; simp
    obtain ⟨y, hy⟩ : ∃ y : ByteArray, (⟨(Lib.trimPrefix (arg.extract word.size arg.size).data.toList (⟨#[60]⟩ : ByteArray).data.toList).toArray⟩ : ByteArray) = y := ⟨_, rfl⟩
    have hys : y.size < 4294967281 := by rw [← hy, size_mk]; exact Nat.lt_of_le_of_lt (trimPrefix_len _ _) (by rw [size_list]; exact hds)
    obtain ⟨o, ho⟩ : ∃ o, Lib.hasPrefix (arg.extract word.size arg.size).data.toList (⟨#[60]⟩ : ByteArray).data.toList = o := ⟨_, rfl⟩
    obtain ⟨z, hz⟩ : ∃ z : ByteArray, (⟨(Lib.trimSuffix y.data.toList (⟨#[62]⟩ : ByteArray).data.toList).toArray⟩ : ByteArray) = z := ⟨_, rfl⟩
    have hzs : z.size < 4294967281 := by rw [← hz, size_mk]; exact Nat.lt_of_le_of_lt (trimSuffix_len _ _) (by rw [size_list]; exact hys)
    obtain ⟨c, hc⟩ : ∃ c, Lib.hasSuffix y.data.toList (⟨#[62]⟩ : ByteArray).data.toList = c := ⟨_, rfl⟩
    have e : addrP arg.data.toList word.data.toList = if o = true ∧ c = true ∧ z.data.toList.any isAngle = false then some z.data.toList else none := by
      unfold addrP
      rw [if_neg (by rintro (h | h); omega; exact h h2), ← ho, ← hc, ← hz, ← hy, hdr]
    rw [e]
    have Hu := Lib.hid hu
    have Hy := Lib.hid hy
    have Ho := Lib.hid ho
    have Hz := Lib.hid hz
    have Hc := Lib.hid hc
    have hwa : (word.size : Int) ≤ (arg.size : Int) := by omega
    clear hza hzw e hu hext h2 hy ho hz hc hdr
    cases o
    · rw [if_neg (by simp)]
      go_enter Try.func22, Try.ntmps22
      go_wp2_with fail
      refine (upper_any _ _ hexs).mono ?_
      rintro e w1 ⟨rfl, hb⟩
      rw [Hu.out]
      go_wp2_with fail
      refine (Try.strings_CutPrefix _ ⟨#[60]⟩ _).mono ?_
      rintro e w2 ⟨rfl, rfl⟩
      rw [Hy.out, Ho.out]
      go_wp2_with fail
      refine (Try.strings_CutSuffix y ⟨#[62]⟩ _ (by omega)).mono ?_
      rintro e w3 ⟨rfl, rfl⟩
      rw [Hz.out, Hc.out]
      go_wp2
      go_ret2
      exact ⟨rfl, hb⟩
    · cases c
      · rw [if_neg (by simp)]
        go_enter Try.func22, Try.ntmps22
        go_wp2_with fail
        refine (upper_any _ _ hexs).mono ?_
        rintro e w1 ⟨rfl, hb⟩
        rw [Hu.out]
        go_wp2_with fail
        refine (Try.strings_CutPrefix _ ⟨#[60]⟩ _).mono ?_
        rintro e w2 ⟨rfl, rfl⟩
        rw [Hy.out, Ho.out]
        go_wp2_with fail
        refine (Try.strings_CutSuffix y ⟨#[62]⟩ _ (by omega)).mono ?_
        rintro e w3 ⟨rfl, rfl⟩
        rw [Hz.out, Hc.out]
        go_wp2
        go_ret2
        exact ⟨rfl, hb⟩
      · obtain ⟨a, ha⟩ : ∃ a, z.data.toList.any isAngle = a := ⟨_, rfl⟩
        rw [ha]
        have Ha := Lib.hid ha
        clear ha
        cases a
        all_goals
          go_enter Try.func22, Try.ntmps22
          go_wp2_with fail
          refine (upper_any _ _ hexs).mono ?_
          rintro e w1 ⟨rfl, hb⟩
          rw [Hu.out]
          go_wp2_with fail
          refine (Try.strings_CutPrefix _ ⟨#[60]⟩ _).mono ?_
          rintro e w2 ⟨rfl, rfl⟩
          rw [Hy.out, Ho.out]
          go_wp2_with fail
          refine (Try.strings_CutSuffix y ⟨#[62]⟩ _ (by omega)).mono ?_
          rintro e w3 ⟨rfl, rfl⟩
          rw [Hz.out, Hc.out]
          go_wp2_with fail
          refine (containsAny_any z _ hzs).mono ?_
          rintro e w4 ⟨rfl, hb4⟩
          rw [Ha.out]
          go_wp2
          go_ret2
          exact ⟨rfl, hb.trans (hb4.mono hb.size)⟩
  · have e : addrP arg.data.toList word.data.toList = none := by unfold addrP; rw [if_pos (.inr h2)]
    rw [e]
    obtain ⟨u, hu⟩ : ∃ u, upP (arg.extract 0 word.size).data.toList = u := ⟨_, rfl⟩
    have hB : (u == word.toList) = false := by rw [ByteArray.toList_eq, ← hu, hext]; exact beq_eq_false_iff_ne.2 h2
    have Hu := Lib.hid hu
    clear hza hzw e hu hext h2
    go_enter Try.func22, Try.ntmps22
    go_wp2_with fail
    refine (upper_any _ _ hexs).mono ?_
    rintro e w1 ⟨rfl, hb⟩
    rw [Hu.out]
    go_wp2
    go_ret2
    exact ⟨rfl, hb⟩
end Go.Proofs.Ytnckfgihbimacaa.LM

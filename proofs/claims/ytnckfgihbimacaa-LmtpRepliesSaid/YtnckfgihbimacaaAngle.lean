/- What strings.ContainsAny returns for the two signs of an address, for any text, be it ASCII or not. No condition but the text's length. -/
import Derived.Test.YtnckfgihbimacaaLmtpPlain
import Derived.Test.YtnckfgihbimacaaMem
import Derived.Test.YtnckfgihbimacaaShelf
import Derived.WalkLawsBesides
import Derived.WalkSpells
import Derived.Deep.QuietTactic
import Derived.BigQuiet
import Derived.Deep.LoopGhost
import Derived.Laws.RangeAny
import Derived.Laws.RangeString
import Derived.Lib.RuneBytes
import Derived.Lib.OthersKept
namespace Go.Proofs.Ytnckfgihbimacaa.LM
open Go.RowKit Mailsack MM

theorem get_at (s : ByteArray) (i : Nat) (h : i < s.size) : s.get! i = s[i] := by
  have hd : i < s.data.size := h
  have : s.get! i = s.data[i]! := rfl
  rw [this, getElem!_pos s.data i hd]; rfl

/-- what the decoding of a byte above 127 gives -/
theorem decode_hi (s : ByteArray) (i : Nat) (h : i < s.size) (h1 : 128 ≤ (s.get! i).toNat) :
    128 ≤ (Utf8.decode s i).1 ∧ (Utf8.decode s i).1 ≤ 1114111 ∧ 1 ≤ (Utf8.decode s i).2 ∧ ∀ k, k < (Utf8.decode s i).2 → i + k < s.size ∧ 128 ≤ (s.get! (i + k)).toNat := by
  simp only [Utf8.decode, Nat.add_zero]
  rw [if_neg (by omega)]
  have one : ∀ k, k < 1 → i + k < s.size ∧ 128 ≤ (s.get! (i + k)).toNat := fun k hk => by
    obtain rfl : k = 0 := by omega
    exact ⟨h, h1⟩
  have err : 128 ≤ (Utf8.runeError, 1).1 ∧ (Utf8.runeError, 1).1 ≤ 1114111 ∧ 1 ≤ (Utf8.runeError, 1).2 ∧ ∀ k, k < (Utf8.runeError, 1).2 → i + k < s.size ∧ 128 ≤ (s.get! (i + k)).toNat :=
    ⟨by decide, by decide, by decide, one⟩
  have h256 := (s.get! i).toNat_lt
  split
  · rename_i hc
    simp only [Bool.and_eq_true, beq_iff_eq, decide_eq_true_eq] at hc
    split
    · refine ⟨by omega, by simp only; omega, by simp, fun k hk => ?_⟩
      have hk : k < 2 := hk
      rcases Nat.lt_or_ge k 1 with h0 | h0
      · exact one k h0
      · obtain rfl : k = 1 := by omega
        exact ⟨hc.2.1, by omega⟩
    · exact err
  · split
    · rename_i hc
      simp only [Bool.and_eq_true, beq_iff_eq, decide_eq_true_eq] at hc
      split
      · rename_i hv
        simp only [Bool.and_eq_true, decide_eq_true_eq, ge_iff_le] at hv
        refine ⟨by simp only; omega, by simp only; omega, by simp, fun k hk => ?_⟩
        have hk : k < 3 := hk
        rcases Nat.lt_or_ge k 1 with h0 | h0
        · exact one k h0
        · obtain rfl | rfl : k = 1 ∨ k = 2 := by omega
          · exact ⟨hc.1.2.1, by omega⟩
          · exact ⟨hc.2.1, by omega⟩
      · exact err
    · split
      · rename_i hc
        simp only [Bool.and_eq_true, beq_iff_eq, decide_eq_true_eq] at hc
        split
        · rename_i hv
          simp only [Bool.and_eq_true, decide_eq_true_eq, ge_iff_le, Utf8.valid] at hv
          refine ⟨by simp only; omega, ?_, by simp, fun k hk => ?_⟩
          · have := hv.2
            simp at this
            omega
          · have hk : k < 4 := hk
            rcases Nat.lt_or_ge k 1 with h0 | h0
            · exact one k h0
            · obtain rfl | rfl | rfl : k = 1 ∨ k = 2 ∨ k = 3 := by omega
              · exact ⟨hc.1.1.2.1, by omega⟩
              · exact ⟨hc.1.2.1, by omega⟩
              · exact ⟨hc.2.1, by omega⟩
        · exact err
      · exact err

theorem enc_facts (r : Int) (h1 : 128 ≤ r) (h2 : r ≤ 1114111) : (∃ a b : UInt8, Utf8.encode r = ⟨#[a, b]⟩ ∧ 128 ≤ (b.toNat : Int)) ∨ ∃ x : ByteArray, Utf8.encode r = x ∧ 3 ≤ x.size ∧ x.size ≤ 4 := by
  have hb : ∀ n, n < 64 → 128 ≤ ((UInt8.ofNat (128 + n)).toNat : Int) := fun n hn => by
    rw [UInt8.toNat_ofNat_of_lt' (show 128 + n < UInt8.size by have : UInt8.size = 256 := rfl; omega)]; omega
  have hc : 128 ≤ (if Utf8.valid r then r.toNat else Utf8.runeError) := by split; omega; decide
  have he : Utf8.encode r = (if (if Utf8.valid r then r.toNat else Utf8.runeError) < 0x80 then ⟨#[UInt8.ofNat (if Utf8.valid r then r.toNat else Utf8.runeError)]⟩
    else if (if Utf8.valid r then r.toNat else Utf8.runeError) < 0x800 then ⟨#[UInt8.ofNat (0xC0 + (if Utf8.valid r then r.toNat else Utf8.runeError) / 64), UInt8.ofNat (0x80 + (if Utf8.valid r then r.toNat else Utf8.runeError) % 64)]⟩
    else if (if Utf8.valid r then r.toNat else Utf8.runeError) < 0x10000 then ⟨#[UInt8.ofNat (0xE0 + (if Utf8.valid r then r.toNat else Utf8.runeError) / 4096), UInt8.ofNat (0x80 + (if Utf8.valid r then r.toNat else Utf8.runeError) / 64 % 64), UInt8.ofNat (0x80 + (if Utf8.valid r then r.toNat else Utf8.runeError) % 64)]⟩
    else ⟨#[UInt8.ofNat (0xF0 + (if Utf8.valid r then r.toNat else Utf8.runeError) / 262144), UInt8.ofNat (0x80 + (if Utf8.valid r then r.toNat else Utf8.runeError) / 4096 % 64), UInt8.ofNat (0x80 + (if Utf8.valid r then r.toNat else Utf8.runeError) / 64 % 64), UInt8.ofNat (0x80 + (if Utf8.valid r then r.toNat else Utf8.runeError) % 64)]⟩) := rfl
  generalize (if Utf8.valid r then r.toNat else Utf8.runeError) = c at hc he
  rw [if_neg (by omega)] at he
  by_cases h3 : c < 0x800
  · rw [if_pos h3] at he
    exact .inl ⟨_, _, he, hb _ (by omega)⟩
  · rw [if_neg h3] at he
    by_cases h4 : c < 0x10000
    · rw [if_pos h4] at he
      exact .inr ⟨_, he, (show 3 ≤ 3 by decide), (show 3 ≤ 4 by decide)⟩
    · rw [if_neg h4] at he
      exact .inr ⟨_, he, (show 3 ≤ 4 by decide), (show 4 ≤ 4 by decide)⟩

theorem quiet_add_same {P : Program} {f : FuncId} {args : Array Value} {w : World} {a n : Nat} {v : Value}
    (h : Calls P f args (w.drewN (a + n)) fun e w' => e = .returned v ∧ w' = w.drewN (a + n)) :
    Calls P f args (w.drewN (a + n)) fun e w'' => e = .returned v ∧ ∃ m, w'' = w.drewN (a + m) :=
  h.mono fun _ _ ⟨he, hm⟩ => ⟨he, n, hm⟩
theorem below_iter (w : World) (s : ByteArray) (p : Nat) : Below w.heap.size w (w.iter s p) := (Below.refl _ _).alloc (Nat.le_refl _) _

set_option maxHeartbeats 1000000 in
set_option maxRecDepth 100000 in
theorem indexRune_hi (r : Int) (w : World) (h1 : 128 ≤ r) (h2 : r ≤ 1114111) :
    Calls Try.prog 42 #[.string ⟨#[60, 62]⟩, .int .i32 r] w fun e w' => e = .returned (.int .i64 (-1)) ∧ Below w.heap.size w w' := by
  have hlt : decide (r < 128) = false := decide_eq_false (by omega)
  by_cases he : r = 65533
  · subst he
    have n0 := fun ty => run_next_ascii (P := Try.prog) w ⟨#[60, 62]⟩ 0 ty (by decide) (by decide)
    have n1 := fun ty => run_next_ascii (P := Try.prog) w ⟨#[60, 62]⟩ 1 ty (by decide) (by decide)
    have n2 := fun ty => run_next_end (P := Try.prog) w ⟨#[60, 62]⟩ 2 ty (by decide)
    go_enter Try.func42, Try.ntmps42
    go_wp2
    go_loopg [5, 6] 2 (fun g _ _ wx => ∃ i : Nat, i + g = 2 ∧ wx = w.iter ⟨#[60, 62]⟩ i)
    case atStart => exact ⟨0, rfl, rfl⟩
    case round =>
      obtain ⟨i, hig, rfl⟩ := hrel
      cases gk with
      | zero =>
        obtain rfl : i = 2 := by omega
        go_wp2
        go_ret
        exact ⟨rfl, below_iter _ _ _⟩
      | succ g =>
        obtain rfl | rfl : i = 0 ∨ i = 1 := by omega
        · go_wp2
          go_roundg g
          case rel => exact ⟨1, by omega, rfl⟩
          case measure => omega
        · go_wp2
          go_roundg g
          case rel => exact ⟨2, by omega, rfl⟩
          case measure => omega
  have heb : (r == 65533) = false := beq_eq_false_iff_ne.2 he
  clear he
  rcases hv : Lib.validRune r with _ | _
  · have Hv := Lib.hid hv
    clear hv
    go_enter Try.func42, Try.ntmps42
    go_wp2_with fail
    refine (Try.utf8_ValidRune r _).mono ?_
    rintro e w' ⟨rfl, rfl⟩
    rw [Hv.out]
    go_wp2
    go_ret
    exact ⟨rfl, Below.refl _ _⟩
  · have Hv := Lib.hid hv
    clear hv
    rcases enc_facts r h1 h2 with ⟨a, b, hx, hb⟩ | ⟨x, hx, hx3, hx4⟩
    · have hne : ((62 : Int) != (b.toNat : Int)) = true := by rw [bne_iff_ne]; omega
      have hne2 : ((((⟨#[60, 62]⟩ : ByteArray)[1]'(show 1 < 2 by decide)).toNat : Int) != (((⟨#[a, b]⟩ : ByteArray)[1]'(show 1 < 2 by decide)).toNat : Int)) = true := hne
      have hib : ∀ c, Lib.indexByte (⟨#[]⟩ : ByteArray).data.toList c = -1 := fun _ => rfl
      go_enter Try.func42, Try.ntmps42
      go_wp2_with fail
      refine (Try.utf8_ValidRune r _).mono ?_
      rintro e w' ⟨rfl, rfl⟩
      rw [Hv.out]
      go_wp2_with fail
      go_step3
      go_wp2_with fail
      go_loopg [9, 10] 1 (fun g iv _ wx => g = 1 ∧ iv = .int .i64 1 ∧ wx = w')
      case atStart => exact ⟨rfl, rfl, rfl⟩
      case round =>
        obtain ⟨rfl, rfl, rfl⟩ := hrel
        go_wp2_with fail
        go_step3
        go_wp2_with fail
        go_quiet (fail)
        go_wp2_with fail
        go_quiet ((go_at_call 46; exact quiet_add_same (Try.strings_IndexByte ⟨#[]⟩ _ _)))
        rw [hib]
        go_wp2
        rw [Exit.noGoto_ret]
        go_wp2
        try rw [Exit.noGoto_ret]
        go_ret
        exact ⟨rfl, below_drewN (Below.refl _ _) _⟩
    · go_enter Try.func42, Try.ntmps42
      go_wp2_with fail
      refine (Try.utf8_ValidRune r _).mono ?_
      rintro e w' ⟨rfl, rfl⟩
      rw [Hv.out]
      go_wp2_with fail
      go_step3
      go_wp2_with fail
      go_loopg [9, 10] 1 (fun g iv _ wx => g = 1 ∧ iv = .int .i64 ((x.size : Int) - 1) ∧ wx = w')
      case atStart => exact ⟨rfl, rfl, rfl⟩
      case round =>
        obtain ⟨rfl, rfl, rfl⟩ := hrel
        go_wp2
        try rw [Exit.noGoto_ret]
        go_ret
        exact ⟨rfl, Below.refl _ _⟩

/-- no sign of an address among the first i bytes -/
def NoAngle (l : Bs) (i : Nat) : Prop := ∀ j c, j < i → l[j]? = some c → isAngle c = false
theorem noAngle_any {l : Bs} {i : Nat} (h : NoAngle l i) (hi : l.length ≤ i) : l.any isAngle = false := by
  rw [List.any_eq_false]
  intro c hc
  obtain ⟨j, hj⟩ := List.mem_iff_getElem?.1 hc
  rw [h j c (by have := (List.getElem?_eq_some_iff.1 hj).1; omega) hj]; decide
theorem angle_any {l : Bs} {i : Nat} {c : UInt8} (h : l[i]? = some c) (hc : isAngle c = true) : l.any isAngle = true := List.any_eq_true.2 ⟨c, List.mem_of_getElem? h, hc⟩

structure ItAt (s : ByteArray) (w : World) (i : Nat) (wr : World) : Prop where
  it : wr.heap[w.heap.size]? = some (.stringIter s i)
  bel : Below w.heap.size w wr
  no : NoAngle s.data.toList i
theorem ItAt.start (s : ByteArray) (w : World) : ItAt s w 0 (w.iter s 0) := ⟨World.iter_heap w s 0, below_iter w s 0, fun _ _ hj => absurd hj (Nat.not_lt_zero _)⟩
theorem ItAt.belAt {s : ByteArray} {w wr : World} {i : Nat} (h : ItAt s w i wr) (j : Nat) : Below w.heap.size w (wr.iterAt w.heap.size s j) := by
  refine ⟨h.bel.os, h.bel.tape, h.bel.output, ?_, fun k hk => ?_⟩
  · have := h.bel.size
    simpa [World.iterAt] using this
  · rw [← h.bel.block k hk]
    simp only [World.iterAt]
    rw [Array.getElem?_setIfInBounds_ne (by omega)]
theorem ItAt.step {s : ByteArray} {w wr : World} {i j : Nat} (h : ItAt s w i wr) (hn : NoAngle s.data.toList j) : ItAt s w j (wr.iterAt w.heap.size s j) := by
  refine ⟨?_, h.belAt j, hn⟩
  simp [World.iterAt, blk_lt h.it]
theorem ItAt.below {s : ByteArray} {w wr w2 : World} {i : Nat} (h : ItAt s w i wr) (hb : Below wr.heap.size wr w2) : ItAt s w i w2 :=
  ⟨blk_below h.it hb (blk_lt h.it), h.bel.trans (hb.mono (Nat.le_of_lt (blk_lt h.it))), h.no⟩
theorem noAngle_step {l : Bs} {i j : Nat} (h : NoAngle l i) (hs : ∀ k, i ≤ k → k < j → ∀ c, l[k]? = some c → isAngle c = false) : NoAngle l j := fun k c hk hc => by
  rcases Nat.lt_or_ge k i with h1 | h1
  · exact h k c h1 hc
  · exact hs k h1 hk c hc
theorem get_list {s : ByteArray} {k : Nat} {c : UInt8} (h : s.data.toList[k]? = some c) : s.get! k = c := by
  have hk : k < s.size := by rw [← size_list]; exact (List.getElem?_eq_some_iff.1 h).1
  rw [get_at s k hk, ← sget' s k hk]
  exact (List.getElem?_eq_some_iff.1 h).2
theorem idx_angle (c : UInt8) : decide (0 ≤ Lib.indexByte [60, 62] c) = isAngle c := by
  by_cases h1 : c = 60
  · subst h1; decide
  · by_cases h2 : c = 62
    · subst h2; decide
    · have e1 : (60 == c) = false := beq_eq_false_iff_ne.2 (Ne.symm h1)
      have e2 : (62 == c) = false := beq_eq_false_iff_ne.2 (Ne.symm h2)
      simp [Lib.indexByte, isAngle, h1, h2, e1, e2]

set_option maxHeartbeats 1000000 in
/-- strings.IndexAny at a short text: at least 0 just if one of the two signs stands in it -/
theorem indexAny_short (s : ByteArray) (w : World) (h8 : s.size ≤ 8) :
    Calls Try.prog 38 #[.string s, .string ⟨#[60, 62]⟩] w fun e w' => ∃ n : Int, e = .returned (.int .i64 n) ∧ decide (0 ≤ n) = s.data.toList.any isAngle ∧ Below w.heap.size w w' := by
  have h8z : decide ((8 : Int) < (s.size : Int)) = false := decide_eq_false (by omega)
  go_enter Try.func38, Try.ntmps38
  go_wp2_with fail
  refine (Try.strings_shouldUseASCIISet _ _).mono ?_
  rintro e w' ⟨rfl, rfl⟩
  rw [h8z]
  go_wp2_with fail
  have h0 := Lib.hid (ItAt.start s w')
  generalize w'.iter s 0 = w0 at h0 ⊢
  go_loopg [9, 10] s.size (fun g _ _ wx => ∃ i : Nat, i ≤ s.size ∧ s.size ≤ i + g ∧ Hid (ItAt s w' i wx))
  case atStart => exact ⟨0, Nat.zero_le _, by omega, h0⟩
  case round =>
    obtain ⟨i, hi, hig, hr⟩ := hrel
    by_cases hlt : i < s.size
    · obtain ⟨g, rfl⟩ : ∃ g, gk = g + 1 := ⟨gk - 1, by omega⟩
      have hnx := fun ty => Lib.run_next_any_at (P := Try.prog) wr w'.heap.size s i ty hr.out.it hlt
      have hx : s.data.toList[i]? = some (s.get! i) := by
        rw [List.getElem?_eq_getElem (by rw [size_list]; exact hlt), get_at s i hlt]; rfl
      by_cases h128 : (s.get! i).toNat < 128
      · have hdec : Utf8.decode s i = ((s.get! i).toNat, 1) := by simp [Utf8.decode, h128]
        rw [hdec] at hnx
        have hback : ((s.get! i).toNat : Int).toNat.toUInt8 = s.get! i := by simp
        obtain ⟨n, hn⟩ : ∃ n, Lib.indexByte (⟨#[60, 62]⟩ : ByteArray).data.toList ((s.get! i).toNat : Int).toNat.toUInt8 = n := ⟨_, rfl⟩
        have hia : decide (0 ≤ n) = isAngle (s.get! i) := by rw [← hn, hback]; exact idx_angle _
        have Hn := Lib.hid hn
        clear hn hback hdec
        rcases hangle : isAngle (s.get! i) with _ | _
        · have hstep := Lib.hid (hr.out.step (j := i + 1) (noAngle_step hr.out.no (fun k h1 h2 c hc => by
            obtain rfl : k = i := by omega
            rw [hx] at hc; injection hc with hc; rw [← hc]; exact hangle)))
          rw [hangle] at hia
          clear hx hangle
          go_wp2_with fail
          refine (Try.strings_IndexRune_ascii ⟨#[60, 62]⟩ _ _ (by omega) (by omega)).mono ?_
          rintro e w2 ⟨rfl, rfl⟩
          rw [Hn.out]
          go_wp2
          go_roundg g
          case rel => exact ⟨i + 1, by omega, by omega, hstep⟩
          case measure => omega
        · have Hany := Lib.hid (angle_any hx hangle)
          rw [hangle] at hia
          have Hi := Lib.hid hlt
          clear hx hangle
          go_wp2_with fail
          refine (Try.strings_IndexRune_ascii ⟨#[60, 62]⟩ _ _ (by omega) (by omega)).mono ?_
          rintro e w2 ⟨rfl, rfl⟩
          rw [Hn.out]
          go_wp2
          go_ret
          exact ⟨_, rfl, by rw [Hany.out]; exact decide_eq_true (by omega), hr.out.belAt _⟩
      · have hd := decode_hi s i hlt (by omega)
        generalize hdr : Utf8.decode s i = rn at hd hnx
        obtain ⟨r, n⟩ := rn
        obtain ⟨hd1, hd2, hd3, hd4⟩ := hd
        simp only at hd1 hd2 hd3 hd4 hnx
        have hin : i + n ≤ s.size := by have := (hd4 (n - 1) (by omega)).1; omega
        have hstep := Lib.hid (hr.out.step (j := i + n) (noAngle_step hr.out.no (fun k h1 h2 c hc => by
            have h3 := (hd4 (k - i) (by omega)).2
            rw [show i + (k - i) = k by omega, get_list hc] at h3
            have e1 : c ≠ 60 := fun e => by rw [e] at h3; exact absurd h3 (by decide)
            have e2 : c ≠ 62 := fun e => by rw [e] at h3; exact absurd h3 (by decide)
            simp [isAngle, e1, e2])))
        clear hd4 hdr hx
        go_wp2_with fail
        generalize wr.iterAt w'.heap.size s (i + n) = w3 at hstep ⊢
        refine (indexRune_hi (r : Int) _ (by omega) (by omega)).mono ?_
        rintro e w2 ⟨rfl, hb⟩
        have hs2 := Lib.hid (hstep.out.below hb)
        clear hb
        go_wp2
        go_roundg g
        case rel => exact ⟨i + n, by omega, by omega, hs2⟩
        case measure => omega
    · have hnx := fun ty => Lib.run_next_end_at (P := Try.prog) wr w'.heap.size s i ty hr.out.it hlt
      have Hfin := Lib.hid (noAngle_any hr.out.no (by rw [size_list]; omega))
      go_wp2
      go_ret
      exact ⟨_, rfl, by rw [Hfin.out]; decide, hr.out.bel⟩
end Go.Proofs.Ytnckfgihbimacaa.LM

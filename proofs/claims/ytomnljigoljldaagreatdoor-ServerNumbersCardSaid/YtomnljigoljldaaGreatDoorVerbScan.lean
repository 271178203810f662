/- What (*scanner).scan of layer 21 does. Conditions: lengths, and a plain text. -/
import Derived.Test.YtomnljigoljldaaGreatDoorVerbUnq
namespace Go.Proofs.YtomnljigoljldaaGreatDoor.VB
open Go.RowKit Mailsack MM BU

def ScanPost (B b : Nat) (R : Option (List Tok × Nat)) (w : World) (e : Ending) (w' : World) : Prop :=
  match R with
  | none => e = .returned (.bool false) ∧ Below B w w'
  | some (T, d) => e = .returned (.bool true) ∧ Scn B b T d w' ∧ Below B w w'
theorem plain_drop {s : ByteArray} (h : plainP s.data.toList = true) (k : Nat) : plainP (s.extract k s.size).data.toList = true := by
  unfold plainP at *
  rw [List.all_eq_true] at *
  intro x hx
  refine h x ?_
  rw [ByteArray.data_extract, Array.toList_extract] at hx
  exact List.mem_of_mem_drop (List.mem_of_mem_take hx)
theorem ext_drop (s : ByteArray) (k : Nat) : (s.extract k s.size).data.toList = s.data.toList.drop k := by
  rw [ByteArray.data_extract, Array.toList_extract]
  simp only [List.extract]
  rw [List.take_of_length_le]
  rw [drop_len]
  exact Nat.le_refl _
theorem ext_word (s : ByteArray) (k n : Nat) : (s.extract k (k + n)).data.toList = (s.data.toList.drop k).take n := by
  rw [ByteArray.data_extract, Array.toList_extract]
  simp only [List.extract]
  rw [Nat.add_sub_cancel_left]

set_option maxHeartbeats 8000000 in
set_option maxRecDepth 100000 in
theorem scan_any (B b : Nat) (T0 : List Tok) (d0 : Nat) (s : ByteArray) (w : World) (h : Scn B b T0 d0 w) (hB : B ≤ w.heap.size) (hs : s.size ≤ 1000000) (hp : plainP s.data.toList = true) (hd0 : d0 ≤ 1000000000000) :
    Calls Tryz.prog 131 #[.pointer (some ⟨b, 0, none⟩), .string s] w (ScanPost B b (scanF s.size s.data.toList T0 d0) w) := by
  generalize hR : scanF s.size s.data.toList T0 d0 = R
  have h0 : Hid (scanF s.size (s.data.toList.drop 0) T0 d0 = R) := Lib.hid hR
  have Hp := Lib.hid hp
  have hw := Lib.hid h
  clear hR hp h
  go_enter Tryz.func131, Tryz.ntmps131
  go_wp2_with fail
  go_loopw [5] (fun iv wr => ∃ (k f : Nat) (T : List Tok) (d : Nat), k ≤ s.size ∧ s.size - k ≤ f ∧ d ≤ 1000000000000 + k ∧ iv = .int .i64 k ∧ Hid (scanF f (s.data.toList.drop k) T d = R) ∧ Hid (Scn B b T d wr ∧ Below B w wr)) (fun iv _ => s.size - (intOf iv).toNat)
  case atStart => exact ⟨0, s.size, T0, d0, Nat.zero_le _, by omega, by omega, rfl, h0, Lib.hid ⟨hw.out, Below.refl _ _⟩⟩
  case round =>
    obtain ⟨k, f, T, d, hk, hf, hd, rfl, HR0, hr⟩ := hrel
    have hR := HR0.out
    clear h0 hw HR0
    by_cases hlt : k < s.size
    · rw [drop_get s k hlt] at hR
      obtain ⟨f, rfl⟩ : ∃ f', f = f' + 1 := ⟨f - 1, by omega⟩
      unfold scanF at hR
      by_cases h32 : s[k] = 32
      · rw [if_pos h32] at hR
        have HR := Lib.hid hR
        have b32 : ((s[k].toNat : Int) == 32) = true := by rw [h32]; rfl
        clear hR h32
        go_wp2
        go_roundw
        case rel => exact ⟨k + 1, f, T, d, by omega, by omega, by omega, by go_num, HR, hr⟩
        case measure => simp [intOf]; omega
      rw [if_neg h32] at hR
      have b32 : ((s[k].toNat : Int) == 32) = false := by rw [beq_eq_false_iff_ne]; intro e; exact h32 ((byte_eq (by decide)).1 e)
      by_cases h40 : s[k] = 40
      · rw [if_pos h40] at hR
        have HR := Lib.hid hR
        have b40 : ((s[k].toNat : Int) == 40) = true := by rw [h40]; rfl
        clear hR h32 h40
        obtain ⟨hBb, hT, v0, hbk, _, _⟩ := hr.out.1
        have c1 : wr.cell? ⟨b, 1, none⟩ = some (.int .i64 d) := cell_blk hbk 1
        have y1 : wr.frozen? ⟨b, 1, none⟩ = false := free_blk hbk 1
        have hblt := blk_lt hbk
        clear hbk hT
        have hs1 := Lib.hid (hr.out.1.deep (d + 1))
        have hb1 := Lib.hid (hr.out.2.setCell (p := ⟨b, 1, none⟩) hBb (.int .i64 (((d + 1) : Nat) : Int)))
        have hz1 : B ≤ (wr.setCell ⟨b, 1, none⟩ (.int .i64 (((d + 1) : Nat) : Int))).heap.size := by rw [size_set]; exact Nat.le_trans hB hr.out.2.size
        rw [show (((d + 1) : Nat) : Int) = (d : Int) + 1 by omega] at hs1 hb1 hz1
        go_wp2_with fail
        refine (add_any B b T (d + 1) 2 ⟨#[]⟩ _ hs1.out hz1).mono ?_
        rintro e w4 ⟨rfl, hq4, hb4⟩
        have h4 : Hid (Scn B b (addP T (2, [])) (d + 1) w4 ∧ Below B w w4) := Lib.hid ⟨hq4, hb1.out.trans hb4⟩
        clear hq4 hb4 hs1 hb1
        go_wp2
        go_roundw
        case rel => exact ⟨k + 1, f, addP T (2, []), (d + 1), by omega, by omega, by omega, by go_num, HR, h4⟩
        case measure => simp [intOf]; omega
      rw [if_neg h40] at hR
      have b40 : ((s[k].toNat : Int) == 40) = false := by rw [beq_eq_false_iff_ne]; intro e; exact h40 ((byte_eq (by decide)).1 e)
      by_cases h41 : s[k] = 41
      · rw [if_pos h41] at hR
        have b41 : ((s[k].toNat : Int) == 41) = true := by rw [h41]; rfl
        by_cases hdz : d = 0
        · rw [if_pos hdz] at hR
          have HR := Lib.hid hR.symm
          clear hR h32 h40 h41
          subst hdz
          obtain ⟨hBb, hT, v0, hbk, _, _⟩ := hr.out.1
          have c1 : wr.cell? ⟨b, 1, none⟩ = some (.int .i64 0) := cell_blk hbk 1
          have y1 : wr.frozen? ⟨b, 1, none⟩ = false := free_blk hbk 1
          have hblt := blk_lt hbk
          clear hbk hT
          go_wp2
          go_ret
          rw [HR.out]
          exact ⟨rfl, hr.out.2⟩
        · rw [if_neg hdz] at hR
          have HR := Lib.hid hR
          have z0 : ((d : Int) == 0) = false := by rw [beq_eq_false_iff_ne]; omega
          clear hR h32 h40 h41
          obtain ⟨hBb, hT, v0, hbk, _, _⟩ := hr.out.1
          have c1 : wr.cell? ⟨b, 1, none⟩ = some (.int .i64 d) := cell_blk hbk 1
          have y1 : wr.frozen? ⟨b, 1, none⟩ = false := free_blk hbk 1
          have hblt := blk_lt hbk
          clear hbk hT
          have hs1 := Lib.hid (hr.out.1.deep (d - 1))
          have hb1 := Lib.hid (hr.out.2.setCell (p := ⟨b, 1, none⟩) hBb (.int .i64 (((d - 1) : Nat) : Int)))
          have hz1 : B ≤ (wr.setCell ⟨b, 1, none⟩ (.int .i64 (((d - 1) : Nat) : Int))).heap.size := by rw [size_set]; exact Nat.le_trans hB hr.out.2.size
          rw [show (((d - 1) : Nat) : Int) = (d : Int) - 1 by omega] at hs1 hb1 hz1
          go_wp2_with fail
          refine (add_any B b T (d - 1) 3 ⟨#[]⟩ _ hs1.out hz1).mono ?_
          rintro e w4 ⟨rfl, hq4, hb4⟩
          have h4 : Hid (Scn B b (addP T (3, [])) (d - 1) w4 ∧ Below B w w4) := Lib.hid ⟨hq4, hb1.out.trans hb4⟩
          clear hq4 hb4 hs1 hb1
          go_wp2
          go_roundw
          case rel => exact ⟨k + 1, f, addP T (3, []), (d - 1), by omega, by omega, by omega, by go_num, HR, h4⟩
          case measure => simp [intOf]; omega
      rw [if_neg h41] at hR
      have b41 : ((s[k].toNat : Int) == 41) = false := by rw [beq_eq_false_iff_ne]; intro e; exact h41 ((byte_eq (by decide)).1 e)
      by_cases h34 : s[k] = 34
      · rw [if_pos h34] at hR
        have b34 : ((s[k].toNat : Int) == 34) = true := by rw [h34]; rfl
        have E3 := unq_any s (k + 1)
        rw [show ((k + 1 : Nat) : Int) = (k : Int) + 1 by omega] at E3
        generalize hU : unqA [] (s.data.toList.drop (k + 1)) = U at hR E3
        cases U with
        | none =>
          simp only at hR
          have HR := Lib.hid hR.symm
          have HE := Lib.hid E3
          clear hR h32 h40 h41 h34 hU E3
          go_wp2_with fail
          refine (HE.out _ hs (by omega)).mono ?_
          rintro e w3 ⟨he, hb3⟩
          change e = .returned (.tuple #[.string ⟨#[]⟩, .int .i64 0, .bool false]) at he
          subst he
          go_wp2
          go_ret
          rw [HR.out]
          exact ⟨rfl, hr.out.2.trans (hb3.mono (Nat.le_trans hB hr.out.2.size))⟩
        | some qn =>
          obtain ⟨q, n⟩ := qn
          have hn := unqA_le _ _ _ _ hU
          rw [drop_len] at hn
          simp only at hR
          rw [List.drop_drop, drop_len, show k + 1 + (s.size - (k + 1) - n) = s.size - n by omega] at hR
          have HR := Lib.hid hR
          have HE := Lib.hid E3
          clear hR h32 h40 h41 h34 hU E3
          go_wp2_with fail
          refine (HE.out _ hs (by omega)).mono ?_
          rintro e w3 ⟨he, hb3⟩
          change e = .returned (.tuple #[strV q, .int .i64 ((s.size - n : Nat) : Int), .bool true]) at he
          subst he
          have hs3 := Lib.hid (hr.out.1.keep hb3)
          have hb3' := Lib.hid (hr.out.2.trans (hb3.mono (Nat.le_trans hB hr.out.2.size)))
          clear hb3
          go_wp2_with fail
          refine (add_any B b T d 1 _ _ hs3.out (Nat.le_trans hB hb3'.out.size)).mono ?_
          rintro e w4 ⟨rfl, hq4, hb4⟩
          have h4 : Hid (Scn B b (addP T (1, q)) d w4 ∧ Below B w w4) := Lib.hid ⟨hq4, hb3'.out.trans hb4⟩
          clear hq4 hb4 hs3 hb3'
          go_wp2
          go_roundw
          case rel => exact ⟨s.size - n, f, addP T (1, q), d, by omega, by omega, by omega, rfl, HR, h4⟩
          case measure => simp [intOf]; omega
      rw [if_neg h34] at hR
      have b34 : ((s[k].toNat : Int) == 34) = false := by rw [beq_eq_false_iff_ne]; intro e; exact h34 ((byte_eq (by decide)).1 e)
      have hsp : specialB s[k] = false := by simp [specialB, h32, h40, h41, h34]
      have hpos := wordLen_pos (r := s.data.toList.drop (k + 1)) hsp
      have hle := wordLen_le (s.data.toList.drop k)
      rw [← drop_get s k hlt] at hR hpos
      rw [drop_len] at hle
      have HE := Lib.hid (fun w => word_any (s.extract k s.size) w (by rw [← size_list, ext_drop, drop_len]; omega) (plain_drop Hp.out k))
      rw [ext_drop] at HE
      generalize wordLen (s.data.toList.drop k) = n at hR hpos hle HE
      rw [List.drop_drop, ← ext_word] at hR
      have HR := Lib.hid hR
      clear hR h32 h40 h41 h34 hsp
      go_wp2_with fail
      refine (HE.out _).mono ?_
      rintro e w3 ⟨rfl, hb3⟩
      have hs3 := Lib.hid (hr.out.1.keep hb3)
      have hb3' := Lib.hid (hr.out.2.trans (hb3.mono (Nat.le_trans hB hr.out.2.size)))
      clear hb3
      go_wp2_with fail
      refine (add_any B b T d 0 (s.extract k (k + n)) _ hs3.out (Nat.le_trans hB hb3'.out.size)).mono ?_
      rintro e w4 ⟨rfl, hq4, hb4⟩
      have h4 : Hid (Scn B b (addP T (0, (s.extract k (k + n)).data.toList)) d w4 ∧ Below B w w4) := Lib.hid ⟨hq4, hb3'.out.trans hb4⟩
      clear hq4 hb4 hs3 hb3'
      go_wp2
      go_roundw
      case rel => exact ⟨k + n, f, addP T (0, (s.extract k (k + n)).data.toList), d, by omega, by omega, by omega, by go_num, HR, h4⟩
      case measure => simp [intOf]; omega
    · rw [drop_end s k (by omega)] at hR
      have hR' : some (T, d) = R := by
        rw [← hR]; cases f <;> rfl
      have HR := Lib.hid hR'.symm
      clear hR hR'
      go_wp2
      go_ret
      rw [HR.out]
      exact ⟨rfl, hr.out⟩
end Go.Proofs.YtomnljigoljldaaGreatDoor.VB

/- What imap.Flags, imap.FlagsOf and the document's ones return. Conditions: lengths. -/
import Derived.Test.YtiapdhllphcnnaaGreatDoorFlagsPlain
import Derived.Test.YtiapdhllphcnnaaGreatDoorMem
import Derived.Test.YtiapdhllphcnnaaGreatDoorReg
import Derived.Test.YtiapdhllphcnnaaGreatDoorVerbRup
namespace Go.Proofs.YtiapdhllphcnnaaGreatDoor.IM
open Go.RowKit Mailsack MM

abbrev fwB (i : Nat) : ByteArray := ⟨(fw i).toArray⟩
theorem words_any (w : World) : Calls Tryz.prog 17 #[] w fun e w' => e = .returned (.slice (some ⟨w.heap.size, 0, none⟩) 6 6) ∧ w' = w.alloc (.cells (fwL.map strV).toArray 9) := by
  go_enter Tryz.func17, Tryz.ntmps17
  go_wp2
  go_ret
  exact ⟨rfl, rfl⟩
theorem names_any (w : World) : Calls Tryz.prog 16 #[] w fun e w' => e = .returned (.slice (some ⟨w.heap.size, 0, none⟩) 6 6) ∧ w' = w.alloc (.cells (fwL.map strV).toArray 9) := by
  go_enter Tryz.func16, Tryz.ntmps16
  go_wp2
  go_ret
  exact ⟨rfl, rfl⟩
theorem word_cell {w : World} {k : Nat} (hk : k < 6) {W : World} (hb : Below (w.alloc (.cells (fwL.map strV).toArray 9)).heap.size (w.alloc (.cells (fwL.map strV).toArray 9)) W) : W.cell? ⟨w.heap.size, k, none⟩ = some (strV (fw k)) := by
  rw [hb.cell (p := ⟨w.heap.size, k, none⟩) (by simp), cell_blk (blk_new w (.cells (fwL.map strV).toArray 9))]
  have : k = 0 ∨ k = 1 ∨ k = 2 ∨ k = 3 ∨ k = 4 ∨ k = 5 := by omega
  rcases this with rfl | rfl | rfl | rfl | rfl | rfl <;> rfl
theorem fw_short : ∀ k : Fin 6, (fw k).length ≤ 9 := by decide
theorem str_eqF (s : Bs) (k : Nat) : ((⟨(upP s).toArray⟩ : ByteArray).toList == (⟨(upP (fw k)).toArray⟩ : ByteArray).toList) = eqF s k := by
  rw [ByteArray.toList_eq, ByteArray.toList_eq]
  rfl

set_option maxHeartbeats 1000000 in
set_option maxRecDepth 100000 in
theorem flagOf_any (s : ByteArray) (w : World) (hs : s.size ≤ 1000000) :
    Calls Tryz.prog 14 #[.string s] w fun e w' => e = .returned (.int .i64 (flagOfP s.data.toList)) ∧ Below w.heap.size w w' := by
  go_enter Tryz.func14, Tryz.ntmps14
  go_wp2_with fail
  refine (words_any _).mono ?_
  rintro e w1 ⟨rfl, hw1⟩
  have hW : Hid (w1 = w.alloc (.cells (fwL.map strV).toArray 9)) := Lib.hid hw1
  have HB := Lib.hid ((Below.refl w.heap.size w).alloc (Nat.le_refl _) (.cells (fwL.map strV).toArray 9))
  clear hw1
  go_wp2_with fail
  go_loopw [7] (fun iv wr => ∃ k : Nat, k ≤ 6 ∧ iv = .int .i64 k ∧ Hid ((∀ j, j < k → j < 5 → eqF s.data.toList j = false) ∧ Below (w.alloc (.cells (fwL.map strV).toArray 9)).heap.size (w.alloc (.cells (fwL.map strV).toArray 9)) wr)) (fun iv _ => 6 - (intOf iv).toNat)
  case atStart => exact ⟨0, by decide, rfl, Lib.hid ⟨fun j hj => by omega, by rw [hW.out]; exact Below.refl _ _⟩⟩
  case round =>
    obtain ⟨k, hk, rfl, hr⟩ := hrel
    by_cases hlt : k < 6
    · have hc := word_cell hlt hr.out.2
      have E1 := Lib.hid (fun W => VB.upper_any s W (by omega))
      have E2 := Lib.hid (fun W => VB.upper_any (fwB k) W (by have := fw_short ⟨k, hlt⟩; show (fw k).length < _; simp only at this; omega))
      rw [show (fwB k).data.toList = fw k from rfl] at E2
      have e3 := str_eqF s.data.toList k
      generalize hb : eqF s.data.toList k = b at e3
      have Hb := Lib.hid hb
      clear hb
      unfold strV at E1 E2
      generalize (⟨(upP s.data.toList).toArray⟩ : ByteArray) = u at E1 e3
      generalize (⟨(upP (fw k)).toArray⟩ : ByteArray) = v at E2 e3
      go_wp2_with fail
      refine (E1.out _).mono ?_
      rintro e w2 ⟨rfl, hb2⟩
      have HB2 := Lib.hid (hr.out.2.trans (hb2.mono hr.out.2.size))
      clear hb2 hc
      go_wp2_with fail
      refine (E2.out _).mono ?_
      rintro e w3 ⟨rfl, hb3⟩
      have HB3 := Lib.hid (HB2.out.trans (hb3.mono HB2.out.size))
      clear hb3
      cases b
      · go_wp2
        exact ⟨⟨k + 1, by omega, by go_num, Lib.hid ⟨fun j hj h5 => by
          by_cases e : j = k
          · rw [e]; exact Hb.out
          · exact hr.out.1 j (by omega) h5, HB3.out⟩⟩, by simp [intOf]; omega⟩
      · have h6 : k = 0 ∨ k = 1 ∨ k = 2 ∨ k = 3 ∨ k = 4 ∨ k = 5 := by omega
        have HF : Hid (k < 5 → flagOfP s.data.toList = 2 ^ k) := Lib.hid (fun h => flagOfP_hit h Hb.out)
        have HN : Hid (∀ j, j < 5 → j ≠ k → eqF s.data.toList j = false) := Lib.hid (fun j hj hne => by
          cases hc : eqF s.data.toList j with
          | false => rfl
          | true => exact absurd (eqF_one (by omega) (by omega) hc Hb.out) hne)
        rcases h6 with rfl | rfl | rfl | rfl | rfl | rfl
        all_goals
          go_wp2
          first
          | (go_ret; refine ⟨?_, HB.out.trans (HB3.out.mono HB.out.size)⟩; rw [HF.out (by decide)]; rfl)
          | exact ⟨⟨6, by decide, by go_num, Lib.hid ⟨fun j _ h5 => HN.out j h5 (by omega), HB3.out⟩⟩, by simp [intOf]⟩
    · go_wp2
      go_ret
      refine ⟨?_, HB.out.trans (hr.out.2.mono HB.out.size)⟩
      rw [flagOfP_miss (fun j hj => hr.out.1 j (by omega) hj)]
      rfl
end Go.Proofs.YtiapdhllphcnnaaGreatDoor.IM

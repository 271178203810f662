/- What imap.Flags returns; strings.Join of an owned row. Conditions: lengths. -/
import Derived.Test.YtiapdhllphcnnaaGreatDoorImapFlags2
import Derived.Lib.Join
namespace Go.Proofs.YtiapdhllphcnnaaGreatDoor.IM
open Go.RowKit Mailsack MM

theorem infoStr : (Tryz.prog.info? 9).map (fun i => (i.zero, i.size, i.bytes)) = some (some (.string ⟨#[]⟩), 1, 16) := by kernel_rfl
theorem own_some {w : World} {base : Nat} {v : Value} {P : List Bs} (h : OwnS w base v P) (h0 : 0 < P.length) : ∃ g cap, v = .slice (some ⟨g, 0, none⟩) P.length cap ∧ P.length ≤ cap ∧ g < w.heap.size ∧ ∀ j x, P[j]? = some x → w.cell? ⟨g, j, none⟩ = some (strV x) := by
  rcases h.2 with ⟨_, h2⟩ | ⟨g, cap, cur, h1, _, hg, h2, _⟩
  · omega
  · refine ⟨g, cap, h1, h2, blk_lt hg, fun j x hx => ?_⟩
    have := World.ownsRow.cells h (g := g) (by rw [h1]; rfl) j (strV x) (by simp [hx])
    have hadd : (⟨g, 0, none⟩ : Addr).add j = ⟨g, j, none⟩ := by unfold Addr.add; split <;> simp_all
    rw [hadd] at this
    exact this
theorem join_own (v : Value) (P : List Bs) (sep : Bs) (B : Nat) (w : World) (h : OwnS w B v P) (hl : P.length ≤ 1000000) (he : (Lib.join P sep).length ≤ 1000000) :
    Calls Tryz.prog 18 #[v, .string ⟨sep.toArray⟩] w fun e w' => e = .returned (strV (Lib.join P sep)) ∧ Below w.heap.size w w' := by
  by_cases h0 : 0 < P.length
  · obtain ⟨g, cap, rfl, hcap, hg, hc⟩ := own_some h h0
    have hmap : (P.map (fun y => (⟨y.toArray⟩ : ByteArray))).map (·.data.toList) = P := by rw [List.map_map]; exact List.map_id _
    have hJ := Tryz.strings_Join g 0 cap (P.map (fun y => (⟨y.toArray⟩ : ByteArray))) ⟨sep.toArray⟩ w (fun j x hx => by
        rw [List.getElem?_map] at hx
        cases hy : P[j]? with
        | none => rw [hy] at hx; cases hx
        | some y =>
          rw [hy] at hx
          simp only [Option.map_some, Option.some.injEq] at hx
          rw [Nat.zero_add, hc j y hy, ← hx]) hg (by rw [List.length_map]; omega) (by rw [List.length_map]; exact hcap)
      (by
        rw [hmap]
        show (Lib.join P sep).length ≤ _
        omega)
    rw [List.length_map, hmap] at hJ
    exact hJ
  · have hP : P = [] := List.eq_nil_of_length_eq_zero (by omega)
    subst hP
    obtain ⟨A, c, rfl, _⟩ := h.form
    refine (Tryz.strings_Join_none A c ⟨sep.toArray⟩ w).mono ?_
    rintro e w' ⟨rfl, rfl⟩
    exact ⟨rfl, Below.refl _ _⟩

theorem bits_and : ∀ n : Fin 64, (bits BinOp.and IntKind.i64 ((n : Nat) : Int) 1 != 0) = flBit n 0 ∧ (bits BinOp.and IntKind.i64 ((n : Nat) : Int) 2 != 0) = flBit n 1 ∧ (bits BinOp.and IntKind.i64 ((n : Nat) : Int) 4 != 0) = flBit n 2 ∧
    (bits BinOp.and IntKind.i64 ((n : Nat) : Int) 8 != 0) = flBit n 3 ∧ (bits BinOp.and IntKind.i64 ((n : Nat) : Int) 16 != 0) = flBit n 4 ∧ (bits BinOp.and IntKind.i64 ((n : Nat) : Int) 32 != 0) = flBit n 5 := by decide +kernel
theorem join_short : ∀ n : Fin 64, (Lib.join (flW n 6) [32]).length ≤ 100 := by decide +kernel

set_option maxHeartbeats 4000000 in
set_option maxRecDepth 100000 in
theorem flags_any (n : Int) (w : World) : Calls Tryz.prog 8 #[.int .i64 n] w fun e w' => e = .returned (strV (flagsP n)) ∧ Below w.heap.size w w' := by
  obtain ⟨i0, hi, hz0, hz1, hz2⟩ := info_parts infoStr
  by_cases h0 : n < 0
  · have HF : Hid (flagsP n = []) := Lib.hid (by unfold flagsP; rw [if_pos (.inl h0)])
    go_enter Tryz.func8, Tryz.ntmps8
    go_wp2
    go_ret
    exact ⟨by rw [HF.out]; rfl, Below.refl _ _⟩
  · by_cases h63 : 63 < n
    · have HF : Hid (flagsP n = []) := Lib.hid (by unfold flagsP; rw [if_pos (.inr h63)])
      go_enter Tryz.func8, Tryz.ntmps8
      go_wp2
      go_ret
      exact ⟨by rw [HF.out]; rfl, Below.refl _ _⟩
    · obtain ⟨m, rfl⟩ : ∃ m : Nat, n = m := ⟨n.toNat, by omega⟩
      have hm : m < 64 := by omega
      have HF : Hid (flagsP (m : Int) = Lib.join (flW m 6) [32]) := Lib.hid (by unfold flagsP; rw [if_neg (by omega)]; rfl)
      have HJ := Lib.hid (join_short ⟨m, hm⟩)
      have HA := Lib.hid (bits_and ⟨m, hm⟩)
      generalize flagsP (m : Int) = R at HF ⊢
      clear h0
      go_enter Tryz.func8, Tryz.ntmps8
      go_wp2_with fail
      refine (words_any _).mono ?_
      rintro e w1 ⟨rfl, hw1⟩
      have hW : Hid (w1 = w.alloc (.cells (fwL.map strV).toArray 9)) := Lib.hid hw1
      have HB := Lib.hid ((Below.refl w.heap.size w).alloc (Nat.le_refl _) (.cells (fwL.map strV).toArray 9))
      clear hw1
      go_wp2_with fail
      go_loopw [3, 14] (fun vv iv wr => ∃ k : Nat, k ≤ 6 ∧ iv = .int .i64 k ∧ Hid (OwnS wr (w.heap.size + 1) vv (flW m k)) ∧ Hid (Below (w.heap.size + 1) (w.alloc (.cells (fwL.map strV).toArray 9)) wr)) (fun _ iv _ => 6 - (intOf iv).toNat)
      case atStart => exact ⟨0, by decide, rfl, Lib.hid (OwnS.nil _ _), Lib.hid (by rw [hW.out]; exact Below.refl _ _)⟩
      case round =>
        obtain ⟨k, hk, rfl, ho, hb⟩ := hrel
        obtain ⟨A, c, rfl, hc⟩ := ho.out.form
        have hle := flW_len m k
        by_cases hlt : k < 6
        · have hcl := word_cell hlt (W := wr) (by have := hb.out; simpa using this)
          have hsz : w.heap.size + 1 ≤ wr.heap.size := by have := hb.out.size; simpa using this
          have HST : Hid (flW m (k + 1) = if flBit m k then flW m k ++ [fw k] else flW m k) := Lib.hid rfl
          have HAk : Hid (∀ j, j < 6 → (bits BinOp.and IntKind.i64 (m : Int) ((2 : Nat) ^ j : Nat) != 0) = flBit m j) := Lib.hid (fun j hj => by
            obtain ⟨a0, a1, a2, a3, a4, a5⟩ := HA.out
            have : j = 0 ∨ j = 1 ∨ j = 2 ∨ j = 3 ∨ j = 4 ∨ j = 5 := by omega
            rcases this with rfl | rfl | rfl | rfl | rfl | rfl <;> assumption)
          have hbit := HAk.out k hlt
          generalize flBit m k = b at HST hbit
          have h6 : k = 0 ∨ k = 1 ∨ k = 2 ∨ k = 3 ∨ k = 4 ∨ k = 5 := by omega
          cases b
          · have HK : Hid (OwnS wr (w.heap.size + 1) (.slice A (flW m k).length c) (flW m (k + 1))) := Lib.hid (by rw [HST.out]; exact ho.out)
            rcases h6 with rfl | rfl | rfl | rfl | rfl | rfl
            all_goals
              simp only [Nat.pow_zero, Nat.reducePow, Int.cast_ofNat_Int] at hbit
              go_wp2
              exact ⟨⟨_, by decide, by go_num, HK, hb⟩, by simp [intOf]⟩
          · obtain ⟨x, hx⟩ : ∃ x, fw k = x := ⟨_, rfl⟩
            rw [hx] at hcl HST
            clear hx
            have HST' : Hid (flW m (k + 1) = flW m k ++ [x]) := Lib.hid (by rw [HST.out, if_pos rfl])
            clear HST
            rcases h6 with rfl | rfl | rfl | rfl | rfl | rfl
            all_goals
              simp only [Nat.pow_zero, Nat.reducePow, Int.cast_ofNat_Int] at hbit
              go_wp2_with (at_builtin; refine wpList_append_lies _ rfl _ _ 22 rfl (w.heap.size + 1) 9 i0 (.string ⟨#[]⟩) 1 16 Tryz.underlying22 hi hz0 hz1 hz2 rfl (by decide) _ _ _ rfl (ho.out.alloc _) ⟨wr.heap.size, 0, none⟩ 1 1 [strV x] rfl rfl (cell_one_new _ _ _) (one_cell_str _) (by decide) (by unfold maxLen; omega) (by omega) (by simp; omega) _ rfl ?_; intro g cap w3 hown1 hgrow1 hloc1 _; have h9 := Lib.hid (push_one ho.out hown1 hgrow1 (loc_of hloc1) hb.out hsz); clear hown1 hgrow1 hloc1)
              first
              | exact ⟨⟨0 + 1, by decide, by go_num, Lib.hid (by rw [HST'.out]; exact h9.out.1), Lib.hid h9.out.2.1⟩, by simp [intOf]⟩
              | exact ⟨⟨1 + 1, by decide, by go_num, Lib.hid (by rw [HST'.out]; exact h9.out.1), Lib.hid h9.out.2.1⟩, by simp [intOf]⟩
              | exact ⟨⟨2 + 1, by decide, by go_num, Lib.hid (by rw [HST'.out]; exact h9.out.1), Lib.hid h9.out.2.1⟩, by simp [intOf]⟩
              | exact ⟨⟨3 + 1, by decide, by go_num, Lib.hid (by rw [HST'.out]; exact h9.out.1), Lib.hid h9.out.2.1⟩, by simp [intOf]⟩
              | exact ⟨⟨4 + 1, by decide, by go_num, Lib.hid (by rw [HST'.out]; exact h9.out.1), Lib.hid h9.out.2.1⟩, by simp [intOf]⟩
              | exact ⟨⟨5 + 1, by decide, by go_num, Lib.hid (by rw [HST'.out]; exact h9.out.1), Lib.hid h9.out.2.1⟩, by simp [intOf]⟩
        · have hk6 : k = 6 := by omega
          subst hk6
          have HJN := Lib.hid (join_own (.slice A (flW m 6).length c) (flW m 6) [32] _ wr ho.out (by omega) (by have := HJ.out; omega))
          rw [← HF.out] at HJN
          go_wp2_with fail
          refine HJN.out.mono ?_
          rintro e w9 ⟨rfl, hb9⟩
          have hbw := hb.out.mono (B' := w.heap.size) (Nat.le_succ _)
          have HB9 := Lib.hid ((HB.out.trans hbw).trans (hb9.mono (HB.out.trans hbw).size))
          clear hb9 hbw
          go_wp2
          go_ret
          exact ⟨rfl, HB9.out⟩
end Go.Proofs.YtiapdhllphcnnaaGreatDoor.IM

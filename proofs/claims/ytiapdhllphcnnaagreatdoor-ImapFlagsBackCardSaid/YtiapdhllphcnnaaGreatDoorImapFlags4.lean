/- What mailsackref22.FlagsOf, Flags and Join return. Conditions: the row reads as these texts; lengths. -/
import Derived.Test.YtiapdhllphcnnaaGreatDoorImapFlags3
import Derived.Test.YtiapdhllphcnnaaGreatDoorVerbRup
namespace Go.Proofs.YtiapdhllphcnnaaGreatDoor.IM
open Go.RowKit Mailsack MM

theorem ten_bits : ∀ n : Fin 32, ∀ k : Fin 5, (Int.tmod (Int.tdiv ((n : Nat) : Int) ((2 ^ (k : Nat) : Nat) : Int)) 2 == 0) = decide ((n : Nat) / 2 ^ (k : Nat) % 2 = 0) := by decide +kernel
theorem refIn_lt {s : Bs} {n : Nat} (hn : n < 32) : ∀ k, k ≤ 5 → (refIn s n k).1 < 32
  | 0, _ => hn
  | k + 1, h => by
    have ih := refIn_lt (s := s) hn k (by omega)
    unfold refIn
    split
    · have := or_add ⟨_, ih⟩ ⟨k, by omega⟩
      simp only at this ⊢
      rw [this]
      exact or_lt ⟨_, ih⟩ ⟨2 ^ k, by have : k = 0 ∨ k = 1 ∨ k = 2 ∨ k = 3 ∨ k = 4 := by omega
                                     rcases this with rfl | rfl | rfl | rfl | rfl <;> decide⟩
    · exact ih

set_option maxHeartbeats 4000000 in
set_option maxRecDepth 100000 in
theorem rflagsOf_any (lv : Value) (L : List Bs) (w : World) (hl : RdS w w.heap.size lv L) (hL : ∀ x ∈ L, x.length ≤ 1000000) (hn : L.length ≤ 1000000) :
    Calls Tryz.prog 7 #[lv] w fun e w' => e = .returned (flOut (flagsOfP L 0)) ∧ Below w.heap.size w w' := by
  obtain ⟨A, c, rfl, hc, hcell⟩ := hl
  have Hc := Lib.hid hcell
  have HL := Lib.hid hL
  clear hcell hL
  have H0 : Hid (flagsOfP L 0 = flagsOfP (L.drop 0) 0) := Lib.hid rfl
  generalize flagsOfP L 0 = R at H0 ⊢
  go_enter Tryz.func7, Tryz.ntmps7
  go_wp2
  go_loopw [4, 12] (fun nv iv wr => ∃ (k n : Nat), k ≤ L.length ∧ n < 32 ∧ nv = .int .i64 n ∧ iv = .int .i64 k ∧ Hid (R = flagsOfP (L.drop k) n ∧ Below w.heap.size w wr)) (fun _ iv _ => L.length - (intOf iv).toNat)
  case atStart => exact ⟨0, 0, Nat.zero_le _, by decide, rfl, rfl, Lib.hid ⟨H0.out, Below.refl _ _⟩⟩
  case round =>
    obtain ⟨k, n, hk, hn32, rfl, rfl, hr⟩ := hrel
    clear H0
    by_cases hlt : k < L.length
    · obtain ⟨b, off, rfl, hb, hcl⟩ := Hc.out (by omega)
      obtain ⟨x, hx⟩ : ∃ x, L[k]? = some x := ⟨_, List.getElem?_eq_getElem hlt⟩
      have q := (hr.out.2.cell (p := ⟨b, off + k, none⟩) hb).trans (hcl k x hx)
      have HS := Lib.hid (hr.out.1.trans (flagsOf_step hx n))
      have hxl := HL.out x (List.mem_of_getElem? hx)
      have hR5 := refIn_eq (s := x) hn32
      have HR5 := Lib.hid hR5
      clear hx hcl hR5
      go_wp2
      go_loopw [4, 7, 8, 9] (fun nv pv fv jv wq => ∃ j : Nat, j ≤ 5 ∧ nv = .int .i64 (refIn x n j).1 ∧ pv = .int .i64 ((2 ^ j : Nat) : Int) ∧ fv = .bool (refIn x n j).2 ∧ jv = .int .i64 j ∧ Hid (Below w.heap.size w wq)) (fun _ _ _ jv _ => 5 - (intOf jv).toNat)
      case atStart => exact ⟨0, by decide, rfl, rfl, rfl, rfl, Lib.hid hr.out.2⟩
      case round =>
        obtain ⟨j, hj, rfl, rfl, rfl, rfl, hq⟩ := hrel
        by_cases hj5 : j < 5
        · have hst : refIn x n (j + 1) = if eqF x j then ((if (refIn x n j).1 / 2 ^ j % 2 = 0 then (refIn x n j).1 + 2 ^ j else (refIn x n j).1), true) else refIn x n j := rfl
          have hm32 := refIn_lt (s := x) hn32 j (by omega)
          have E1 := Lib.hid (fun W => VB.rupper_any ⟨x.toArray⟩ W (by show x.length < _; omega))
          have E2 := Lib.hid (fun W => VB.rupper_any (fwB j) W (by have := fw_short ⟨j, by omega⟩; show (fw j).length < _; simp only at this; omega))
          rw [show (fwB j).data.toList = fw j from rfl] at E2
          rw [show (⟨x.toArray⟩ : ByteArray).data.toList = x from rfl] at E1
          have e3 := str_eqF x j
          generalize hb : eqF x j = bb at e3 hst
          clear hb
          unfold strV at E1 E2
          generalize (⟨(upP x).toArray⟩ : ByteArray) = u at E1 e3
          generalize (⟨(upP (fw j)).toArray⟩ : ByteArray) = v at E2 e3
          have HST := Lib.hid hst
          clear hst
          generalize hmm : (refIn x n j).1 = m at hm32 HST ⊢
          generalize hff : (refIn x n j).2 = f
          have HMF : Hid (refIn x n j = (m, f)) := Lib.hid (by rw [← hmm, ← hff])
          clear hmm hff
          go_wp2_with fail
          refine (E1.out _).mono ?_
          rintro e w2 ⟨rfl, hb2⟩
          have HB2 := Lib.hid (hq.out.trans (hb2.mono hq.out.size))
          clear hb2 q
          go_wp2_with fail
          refine (names_any _).mono ?_
          rintro e w3 ⟨rfl, rfl⟩
          have hcl2 := word_cell (k := j) (by omega) (Below.refl (w2.alloc (.cells (fwL.map strV).toArray 9)).heap.size (w2.alloc (.cells (fwL.map strV).toArray 9)))
          have HB3 := Lib.hid (HB2.out.alloc HB2.out.size (.cells (fwL.map strV).toArray 9))
          go_wp2_with fail
          refine (E2.out _).mono ?_
          rintro e w4 ⟨rfl, hb4⟩
          have HB4 := Lib.hid (HB3.out.trans (hb4.mono HB3.out.size))
          clear hb4 hcl2
          have h5 : j = 0 ∨ j = 1 ∨ j = 2 ∨ j = 3 ∨ j = 4 := by omega
          cases bb
          · have HS2 : Hid (refIn x n (j + 1) = (m, f)) := Lib.hid (by rw [HST.out, if_neg (by simp)]; exact HMF.out)
            clear HST HMF
            rcases h5 with rfl | rfl | rfl | rfl | rfl
            all_goals
              go_wp2
              first
              | exact ⟨⟨1, by decide, by rw [show refIn x n 1 = _ from HS2.out]; first | done | simp, by go_num, by rw [show refIn x n 1 = _ from HS2.out], by go_num, HB4⟩, by simp [intOf]⟩
              | exact ⟨⟨2, by decide, by rw [show refIn x n 2 = _ from HS2.out]; first | done | simp, by go_num, by rw [show refIn x n 2 = _ from HS2.out], by go_num, HB4⟩, by simp [intOf]⟩
              | exact ⟨⟨3, by decide, by rw [show refIn x n 3 = _ from HS2.out]; first | done | simp, by go_num, by rw [show refIn x n 3 = _ from HS2.out], by go_num, HB4⟩, by simp [intOf]⟩
              | exact ⟨⟨4, by decide, by rw [show refIn x n 4 = _ from HS2.out]; first | done | simp, by go_num, by rw [show refIn x n 4 = _ from HS2.out], by go_num, HB4⟩, by simp [intOf]⟩
              | exact ⟨⟨5, by decide, by rw [show refIn x n 5 = _ from HS2.out]; first | done | simp, by go_num, by rw [show refIn x n 5 = _ from HS2.out], by go_num, HB4⟩, by simp [intOf]⟩
          · by_cases hd : m / 2 ^ j % 2 = 0
            · have HS2 : Hid (refIn x n (j + 1) = (m + 2 ^ j, true)) := Lib.hid (by rw [HST.out, if_pos rfl, if_pos hd])
              clear HST HMF
              have hdi : (((m : Int) / ((2 ^ j : Nat) : Int)) % 2 == 0) = true := by rw [beq_iff_eq]; exact_mod_cast hd
              clear hd
              rcases h5 with rfl | rfl | rfl | rfl | rfl
              all_goals
                simp only [Nat.pow_zero, Nat.reducePow, Int.cast_ofNat_Int, Int.ediv_one] at hdi ⊢
                go_wp2
                first
                | exact ⟨⟨1, by decide, by rw [show refIn x n 1 = _ from HS2.out]; first | done | simp, by go_num, by rw [show refIn x n 1 = _ from HS2.out], by go_num, HB4⟩, by simp [intOf]⟩
                | exact ⟨⟨2, by decide, by rw [show refIn x n 2 = _ from HS2.out]; first | done | simp, by go_num, by rw [show refIn x n 2 = _ from HS2.out], by go_num, HB4⟩, by simp [intOf]⟩
                | exact ⟨⟨3, by decide, by rw [show refIn x n 3 = _ from HS2.out]; first | done | simp, by go_num, by rw [show refIn x n 3 = _ from HS2.out], by go_num, HB4⟩, by simp [intOf]⟩
                | exact ⟨⟨4, by decide, by rw [show refIn x n 4 = _ from HS2.out]; first | done | simp, by go_num, by rw [show refIn x n 4 = _ from HS2.out], by go_num, HB4⟩, by simp [intOf]⟩
                | exact ⟨⟨5, by decide, by rw [show refIn x n 5 = _ from HS2.out]; first | done | simp, by go_num, by rw [show refIn x n 5 = _ from HS2.out], by go_num, HB4⟩, by simp [intOf]⟩
            · have HS2 : Hid (refIn x n (j + 1) = (m, true)) := Lib.hid (by rw [HST.out, if_pos rfl, if_neg hd])
              clear HST HMF
              have hdi : (((m : Int) / ((2 ^ j : Nat) : Int)) % 2 == 0) = false := by rw [beq_eq_false_iff_ne]; exact_mod_cast hd
              clear hd
              rcases h5 with rfl | rfl | rfl | rfl | rfl
              all_goals
                simp only [Nat.pow_zero, Nat.reducePow, Int.cast_ofNat_Int, Int.ediv_one] at hdi ⊢
                go_wp2
                first
                | exact ⟨⟨1, by decide, by rw [show refIn x n 1 = _ from HS2.out]; first | done | simp, by go_num, by rw [show refIn x n 1 = _ from HS2.out], by go_num, HB4⟩, by simp [intOf]⟩
                | exact ⟨⟨2, by decide, by rw [show refIn x n 2 = _ from HS2.out]; first | done | simp, by go_num, by rw [show refIn x n 2 = _ from HS2.out], by go_num, HB4⟩, by simp [intOf]⟩
                | exact ⟨⟨3, by decide, by rw [show refIn x n 3 = _ from HS2.out]; first | done | simp, by go_num, by rw [show refIn x n 3 = _ from HS2.out], by go_num, HB4⟩, by simp [intOf]⟩
                | exact ⟨⟨4, by decide, by rw [show refIn x n 4 = _ from HS2.out]; first | done | simp, by go_num, by rw [show refIn x n 4 = _ from HS2.out], by go_num, HB4⟩, by simp [intOf]⟩
                | exact ⟨⟨5, by decide, by rw [show refIn x n 5 = _ from HS2.out]; first | done | simp, by go_num, by rw [show refIn x n 5 = _ from HS2.out], by go_num, HB4⟩, by simp [intOf]⟩
        · have hj' : j = 5 := by omega
          subst hj'
          rw [HR5.out]
          have HFL := flagOfP_lt x
          have HO2 := or_flag_lt hn32 x
          generalize flagOfP x = f at HR5 HS HFL HO2 ⊢
          by_cases hf0 : f = 0
          · subst hf0
            have hR : Hid (R = none) := Lib.hid (by rw [HS.out, if_pos rfl])
            go_wp2
            go_ret2
            exact ⟨by rw [hR.out]; rfl, hq.out⟩
          · have hR : Hid (R = flagsOfP (L.drop (k + 1)) (n ||| f)) := Lib.hid (by rw [HS.out, if_neg hf0])
            have hfb : (f != 0) = true := by simp [hf0]
            rw [hfb]
            go_wp2
            exact ⟨⟨k + 1, n ||| f, by omega, HO2, rfl, by go_num, Lib.hid ⟨hR.out, hq.out⟩⟩, by simp [intOf]; omega⟩
    · have hR : Hid (R = some n) := Lib.hid (by rw [hr.out.1, List.drop_eq_nil_iff.2 (by omega)]; rfl)
      go_wp2
      go_ret2
      exact ⟨by rw [hR.out]; rfl, hr.out.2⟩

theorem bapp (a b : Bs) : (⟨a.toArray⟩ : ByteArray) ++ ⟨b.toArray⟩ = ⟨(a ++ b).toArray⟩ := by
  apply ByteArray.ext
  simp
theorem flS_short : ∀ n : Fin 64, ∀ k : Fin 7, (flS n k).length ≤ 100 := by decide +kernel
set_option maxHeartbeats 4000000 in
set_option maxRecDepth 100000 in
theorem rflags_any (n : Int) (w : World) : Calls Tryz.prog 9 #[.int .i64 n] w fun e w' => e = .returned (strV (flagsP n)) ∧ Below w.heap.size w w' := by
  by_cases h0 : n < 0
  · have HF : Hid (flagsP n = []) := Lib.hid (by unfold flagsP; rw [if_pos (.inl h0)])
    go_enter Tryz.func9, Tryz.ntmps9
    go_wp2
    go_ret
    exact ⟨by rw [HF.out]; rfl, Below.refl _ _⟩
  · by_cases h63 : 63 < n
    · have HF : Hid (flagsP n = []) := Lib.hid (by unfold flagsP; rw [if_pos (.inr h63)])
      go_enter Tryz.func9, Tryz.ntmps9
      go_wp2
      go_ret
      exact ⟨by rw [HF.out]; rfl, Below.refl _ _⟩
    · obtain ⟨m, rfl⟩ : ∃ m : Nat, n = m := ⟨n.toNat, by omega⟩
      have hm : m < 64 := by omega
      have HF : Hid (flagsP (m : Int) = flS m 6) := Lib.hid (by unfold flagsP; rw [if_neg (by omega)]; exact (flS_eq ⟨m, hm⟩).symm)
      generalize flagsP (m : Int) = R at HF ⊢
      clear h0
      go_enter Tryz.func9, Tryz.ntmps9
      go_wp2
      go_loopw [0, 3, 4] (fun nv sv iv wr => ∃ k q : Nat, k ≤ 6 ∧ q < 64 ∧ nv = .int .i64 q ∧ sv = strV (flS m k) ∧ iv = .int .i64 k ∧ Hid (q = m / 2 ^ k) ∧ Hid (Below w.heap.size w wr)) (fun _ _ iv _ => 6 - (intOf iv).toNat)
      case atStart => exact ⟨0, m, by decide, hm, rfl, rfl, rfl, Lib.hid (by simp), Lib.hid (Below.refl _ _)⟩
      case round =>
        obtain ⟨k, q, hk, hq, rfl, rfl, rfl, hqq, hb⟩ := hrel
        by_cases hlt : k < 6
        · have HST : Hid (flS m (k + 1) = if flBit m k then (if (flS m k).length = 0 then flS m k ++ fw k else flS m k ++ [32] ++ fw k) else flS m k) := Lib.hid rfl
          have HQ2 : Hid (q / 2 = m / 2 ^ (k + 1)) := Lib.hid (by rw [hqq.out, Nat.div_div_eq_div_mul, Nat.pow_succ])
          have hbit : flBit m k = decide (q % 2 = 1) := by unfold flBit; rw [← hqq.out]; rw [Bool.eq_iff_iff]; simp
          have hls := flS_short ⟨m, hm⟩ ⟨k, by omega⟩
          simp only at hls
          have hfl := fw_short ⟨k, hlt⟩
          simp only at hfl
          generalize flS m k = s at HST hls ⊢
          rw [hbit] at HST
          clear hbit
          have hsz : (⟨s.toArray⟩ : ByteArray).size ≤ 100 := hls
          have hfz : (⟨(fw k).toArray⟩ : ByteArray).size ≤ 9 := hfl
          by_cases hb1 : q % 2 = 1
          · have e1 : ((q : Int) % 2 == 1) = true := by rw [beq_iff_eq]; exact_mod_cast hb1
            rw [decide_eq_true hb1, if_pos rfl] at HST
            have big1 : ¬ 9223372036854775807 < (⟨s.toArray⟩ : ByteArray).size + 1 := by omega
            have big2 : ¬ 9223372036854775807 < (⟨s.toArray⟩ : ByteArray).size + (⟨(fw k).toArray⟩ : ByteArray).size := by omega
            have big3 : ¬ 9223372036854775807 < (⟨s.toArray⟩ : ByteArray).size + 1 + (⟨(fw k).toArray⟩ : ByteArray).size := by omega
            by_cases hs0 : s.length = 0
            · rw [if_pos hs0] at HST
              go_wp2_with fail
              refine (names_any _).mono ?_
              rintro e w3 ⟨rfl, rfl⟩
              have hcl2 := word_cell (k := k) (by omega) (Below.refl (wr.alloc (.cells (fwL.map strV).toArray 9)).heap.size (wr.alloc (.cells (fwL.map strV).toArray 9)))
              have HB3 := Lib.hid (hb.out.alloc hb.out.size (.cells (fwL.map strV).toArray 9))
              go_wp2
              exact ⟨⟨k + 1, q / 2, by omega, by omega, by go_num, by rw [HST.out, bapp], by go_num, HQ2, HB3⟩, by simp [intOf]; omega⟩
            · rw [if_neg hs0] at HST
              have hs1 : 0 < (⟨s.toArray⟩ : ByteArray).size := by show 0 < s.length; omega
              go_wp2_with fail
              refine (names_any _).mono ?_
              rintro e w3 ⟨rfl, rfl⟩
              have hcl2 := word_cell (k := k) (by omega) (Below.refl (wr.alloc (.cells (fwL.map strV).toArray 9)).heap.size (wr.alloc (.cells (fwL.map strV).toArray 9)))
              have HB3 := Lib.hid (hb.out.alloc hb.out.size (.cells (fwL.map strV).toArray 9))
              go_wp2
              exact ⟨⟨k + 1, q / 2, by omega, by omega, by go_num, by rw [HST.out]; show Value.string _ = Value.string _; rw [show (⟨#[32]⟩ : ByteArray) = ⟨([32] : Bs).toArray⟩ from rfl, bapp, bapp], by go_num, HQ2, HB3⟩, by simp [intOf]; omega⟩
          · have e1 : ((q : Int) % 2 == 1) = false := by rw [beq_eq_false_iff_ne]; exact_mod_cast hb1
            rw [decide_eq_false hb1, if_neg (by simp)] at HST
            go_wp2
            exact ⟨⟨k + 1, q / 2, by omega, by omega, by go_num, by rw [HST.out], by go_num, HQ2, hb⟩, by simp [intOf]; omega⟩
        · have hk6 : k = 6 := by omega
          subst hk6
          go_wp2
          go_ret
          exact ⟨by rw [HF.out]; rfl, hb.out⟩
end Go.Proofs.YtiapdhllphcnnaaGreatDoor.IM

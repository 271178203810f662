/- What the document's number returns, for any text and place. Conditions: the place lies in the text; the text's length. -/
import Derived.Test.YtkgngahmpafdhaaGreatDoorSpanRefPlain
import Derived.Test.YtkgngahmpafdhaaGreatDoorSpanNumber
namespace Go.Proofs.YtkgngahmpafdhaaGreatDoor.SP
open Go.RowKit Mailsack

theorem tw_take : ∀ {k : Nat} {D : Bs}, (∀ c ∈ D.take k, isDig c = true) → k ≤ D.length → (D.takeWhile isDig).take k = D.take k
  | 0, D, _, _ => by simp
  | k + 1, [], _, h => by simp at h
  | k + 1, x :: D, hd, h => by
    have hx : isDig x = true := hd x (by simp)
    rw [List.takeWhile_cons, if_pos hx, List.take_succ_cons, List.take_succ_cons, tw_take (fun c hc => hd c (by simp [hc])) (by simpa using h)]
theorem tw_exit {k : Nat} {D : Bs} (hd : ∀ c ∈ D.take k, isDig c = true) (h11 : k ≤ 11) (hk : k ≤ D.length) (he : k = 11 ∨ k = D.length ∨ ∃ c, D[k]? = some c ∧ isDig c = false) : (D.take 11).takeWhile isDig = D.take k := by
  have e1 : (D.take 11).take k = D.take k := by rw [List.take_take, Nat.min_eq_left h11]
  have hl : ((D.take 11).takeWhile isDig).length ≤ k := by
    have h2 := (List.takeWhile_sublist isDig (l := D.take 11)).length_le
    rw [List.length_take] at h2
    rcases he with rfl | rfl | ⟨c, hc, hcd⟩
    · omega
    · omega
    · by_cases h : k < 11
      · exact tw_le (c := c) (by rw [List.getElem?_take, if_pos h]; exact hc) hcd
      · omega
  have h3 := tw_take (k := k) (D := D.take 11) (by rw [e1]; exact hd) (by rw [List.length_take]; omega)
  rw [List.take_of_length_le hl] at h3
  rw [h3, e1]
theorem numP_eleven {ds : Bs} (h : ∀ c ∈ ds, isDig c = true) (hl : ds.length ≤ 11) : 0 ≤ numP ds ∧ numP ds < 100000000000 := by
  have h1 := numP_bound h
  have h2 : ((10 ^ ds.length : Nat) : Int) ≤ ((10 ^ 11 : Nat) : Int) := Int.ofNat_le.2 (Nat.pow_le_pow_right (by decide) hl)
  have h3 : ((10 ^ ds.length : Nat) : Int) = (10 : Int) ^ ds.length := by rw [Int.natCast_pow]; rfl
  rw [h3] at h2
  have h4 : ((10 ^ 11 : Nat) : Int) = 100000000000 := by decide
  omega
/-- the number's answer as a value -/
def refNV (i : Nat) : Option (Int × Nat) → Value
  | none => .tuple #[.int .i64 0, .int .i64 (-1)]
  | some (n, k) => .tuple #[.int .i64 n, .int .i64 ((i + k : Nat) : Int)]
theorem drop_get (s : ByteArray) (i j : Nat) (h : i + j < s.size) : (s.data.toList.drop i)[j]? = some (s[i + j]'h) := by
  rw [List.getElem?_drop, List.getElem?_eq_getElem (by rw [size_list]; exact h)]; rfl
theorem drop_len (s : ByteArray) (i : Nat) : (s.data.toList.drop i).length = s.size - i := by rw [List.length_drop, size_list]

set_option maxHeartbeats 2000000 in
set_option maxRecDepth 100000 in
theorem refNum_any (s : ByteArray) (i : Nat) (w : World) (hi : i ≤ s.size) (hl : s.size ≤ 1000000) :
    Calls Tryz.prog 35 #[.string s, .int .i64 (i : Int)] w fun e w' => e = .returned (refNV i (refN (s.data.toList.drop i))) ∧ w = w' := by
  by_cases hstar : ∃ h : i < s.size, ((s[i]'h).toNat : Int) = 42
  · obtain ⟨hlt, h42⟩ := hstar
    have hr : refN (s.data.toList.drop i) = some (0, 1) := by
      unfold refN
      rw [if_pos]
      rw [← get0_head, drop_get s i 0 hlt]
      exact congrArg some ((byte_eq (n := 42) (by decide)).1 h42)
    rw [hr]
    go_enter Tryz.func35, Tryz.ntmps35
    go_wp2
    go_ret2
    exact ⟨rfl, rfl⟩
  have hn42 : ∀ h : i < s.size, ¬ ((s[i]'h).toNat : Int) = 42 := fun h e => hstar ⟨h, e⟩
  have hh : ¬ (s.data.toList.drop i).head? = some 42 := by
    intro h
    rw [← get0_head] at h
    by_cases hlt : i < s.size
    · rw [drop_get s i 0 hlt] at h
      exact hn42 hlt ((byte_eq (n := 42) (by decide)).2 (Option.some.inj h))
    · rw [List.getElem?_eq_none (by rw [drop_len]; omega)] at h; cases h
  have Hres : Hid (∀ k, (∀ c ∈ (s.data.toList.drop i).take k, isDig c = true) → k ≤ 11 → i + k ≤ s.size → (k = 11 ∨ i + k = s.size ∨ ∃ h : i + k < s.size, isDig (s[i + k]'h) = false) →
      refN (s.data.toList.drop i) = if k = 0 ∨ 10 < k ∨ (s.data.toList.drop i).head? = some 48 ∨ 4294967295 < numP ((s.data.toList.drop i).take k) then none else some (numP ((s.data.toList.drop i).take k), k)) := Lib.hid (by
    intro k hd h11 hk he
    have e := tw_exit hd h11 (by rw [drop_len]; omega) (by
      rcases he with h | h | ⟨h, h2⟩
      · exact .inl h
      · exact .inr (.inl (by rw [drop_len]; omega))
      · exact .inr (.inr ⟨_, drop_get s i k h, h2⟩))
    have hlen : ((s.data.toList.drop i).take k).length = k := by rw [List.length_take, drop_len]; omega
    unfold refN
    rw [if_neg hh, e, hlen])
  have Hhead : Hid (∀ h : i < s.size, (s.data.toList.drop i).head? = some 48 ↔ ((s[i]'h).toNat : Int) = 48) := Lib.hid (by
    intro h
    rw [← get0_head, drop_get s i 0 h]
    constructor
    · intro e; exact (byte_eq (n := 48) (by decide)).2 (Option.some.inj e)
    · intro e; exact congrArg some ((byte_eq (n := 48) (by decide)).1 e))
  have Hget := Lib.hid (fun j (h : i + j < s.size) => drop_get s i j h)
  generalize s.data.toList.drop i = D at Hres Hhead Hget ⊢
  clear hstar hh
  by_cases hlt0 : i < s.size
  · have h42b : (((s[i]'hlt0).toNat : Int) == 42) = false := by simpa using hn42 hlt0
    clear hn42
    go_enter Tryz.func35, Tryz.ntmps35
    go_wp2
    go_loop [1, 6] (fun m n => ∃ k : Nat, k ≤ 11 ∧ i + k ≤ s.size ∧ m = .int .i64 ((i + k : Nat) : Int) ∧ n = .int .i64 (numP (D.take k)) ∧ Hid (∀ c ∈ D.take k, isDig c = true)) (fun m _ => s.size - (intOf m).toNat)
    case atStart => exact ⟨0, Nat.zero_le _, hi, rfl, rfl, Lib.hid (by simp)⟩
    case round =>
      obtain ⟨k, h11, hk, rfl, rfl, hd⟩ := hrel
      have hn := numP_eleven hd.out (by rw [List.length_take]; omega)
      by_cases hlt : i + k < s.size
      · by_cases hdg : 48 ≤ ((s[i + k]'hlt).toNat : Int) ∧ ((s[i + k]'hlt).toNat : Int) ≤ 57
        · by_cases h10 : k < 11
          · have hn10 : numP (D.take k) < 10000000000 := (numP_ten hd.out (by rw [List.length_take]; omega)).2
            have Hs := Lib.hid (numP_snoc (D.take k) (s[i + k]'hlt))
            have Hd2 : Hid (∀ c ∈ D.take (k + 1), isDig c = true) := Lib.hid (by
              intro c hc
              rw [List.take_add_one, Hget.out k hlt] at hc
              rcases List.mem_append.1 hc with h | h
              · exact hd.out c h
              · simp at h; subst h; exact dig_iff.2 hdg)
            have Ht : Hid (D.take (k + 1) = D.take k ++ [s[i + k]'hlt]) := Lib.hid (by rw [List.take_add_one, Hget.out k hlt]; rfl)
            obtain ⟨hd1, hd2⟩ := hdg
            go_wp2
            go_round
            case rel => exact ⟨k + 1, by omega, by omega, by go_num, (by rw [Ht.out]; exact congrArg (Value.int .i64) Hs.out.symm), Hd2⟩
            case measure => simp [intOf]; omega
          · obtain rfl : k = 11 := by omega
            have Hr : Hid (refN D = none) := Lib.hid ((Hres.out 11 hd.out (by omega) hk (.inl rfl)).trans (if_pos (.inr (.inl (by omega)))))
            obtain ⟨hd1, hd2⟩ := hdg
            go_wp2
            go_ret2
            rw [Hr.out]
            exact ⟨rfl, rfl⟩
        · have Hr := Lib.hid (Hres.out k hd.out h11 hk (.inr (.inr ⟨hlt, isDig_no hdg⟩)))
          have hdg : ((s[i + k]'hlt).toNat : Int) < 48 ∨ 57 < ((s[i + k]'hlt).toNat : Int) := by omega
          have Hh := Hhead.out hlt0
          rcases hdg with hdg | hdg
          · by_cases h0 : k = 0
            · have Hr2 : Hid (refN D = none) := Lib.hid (Hr.out.trans (if_pos (.inl h0)))
              have hb0 : ((i : Int) + (k : Int) == (i : Int)) = true := by simp [h0]
              clear h0
              clear Hh
              go_wp2
              all_goals (go_ret2; rw [Hr2.out]; exact ⟨rfl, rfl⟩)
            · have hb0 : ((i : Int) + (k : Int) == (i : Int)) = false := by rw [beq_eq_false_iff_ne]; omega
              by_cases h10 : 10 < k
              · have Hr2 : Hid (refN D = none) := Lib.hid (Hr.out.trans (if_pos (.inr (.inl h10))))
                clear Hh
                go_wp2
                all_goals (go_ret2; rw [Hr2.out]; exact ⟨rfl, rfl⟩)
              · by_cases h48 : ((s[i]'hlt0).toNat : Int) = 48
                · have Hr2 : Hid (refN D = none) := Lib.hid (Hr.out.trans (if_pos (.inr (.inr (.inl (Hh.2 h48))))))
                  clear Hh
                  go_wp2
                  all_goals (go_ret2; rw [Hr2.out]; exact ⟨rfl, rfl⟩)
                · have hb48 : (((s[i]'hlt0).toNat : Int) == 48) = false := by simpa using h48
                  by_cases hbig : 4294967295 < numP (D.take k)
                  · have Hr2 : Hid (refN D = none) := Lib.hid (Hr.out.trans (if_pos (.inr (.inr (.inr hbig)))))
                    clear Hh h48
                    go_wp2
                    all_goals (go_ret2; rw [Hr2.out]; exact ⟨rfl, rfl⟩)
                  · have Hr2 : Hid (refN D = some (numP (D.take k), k)) := Lib.hid (Hr.out.trans (if_neg (fun h => h.elim h0 fun h => h.elim h10 fun h => h.elim (fun h => h48 (Hh.1 h)) hbig)))
                    clear Hh h48
                    go_wp2
                    all_goals (go_ret2; rw [Hr2.out]; refine ⟨?_, rfl⟩; simp [refNV])
          · by_cases h0 : k = 0
            · have Hr2 : Hid (refN D = none) := Lib.hid (Hr.out.trans (if_pos (.inl h0)))
              have hb0 : ((i : Int) + (k : Int) == (i : Int)) = true := by simp [h0]
              clear h0
              clear Hh
              go_wp2
              all_goals (go_ret2; rw [Hr2.out]; exact ⟨rfl, rfl⟩)
            · have hb0 : ((i : Int) + (k : Int) == (i : Int)) = false := by rw [beq_eq_false_iff_ne]; omega
              by_cases h10 : 10 < k
              · have Hr2 : Hid (refN D = none) := Lib.hid (Hr.out.trans (if_pos (.inr (.inl h10))))
                clear Hh
                go_wp2
                all_goals (go_ret2; rw [Hr2.out]; exact ⟨rfl, rfl⟩)
              · by_cases h48 : ((s[i]'hlt0).toNat : Int) = 48
                · have Hr2 : Hid (refN D = none) := Lib.hid (Hr.out.trans (if_pos (.inr (.inr (.inl (Hh.2 h48))))))
                  clear Hh
                  go_wp2
                  all_goals (go_ret2; rw [Hr2.out]; exact ⟨rfl, rfl⟩)
                · have hb48 : (((s[i]'hlt0).toNat : Int) == 48) = false := by simpa using h48
                  by_cases hbig : 4294967295 < numP (D.take k)
                  · have Hr2 : Hid (refN D = none) := Lib.hid (Hr.out.trans (if_pos (.inr (.inr (.inr hbig)))))
                    clear Hh h48
                    go_wp2
                    all_goals (go_ret2; rw [Hr2.out]; exact ⟨rfl, rfl⟩)
                  · have Hr2 : Hid (refN D = some (numP (D.take k), k)) := Lib.hid (Hr.out.trans (if_neg (fun h => h.elim h0 fun h => h.elim h10 fun h => h.elim (fun h => h48 (Hh.1 h)) hbig)))
                    clear Hh h48
                    go_wp2
                    all_goals (go_ret2; rw [Hr2.out]; refine ⟨?_, rfl⟩; simp [refNV])
      · have Hr := Lib.hid (Hres.out k hd.out h11 hk (.inr (.inl (by omega))))
        have Hh := Hhead.out hlt0
        by_cases h0 : k = 0
        · have Hr2 : Hid (refN D = none) := Lib.hid (Hr.out.trans (if_pos (.inl h0)))
          have hb0 : ((i : Int) + (k : Int) == (i : Int)) = true := by simp [h0]
          clear h0
          clear Hh
          go_wp2
          all_goals (go_ret2; rw [Hr2.out]; exact ⟨rfl, rfl⟩)
        · have hb0 : ((i : Int) + (k : Int) == (i : Int)) = false := by rw [beq_eq_false_iff_ne]; omega
          by_cases h10 : 10 < k
          · have Hr2 : Hid (refN D = none) := Lib.hid (Hr.out.trans (if_pos (.inr (.inl h10))))
            clear Hh
            go_wp2
            all_goals (go_ret2; rw [Hr2.out]; exact ⟨rfl, rfl⟩)
          · by_cases h48 : ((s[i]'hlt0).toNat : Int) = 48
            · have Hr2 : Hid (refN D = none) := Lib.hid (Hr.out.trans (if_pos (.inr (.inr (.inl (Hh.2 h48))))))
              clear Hh
              go_wp2
              all_goals (go_ret2; rw [Hr2.out]; exact ⟨rfl, rfl⟩)
            · have hb48 : (((s[i]'hlt0).toNat : Int) == 48) = false := by simpa using h48
              by_cases hbig : 4294967295 < numP (D.take k)
              · have Hr2 : Hid (refN D = none) := Lib.hid (Hr.out.trans (if_pos (.inr (.inr (.inr hbig)))))
                clear Hh h48
                go_wp2
                all_goals (go_ret2; rw [Hr2.out]; exact ⟨rfl, rfl⟩)
              · have Hr2 : Hid (refN D = some (numP (D.take k), k)) := Lib.hid (Hr.out.trans (if_neg (fun h => h.elim h0 fun h => h.elim h10 fun h => h.elim (fun h => h48 (Hh.1 h)) hbig)))
                clear Hh h48
                go_wp2
                all_goals (go_ret2; rw [Hr2.out]; refine ⟨?_, rfl⟩; simp [refNV])
  · clear hn42
    have Hr : Hid (refN D = none) := Lib.hid ((Hres.out 0 (by simp) (by omega) (by omega) (.inr (.inl (by omega)))).trans (if_pos (.inl rfl)))
    go_enter Tryz.func35, Tryz.ntmps35
    go_wp2
    go_loop [1, 6] (fun m n => m = .int .i64 (i : Int) ∧ n = .int .i64 0) (fun m _ => s.size - (intOf m).toNat)
    case atStart => exact ⟨rfl, rfl⟩
    case round =>
      obtain ⟨rfl, rfl⟩ := hrel
      go_wp2
      go_ret2
      rw [Hr.out]
      exact ⟨rfl, rfl⟩
end Go.Proofs.YtkgngahmpafdhaaGreatDoor.SP

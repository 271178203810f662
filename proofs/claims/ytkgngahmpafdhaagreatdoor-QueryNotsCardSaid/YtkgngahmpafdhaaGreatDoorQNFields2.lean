/- What the document's Fields of layer 19 returns, as far as QueryNots needs it: fields of bounded lengths. Conditions: lengths. -/
import Derived.Test.YtkgngahmpafdhaaGreatDoorQNFields
namespace Go.Proofs.YtkgngahmpafdhaaGreatDoor.QN
open Go.RowKit Mailsack MM PT

def OwnG (w : World) (base : Nat) (v : Value) (F : List (Bs × Bs)) : Prop := w.ownsRow base 77 2 v F.length (F.flatMap fun p => [strV p.1, strV p.2])
theorem OwnG.nil (w : World) (base : Nat) : OwnG w base (.slice none 0 0) [] := World.ownsRow_nil w base _ _
theorem OwnG.of {w : World} {base : Nat} {v : Value} {F : List (Bs × Bs)} {a b : Bs} (h : w.ownsRow base 77 2 v (F.length + 1) (F.flatMap (fun p => [strV p.1, strV p.2]) ++ [strV a, strV b])) : OwnG w base v (F ++ [(a, b)]) := by
  unfold OwnG; rw [List.length_append, List.flatMap_append]; exact h
theorem OwnG.alloc {w : World} {base : Nat} {v : Value} {F : List (Bs × Bs)} (h : OwnG w base v F) (o : Obj) : (w.alloc o).ownsRow base 77 2 v F.length (F.flatMap fun p => [strV p.1, strV p.2]) := World.ownsRow.alloc h o
theorem OwnG.form {w : World} {base : Nat} {v : Value} {F : List (Bs × Bs)} (h : OwnG w base v F) : ∃ A c, v = .slice A F.length c ∧ F.length ≤ c := by
  rcases h.2 with ⟨h1, h2⟩ | ⟨g, cap, cur, h1, _, _, h2, _⟩
  · exact ⟨none, 0, by rw [h1, h2], by omega⟩
  · exact ⟨_, _, h1, h2⟩
theorem OwnG.rd {w : World} {base : Nat} {v : Value} {F : List (Bs × Bs)} (h : OwnG w base v F) : RdF w w.heap.size v F := by
  rcases h.2 with ⟨h1, h2⟩ | ⟨g, cap, cur, h1, _, hg, hnc, _⟩
  · exact ⟨none, 0, by rw [h1, h2], by omega, fun h => by omega⟩
  · refine ⟨_, cap, h1, hnc, fun _ => ⟨g, rfl, blk_lt hg, fun j p hp => ?_⟩⟩
    have hadd : ∀ k, (⟨g, 0, none⟩ : Addr).add k = ⟨g, k, none⟩ := fun k => by unfold Addr.add; split <;> simp_all
    have h3 := World.ownsRow.cells h (g := g) (by rw [h1]; rfl) (j * 2) _ (flat_get F j p hp).1
    have h4 := World.ownsRow.cells h (g := g) (by rw [h1]; rfl) (j * 2 + 1) _ (flat_get F j p hp).2
    rw [hadd] at h3 h4
    exact ⟨h3, h4⟩
theorem infoG : (Tryz.prog.info? 77).map (fun i => (i.zero, i.size, i.bytes)) = some (some (.agg #[.string ⟨#[]⟩, .string ⟨#[]⟩]), 2, 32) := by kernel_rfl
def Bd (F : List (Bs × Bs)) : Prop := ∀ p ∈ F, p.1.length ≤ 1000 ∧ p.2.length ≤ 2000000
/-- fields of bounded lengths -/
def FPost (w : World) (e : Ending) (w' : World) : Prop := ∃ A c, ∃ F : List (Bs × Bs), e = .returned (.slice A F.length c) ∧ RdF w' w'.heap.size (.slice A F.length c) F ∧ Bd F ∧ F.length ≤ 1001 ∧ Below w.heap.size w w'
structure FJ (w1 : World) (i : Nat) (fv : Value) (F : List (Bs × Bs)) (wr : World) : Prop where
  own : OwnG wr w1.heap.size fv F
  bel : Below w1.heap.size w1 wr
  len : F.length ≤ i
  bd : Bd F
theorem eta_bytes (v : ByteArray) : (⟨v.data.toList.toArray⟩ : ByteArray) = v := by cases v; simp
theorem str_eta (v : ByteArray) : Value.string v = strV v.data.toList := by unfold strV; rw [eta_bytes]
theorem two_strs (a b : ByteArray) : ∀ u ∈ [Value.string a, Value.string b], u.oneCell' = true := by
  intro u hu
  rcases List.mem_cons.1 hu with h | h
  · rw [h]; rfl
  · rw [List.mem_singleton.1 h]; rfl
theorem ex_size (s : ByteArray) (a b : Nat) : (s.extract a b).size ≤ s.size := by rw [ByteArray.size_extract]; omega

theorem fj_push {w1 wr : World} {i : Nat} {fv : Value} {F : List (Bs × Bs)} {x z : ByteArray} (h : FJ w1 i fv F wr) (hx : x.size ≤ 1000) (hz : z.size ≤ 2000000) :
    ∀ (v' : Value) (w6 : World) (o : Obj) (_ : Unit), w6.ownsRow w1.heap.size 77 2 v' (F.length + 1) (F.flatMap (fun p => [strV p.1, strV p.2]) ++ [Value.string x, Value.string z]) → (wr.alloc o).grownBy w6 fv.ownBlock → FJ w1 (i + 1) v' (F ++ [(x.data.toList, z.data.toList)]) w6 := by
  intro v' w6 o _ hown hg
  refine ⟨OwnG.of (by rw [← str_eta, ← str_eta]; exact hown), push_row h.own hg h.bel h.bel.size, by have := h.len; simp; omega, fun p hp => ?_⟩
  rcases List.mem_append.1 hp with hp | hp
  · exact h.bd p hp
  · simp only [List.mem_singleton] at hp
    subst hp
    simp only [size_list]
    exact ⟨hx, hz⟩

set_option maxHeartbeats 8000000 in
set_option maxRecDepth 100000 in
theorem rfields_any (s : ByteArray) (w : World) (hs : s.size ≤ 1000) :
    Calls Tryz.prog 36 #[.string s] w (FPost w) := by
  obtain ⟨i0, hi, hz0, hz1, hz2⟩ := info_parts infoG
  go_enter Tryz.func36, Tryz.ntmps36
  go_wp2_with fail
  refine (rows_own s w (by omega)).mono ?_
  rintro e w1 ⟨A0, c0, L, rfl, hown, hLl, hLe, hb1⟩
  have Hrd := Lib.hid hown.rd
  have HB1 := Lib.hid hb1
  have He := Lib.hid hLe
  obtain ⟨N, hN⟩ : ∃ N, L.length = N := ⟨_, rfl⟩
  have HN := Lib.hid hN
  rw [hN] at hLl Hrd ⊢
  have hc0 : N ≤ c0 := by
    obtain ⟨A', c', e1, h2, _⟩ := Hrd.out
    injection e1 with _ _ e3
    rw [hN] at h2; omega
  clear hown hb1 hLe hN
  go_wp2_with fail
  go_loopw [3, 5] (fun fv iv wr => ∃ (i : Nat) (F : List (Bs × Bs)), i ≤ N ∧ iv = .int .i64 i ∧ Hid (FJ w1 i fv F wr)) (fun _ iv _ => N - (intOf iv).toNat)
  case atStart => exact ⟨0, [], Nat.zero_le _, rfl, Lib.hid ⟨OwnG.nil _ _, Below.refl _ _, Nat.le_refl _, by intro p hp; cases hp⟩⟩
  case round =>
    obtain ⟨i, F, hil, rfl, hr⟩ := hrel
    by_cases hlt : i < N
    · obtain ⟨x, hx⟩ : ∃ x, L[i]? = some x := ⟨_, List.getElem?_eq_getElem (by rw [HN.out]; exact hlt)⟩
      have hxl := He.out x (List.mem_of_getElem? hx)
      obtain ⟨A', c', e9, _, hcx⟩ := Hrd.out
      obtain ⟨b1, o1, rfl, hbb, hcell⟩ := hcx (by rw [HN.out]; omega)
      injection e9 with e9 e9b e9c
      subst e9
      clear e9b e9c
      have HC : Hid (∀ (j : Nat) y, L[j]? = some y → wr.cell? ⟨b1, o1 + j, none⟩ = some (strV y)) := Lib.hid fun j y hy => (hr.out.bel.cell (p := ⟨b1, o1 + j, none⟩) hbb).trans (hcell j y hy)
      have q0 := HC.out i x hx
      have hX : (⟨x.toArray⟩ : ByteArray).size = x.length := rfl
      unfold strV at q0
      generalize (⟨x.toArray⟩ : ByteArray) = X at q0 hX
      have hX1 : X.size ≤ 1000 := by omega
      clear hx hcx hcell hbb hX hxl
      go_wp2_with fail
      go_loop [7, 8] (fun cv jv => ∃ c j : Nat, c ≤ X.size ∧ j ≤ X.size ∧ cv = .int .i64 ((c : Int) - 1) ∧ jv = .int .i64 ((j : Int) - 1)) (fun _ jv => (intOf jv + 1).toNat)
      case atStart => exact ⟨0, X.size, Nat.zero_le _, Nat.le_refl _, rfl, rfl⟩
      case round =>
        obtain ⟨c, j, hc, hj, rfl, rfl⟩ := hrel
        cases j with
        | succ j =>
          have ej : ((j + 1 : Nat) : Int) - 1 = (j : Int) := by omega
          rw [ej]
          have hjl : j < X.size := by omega
          cases hcol : ((X[j].toNat : Int) == 58)
          · go_wp2
            go_round
            case rel => exact ⟨c, j, hc, by omega, rfl, by go_num⟩
            case measure => first | (simp [intOf]; done) | (simp [intOf]; omega)
          · go_wp2
            go_round
            case rel => exact ⟨j + 1, j, by omega, by omega, by go_num, by go_num⟩
            case measure => first | (simp [intOf]; done) | (simp [intOf]; omega)
        | zero =>
          have ej : ((0 : Nat) : Int) - 1 = -1 := by omega
          rw [ej]
          cases c with
          | zero =>
            rw [ej]
            go_wp2
            go_roundw
            case rel => exact ⟨i + 1, F, by omega, by go_num, Lib.hid ⟨hr.out.own, hr.out.bel, by have := hr.out.len; omega, hr.out.bd⟩⟩
            case measure => first | (simp [intOf]; done) | (simp [intOf]; omega)
          | succ c =>
            have ec : ((c + 1 : Nat) : Int) - 1 = (c : Int) := by omega
            rw [ec]
            have hx0 : 0 < X.size := by omega
            cases hbl : (((X[0]'hx0).toNat : Int) == 32 || ((X[0]'hx0).toNat : Int) == 9)
            · go_wp2_with (go_at_call 56; refine (blank_any _ _ (by assumption) _).mono ?_; rintro e w8 ⟨rfl, rfl⟩)
              go_loop [9, 10] (fun vv kv => ∃ (V : ByteArray) (k : Nat), vv = .string V ∧ kv = .int .i64 k ∧ i + 1 ≤ k ∧ k ≤ N ∧ V.size ≤ (k - i) * 1000) (fun _ kv => N - (intOf kv).toNat)
              case atStart => exact ⟨_, i + 1, rfl, by go_num, Nat.le_refl _, by omega, by have := ex_size X (c + 1) X.size; omega⟩
              case round =>
                obtain ⟨V, k, rfl, rfl, hk1, hk2, hV⟩ := hrel
                have hcase : (∃ Y : ByteArray, k < N ∧ wr.cell? ⟨b1, o1 + k, none⟩ = some (.string Y) ∧ Y.size ≤ 1000 ∧ ∃ h0 : 0 < Y.size, (((Y[0]'h0).toNat : Int) == 32 || ((Y[0]'h0).toNat : Int) == 9) = true) ∨ (¬ k < N) ∨ (∃ Y : ByteArray, k < N ∧ wr.cell? ⟨b1, o1 + k, none⟩ = some (.string Y) ∧ Y.size = 0) ∨
                    (∃ Y : ByteArray, k < N ∧ wr.cell? ⟨b1, o1 + k, none⟩ = some (.string Y) ∧ ∃ h0 : 0 < Y.size, (((Y[0]'h0).toNat : Int) == 32 || ((Y[0]'h0).toNat : Int) == 9) = false) := by
                  by_cases hkN : k < N
                  · obtain ⟨y, hy⟩ : ∃ y, L[k]? = some y := ⟨_, List.getElem?_eq_getElem (by rw [HN.out]; exact hkN)⟩
                    have hq := HC.out k y hy
                    have hyl := He.out y (List.mem_of_getElem? hy)
                    have hsY : (⟨y.toArray⟩ : ByteArray).size = y.length := rfl
                    by_cases h0 : 0 < (⟨y.toArray⟩ : ByteArray).size
                    · cases hb : ((((⟨y.toArray⟩ : ByteArray)[0]'h0).toNat : Int) == 32 || (((⟨y.toArray⟩ : ByteArray)[0]'h0).toNat : Int) == 9)
                      · exact .inr (.inr (.inr ⟨_, hkN, hq, h0, hb⟩))
                      · exact .inl ⟨_, hkN, hq, by omega, h0, hb⟩
                    · exact .inr (.inr (.inl ⟨_, hkN, hq, by omega⟩))
                  · exact .inr (.inl hkN)
                rcases hcase with ⟨Y, hkN, q1, hY, h0, hb⟩ | hkN | ⟨Y, hkN, q1, h0⟩ | ⟨Y, hkN, q1, h0, hb⟩
                · go_wp2_with (go_at_call 56; refine (blank_any _ _ (by assumption) _).mono ?_; rintro e w8 ⟨rfl, rfl⟩)
                  go_round
                  case rel => exact ⟨V ++ Y, k + 1, rfl, by go_num, by omega, by omega, by rw [ByteArray.size_append]; omega⟩
                  case measure => first | (simp [intOf]; done) | (simp [intOf]; omega)
                all_goals
                  go_wp2_with (go_at_call 56; refine (blank_any _ _ (by assumption) _).mono ?_; rintro e w8 ⟨rfl, rfl⟩)
                  go_loop [9] (fun vv => ∃ (V : ByteArray), vv = .string V ∧ V.size ≤ 2000000) (fun vv => lenOf vv)
                  case atStart => exact ⟨V, rfl, by omega⟩
                  case round =>
                    obtain ⟨U, rfl, hU⟩ := hrel
                    have hcase : (∃ h0 : 0 < U.size, (((U[0]'h0).toNat : Int) == 32 || ((U[0]'h0).toNat : Int) == 9) = true) ∨ (U.size = 0) ∨ (∃ h0 : 0 < U.size, (((U[0]'h0).toNat : Int) == 32 || ((U[0]'h0).toNat : Int) == 9) = false) := by
                      by_cases h0 : 0 < U.size
                      · cases hb : (((U[0]'h0).toNat : Int) == 32 || ((U[0]'h0).toNat : Int) == 9)
                        · exact .inr (.inr ⟨h0, hb⟩)
                        · exact .inl ⟨h0, hb⟩
                      · exact .inr (.inl (by omega))
                    rcases hcase with ⟨h0, hb⟩ | h0 | ⟨h0, hb⟩
                    · go_wp2_with (go_at_call 56; refine (blank_any _ _ (by assumption) _).mono ?_; rintro e w8 ⟨rfl, rfl⟩)
                      go_round
                      case rel => exact ⟨U.extract 1 U.size, rfl, by have := ex_size U 1 U.size; omega⟩
                      case measure => simp [lenOf, ByteArray.size_extract]; omega
                    all_goals
                      go_wp2_with (go_at_call 56; refine (blank_any _ _ (by assumption) _).mono ?_; rintro e w8 ⟨rfl, rfl⟩)
                      go_loop [9] (fun vv => ∃ (V : ByteArray), vv = .string V ∧ V.size ≤ 2000000) (fun vv => lenOf vv)
                      case atStart => exact ⟨U, rfl, by omega⟩
                      case round =>
                        obtain ⟨Z, rfl, hZ⟩ := hrel
                        have hcase : (∃ (n : Nat) (hn : Z.size = n + 1), (((Z[n]'(by omega)).toNat : Int) == 32 || ((Z[n]'(by omega)).toNat : Int) == 9) = true) ∨ (Z.size = 0) ∨ (∃ (n : Nat) (hn : Z.size = n + 1), (((Z[n]'(by omega)).toNat : Int) == 32 || ((Z[n]'(by omega)).toNat : Int) == 9) = false) := by
                          by_cases h0 : 0 < Z.size
                          · obtain ⟨n, hn⟩ : ∃ n, Z.size = n + 1 := ⟨Z.size - 1, by omega⟩
                            cases hb : (((Z[n]'(by omega)).toNat : Int) == 32 || ((Z[n]'(by omega)).toNat : Int) == 9)
                            · exact .inr (.inr ⟨n, hn, hb⟩)
                            · exact .inl ⟨n, hn, hb⟩
                          · exact .inr (.inl (by omega))
                        have hfl := hr.out.len
                        rcases hcase with ⟨n, hn, hb⟩ | h0 | ⟨n, hn, hb⟩
                        · have hnn : (Z.size : Int) - 1 = (n : Int) := by omega
                          go_wp2_with (go_at_call 56; refine (blank_any _ _ (by assumption) _).mono ?_; rintro e w8 ⟨rfl, rfl⟩)
                          go_round
                          case rel => exact ⟨Z.extract 0 n, rfl, by have := ex_size Z 0 n; omega⟩
                          case measure => simp [lenOf, ByteArray.size_extract]; omega
                        · have h9 := Lib.hid (fj_push (wr := wr) (x := X.extract 0 c) (z := Z) hr.out (by have := ex_size X 0 c; omega) hZ)
                          go_wp2_with (first | (go_at_call 56; refine (blank_any _ _ (by assumption) _).mono ?_; rintro e w8 ⟨rfl, rfl⟩) | (at_builtin; refine wpList_append_lies _ rfl _ _ 74 rfl w1.heap.size 77 i0 (.agg #[.string ⟨#[]⟩, .string ⟨#[]⟩]) 2 32 Tryz.underlying74 hi hz0 hz1 hz2 rfl (by decide) _ _ _ rfl (hr.out.own.alloc _) ⟨wr.heap.size, 0, none⟩ 1 1 [Value.string (X.extract 0 c), Value.string Z] rfl rfl (World.news_of_block (heap_alloc_new _ _)) (two_strs _ _) (by decide) (by unfold maxLen; omega) (by omega) (by have := hr.out.bel.size; simp; omega) (wr.heap.size + 1) (by simp) ?_; intro g2 cap2 w6 hown hgrow hat hlt1))
                          have h99 := Lib.hid (h9.out _ _ _ () hown hgrow)
                          clear hown hgrow h9
                          go_roundw
                          case rel => exact ⟨i + 1, _, by omega, by go_num, h99⟩
                          case measure => first | (simp [intOf]; done) | (simp [intOf]; omega)
                        · have hnn : (Z.size : Int) - 1 = (n : Int) := by omega
                          have h9 := Lib.hid (fj_push (wr := wr) (x := X.extract 0 c) (z := Z) hr.out (by have := ex_size X 0 c; omega) hZ)
                          go_wp2_with (first | (go_at_call 56; refine (blank_any _ _ (by assumption) _).mono ?_; rintro e w8 ⟨rfl, rfl⟩) | (at_builtin; refine wpList_append_lies _ rfl _ _ 74 rfl w1.heap.size 77 i0 (.agg #[.string ⟨#[]⟩, .string ⟨#[]⟩]) 2 32 Tryz.underlying74 hi hz0 hz1 hz2 rfl (by decide) _ _ _ rfl (hr.out.own.alloc _) ⟨wr.heap.size, 0, none⟩ 1 1 [Value.string (X.extract 0 c), Value.string Z] rfl rfl (World.news_of_block (heap_alloc_new _ _)) (two_strs _ _) (by decide) (by unfold maxLen; omega) (by omega) (by have := hr.out.bel.size; simp; omega) (wr.heap.size + 1) (by simp) ?_; intro g2 cap2 w6 hown hgrow hat hlt1))
                          have h99 := Lib.hid (h9.out _ _ _ () hown hgrow)
                          clear hown hgrow h9
                          go_roundw
                          case rel => exact ⟨i + 1, _, by omega, by go_num, h99⟩
                          case measure => first | (simp [intOf]; done) | (simp [intOf]; omega)
            · go_wp2_with (go_at_call 56; refine (blank_any _ _ (by assumption) _).mono ?_; rintro e w8 ⟨rfl, rfl⟩)
              go_roundw
              case rel => exact ⟨i + 1, F, by omega, by go_num, Lib.hid ⟨hr.out.own, hr.out.bel, by have := hr.out.len; omega, hr.out.bd⟩⟩
              case measure => first | (simp [intOf]; done) | (simp [intOf]; omega)
    · have hrd2 := Lib.hid hr.out.own.rd
      have hl := hr.out.len
      obtain ⟨A, c, rfl, hc⟩ := hr.out.own.form
      have Hbd := Lib.hid hr.out.bd
      have HB9 := Lib.hid (HB1.out.trans (hr.out.bel.mono HB1.out.size))
      clear hr
      go_wp2
      go_ret
      exact ⟨A, c, F, rfl, hrd2.out, Hbd.out, by omega, HB9.out⟩
end Go.Proofs.YtkgngahmpafdhaaGreatDoor.QN

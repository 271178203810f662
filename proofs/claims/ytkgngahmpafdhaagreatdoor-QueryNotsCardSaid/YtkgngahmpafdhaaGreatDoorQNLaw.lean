/- The law QueryNots: it returns true. Conditions: that the cell of the library's MaxLen holds some int; lengths that a machine can count. -/
import Derived.Test.YtkgngahmpafdhaaGreatDoorQNKey2
import Derived.Test.YtkgngahmpafdhaaGreatDoorQueryFew
import Derived.Test.YtkgngahmpafdhaaGreatDoorReg
import Derived.Deep.Cut
import Derived.Deep.DeepCutAuto
namespace Go.Proofs.YtkgngahmpafdhaaGreatDoor.QN
open Go.RowKit Mailsack MM PT QU

theorem rkey_any : ∀ n, KeyR n
  | 0 => rkey_zero
  | n + 1 => rkey_succ n (rkey_any n)
theorem holds_at {B : Nat} {sv : Value} {kvs : List Value} {K : List QKey} {v : QV} {W : World} (hK : KeysAt B W sv kvs K) (hg : GoodV v) (hl : K.length ≤ 1000000) :
    ∀ W', Below W.heap.size W W' → Calls Tryz.prog 7 #[.agg #[sv], viewV v] W' fun e W'' => e = .returned (.bool (allQ K v)) ∧ Below W'.heap.size W' W'' :=
  fun W' hW' => holds_any B sv kvs K v W' hg (hK.below hW') hl
theorem allQ_app (A B : List QKey) (v : QV) : allQ (A ++ B) v = (allQ A v && allQ B v) := by simp [allQ]
theorem awake_at {m : Int} {w W : World} (hm : w.cell? ⟨0, 0, none⟩ = some (.int .i64 m)) (hb : Below w.heap.size w W) :
    Calls Tryz.prog 5 #[] W fun e w' => e = .returned (.bool true) ∧ Below w.heap.size w w' :=
  (awake_any m W (max_at hm hb)).mono fun _ _ k => ⟨k.1, hb.trans (k.2.mono hb.size)⟩
theorem key_two {L : List Bs} {x : Int} (h1 : posP 16 L 0 = (L.length : Int)) (h2 : posP 15 L 0 = x) (h3 : 0 ≤ x) : ∃ k, keyP 15 L = some (k, []) ∧ keyP 16 L = some (k, []) := by
  obtain ⟨k, j, hj, _, _, hk⟩ := posP_back h1 (by omega)
  obtain ⟨k2, j2, hj2, _, _, hk2⟩ := posP_back h2 h3
  rw [List.drop_zero] at hk hk2
  have hjl : j = L.length := by omega
  rw [hjl, List.drop_length] at hk
  have := keyP_level 15 L _ hk2
  rw [hk] at this
  injection this with this
  exact ⟨k, by rw [hk2, ← this], hk⟩
theorem few_short {l : List Bs} {v : QV} (h : fewP l v = true) : l.length ≤ 40 ∧ Short l := by
  obtain ⟨_, h2, h3⟩ := fewP_good h
  exact ⟨h2, by omega, fun x hx => by have := h3 x hx; omega⟩
theorem short_app {a b : List Bs} (ha : a.length ≤ 40 ∧ Short a) (hb : b.length ≤ 40 ∧ Short b) : Short (a ++ b) :=
  ⟨by rw [List.length_append]; omega, fun x hx => (List.mem_append.1 hx).elim (ha.2.2 x) (hb.2.2 x)⟩
theorem short_cons {w : Bs} {a : List Bs} (hw : w.length ≤ 1000) (h : Short a) (hl : a.length ≤ 999) : Short (w :: a) :=
  ⟨by rw [List.length_cons]; omega, fun x hx => (List.mem_cons.1 hx).elim (fun e => by rw [e]; exact hw) (h.2 x)⟩
theorem quer_len {l : List Bs} {K : List QKey} (h : queryP l = some K) (hl : l.length ≤ 1000) : K.length ≤ 1000 ∧ 0 < l.length := by
  have key : ∀ (m : Nat) (l : List Bs) (K : List QKey), l.length ≤ m → keysP l.length l = some K → K.length ≤ l.length := by
    intro m
    induction m with
    | zero =>
      intro l K hl h
      have : l = [] := List.length_eq_zero_iff.1 (by omega)
      subst this
      simp [keysP] at h
      subst h; simp
    | succ m ih =>
      intro l K hl h
      cases l with
      | nil => simp [keysP] at h; subst h; simp
      | cons w r =>
        cases hk : keyP 16 (w :: r) with
        | none => rw [keysP_none (by simp) hk] at h; cases h
        | some p =>
          obtain ⟨k, r1⟩ := p
          have hless := keyP_less 16 _ k r1 hk
          rw [keysP_step hk] at h
          obtain ⟨K', h3, rfl⟩ := Option.map_eq_some_iff.1 h
          have := ih r1 K' (by omega) h3
          simp only [List.length_cons] at *
          omega
  unfold queryP at h
  split at h
  · cases h
  · rename_i hne
    have := key l.length l K (Nat.le_refl _) h
    exact ⟨by omega, List.length_pos_iff.2 hne⟩
/-- the cells of a slice of texts, as an append reads them -/
theorem rds_news {W : World} {B : Nat} {A : Option Addr} {n c : Nat} {l : List Bs} (h : RdS W B (.slice A n c) l) (hl : 0 < l.length) : ∃ ad, A = some ad ∧ ad.block < B ∧ ∀ W' : World, (∀ p : Addr, p.block < B → W'.cell? p = W.cell? p) → ∀ (j : Nat) u, (l.map strV)[j]? = some u → W'.cell? (ad.add j) = some u := by
  obtain ⟨A', c', e, _, hc⟩ := h
  injection e with e _ _
  subst e
  obtain ⟨b, off, rfl, hb, hcell⟩ := hc hl
  refine ⟨_, rfl, hb, fun W' hW' j u hu => ?_⟩
  have hadd : (⟨b, off, none⟩ : Addr).add j = ⟨b, off + j, none⟩ := by unfold Addr.add; split <;> simp_all
  rw [List.getElem?_map] at hu
  cases hx : l[j]? with
  | none => rw [hx] at hu; cases hu
  | some x =>
    rw [hx] at hu
    simp only [Option.map_some, Option.some.injEq] at hu
    subst hu
    rw [hadd, hW' ⟨b, off + j, none⟩ hb]
    exact hcell j x hx
theorem one_cells (l : List Bs) : ∀ u ∈ l.map strV, u.oneCell' = true := by
  intro u hu
  obtain ⟨x, _, rfl⟩ := List.mem_map.1 hu
  rfl

def HC2 (W : World) (v : Value) (w : World) : Prop := v = .bool false ∧ Below W.heap.size W w
def wor : Bs := [111, 114]
theorem own_none (w : World) : (w.alloc (.cells #[] 9)).ownsRow w.heap.size 9 1 (.slice (some ⟨w.heap.size, 0, none⟩) 0 0) 0 [] :=
  ⟨rfl, .inr ⟨w.heap.size, 0, #[], rfl, Nat.le_refl _, blk_new _ _, Nat.le_refl _, by decide, rfl, rfl⟩⟩
theorem below_new {w w1 : World} {o : Obj} {row : Option Nat} (hg : (w.alloc o).grownBy w1 row) (hr : ∀ k, row = some k → w.heap.size ≤ k) : Below w.heap.size w w1 :=
  ((Below.refl w.heap.size w).alloc (Nat.le_refl _) o).grown hg (by simp) hr
theorem below_more {w w1 w2 : World} {row : Option Nat} (h : Below w.heap.size w w1) (hg : w1.grownBy w2 row) (hr : ∀ k, row = some k → w.heap.size ≤ k) : Below w.heap.size w w2 := h.grown hg h.size hr
set_option maxHeartbeats 16000000 in
set_option maxRecDepth 100000 in
theorem qnots_any (av bv : Value) (a b : List Bs) (v : QV) (m : Int) (w : World) (ha : RdS w w.heap.size av a) (hb : RdS w w.heap.size bv b) (hal : a.length ≤ 9223372036854775807) (hbl : b.length ≤ 9223372036854775807) (hax : ∀ x ∈ a, x.length ≤ 9223372036854775807) (hbx : ∀ x ∈ b, x.length ≤ 9223372036854775807)
    (ht : v.text.length ≤ 9223372036854775807) (hm : w.cell? ⟨0, 0, none⟩ = some (.int .i64 m)) :
    Calls Tryz.prog 3 #[av, bv, viewV v] w fun e w' => e = .returned (.bool true) ∧ Below w.heap.size w w' := by
  have Hm := Lib.hid hm
  have HB1 := Lib.hid ((Below.refl w.heap.size w).alloc (Nat.le_refl _) (viewB v))
  have HV1 := Lib.hid (blk_new w (viewB v))
  have HA := Lib.hid ha
  have HBb := Lib.hid hb
  have HF := Lib.hid (fun W' (h : Below w.heap.size w W') => few_any av a v W' ((ha.below h (Nat.le_refl _)).more h.size) hal hax ht)
  have HG := Lib.hid (fun W' (h : Below w.heap.size w W') => few_any bv b v W' ((hb.below h (Nat.le_refl _)).more h.size) hbl hbx ht)
  have HVC := Lib.hid (fun W' (h : Below (w.alloc (viewB v)).heap.size (w.alloc (viewB v)) W') => view_cells (blk_below HV1.out h (blk_lt HV1.out)))
  clear hm ha hb hax hbx
  cases hfa : fewP a v with
  | false =>
    rw [hfa] at HF
    clear hfa
    unfold viewV at HF ⊢
    go_enter Tryz.func3, Tryz.ntmps3
    go_wp2_with fail
    refine (HF.out _ HB1.out).mono ?_
    rintro e w2 ⟨rfl, hb2⟩
    have HB2 := Lib.hid (HB1.out.trans (hb2.mono HB1.out.size))
    clear hb2
    go_wp2_with fail
    refine (awake_at Hm.out HB2.out).mono ?_
    rintro e w3 ⟨rfl, hb3⟩
    go_wp2
    go_ret
    exact ⟨rfl, hb3⟩
  | true =>
    have Hsa := Lib.hid (few_short hfa)
    have Hg := Lib.hid (fewP_good hfa).1
    rw [hfa] at HF
    clear hfa
    cases hfb : fewP b v with
    | false =>
      rw [hfb] at HG
      clear hfb
      unfold viewV at HF HG ⊢
      go_enter Tryz.func3, Tryz.ntmps3
      go_wp2_with fail
      refine (HF.out _ HB1.out).mono ?_
      rintro e w2 ⟨rfl, hb2⟩
      obtain ⟨d1, d2, d3, d4, d5, d6, d7⟩ := HVC.out _ hb2
      have HB2 := Lib.hid (HB1.out.trans (hb2.mono HB1.out.size))
      clear hb2
      go_wp2_with fail
      refine (HG.out _ HB2.out).mono ?_
      rintro e w3 ⟨rfl, hb3⟩
      have HB3 := Lib.hid (HB2.out.trans (hb3.mono HB2.out.size))
      clear hb3 d1 d2 d3 d4 d5 d6 d7
      go_wp2_with fail
      refine (awake_at Hm.out HB3.out).mono ?_
      rintro e w3 ⟨rfl, hb3⟩
      go_wp2
      go_ret
      exact ⟨rfl, hb3⟩
    | true =>
      have Hsb := Lib.hid (few_short hfb)
      rw [hfb] at HG
      clear hfb
      have HPa := Lib.hid (fun W' (h : Below w.heap.size w W') => parse_any av a m W' ((HA.out.below h (Nat.le_refl _)).more h.size) Hsa.out.2 (max_at Hm.out h))
      have HPb := Lib.hid (fun W' (h : Below w.heap.size w W') => parse_any bv b m W' ((HBb.out.below h (Nat.le_refl _)).more h.size) Hsb.out.2 (max_at Hm.out h))
      obtain ⟨Aa, ca, rfl, hca, _⟩ := HA.out
      obtain ⟨Ab, cb, rfl, hcb, _⟩ := HBb.out
      have hla := Hsa.out.1
      have hlb := Hsb.out.1
      unfold viewV at HF HG ⊢
      go_enter Tryz.func3, Tryz.ntmps3
      go_wp2_with fail
      refine (HF.out _ HB1.out).mono ?_
      rintro e w2 ⟨rfl, hb2⟩
      obtain ⟨d1, d2, d3, d4, d5, d6, d7⟩ := HVC.out _ hb2
      have Hb2 := Lib.hid hb2
      have HB2 := Lib.hid (HB1.out.trans (hb2.mono HB1.out.size))
      clear hb2
      go_wp2_with fail
      refine (HG.out _ HB2.out).mono ?_
      rintro e w3 ⟨rfl, hb3⟩
      have Hb3 := Lib.hid (Hb2.out.trans (hb3.mono Hb2.out.size))
      have HB3 := Lib.hid (HB2.out.trans (hb3.mono HB2.out.size))
      clear hb3 d1 d2 d3 d4 d5 d6 d7 Hb2 HB2 HF HG
      go_wp2_with fail
      have E := HPa.out _ HB3.out
      have hqb0 : queryP b = none ∨ ∃ B, queryP b = some B := by cases queryP b <;> simp
      cases hqa : queryP a with
      | none =>
        rw [hqa] at E
        refine E.mono ?_
        rintro e w4 ⟨hb4, rfl⟩
        have HB5 := Lib.hid ((HB3.out.trans (hb4.mono HB3.out.size)).alloc (Nat.le_trans HB3.out.size hb4.size) (.cells #[.slice none 0 0] 29))
        have E2 := HPb.out _ HB5.out
        clear hqa E hb4
        rcases hqb0 with hqb | ⟨B, hqb⟩
        · rw [hqb] at E2
          go_wp2_with fail
          refine E2.mono ?_
          rintro e w6 ⟨hb6, rfl⟩
          have HB6 := Lib.hid ((HB5.out.trans (hb6.mono HB5.out.size)).alloc (Nat.le_trans HB5.out.size hb6.size) (.cells #[.slice none 0 0] 29))
          clear hqb E2 hb6
          go_wp2_with fail
          refine (awake_at Hm.out HB6.out).mono ?_
          rintro e w3 ⟨rfl, hb3⟩
          go_wp2
          go_ret
          exact ⟨rfl, hb3⟩
        · rw [hqb] at E2
          go_wp2_with fail
          refine E2.mono ?_
          rintro e w6 ⟨hb6, v2, kvs2, rfl, hK2⟩
          have hbt := HB5.out.trans (hb6.mono HB5.out.size)
          obtain ⟨A2, c2, rfl, hc2⟩ := hK2.form
          have HB6 := Lib.hid (hbt.alloc hbt.size (.cells #[.slice A2 kvs2.length c2] 29))
          clear hqb E2 hb6 hbt hK2
          go_wp2_with fail
          refine (awake_at Hm.out HB6.out).mono ?_
          rintro e w3 ⟨rfl, hb3⟩
          go_wp2
          go_ret
          exact ⟨rfl, hb3⟩
      | some A =>
        rw [hqa] at E
        have Hqa := Lib.hid hqa
        refine E.mono ?_
        rintro e w4 ⟨hb4, v1, kvs1, rfl, hK1⟩
        have HK1 := Lib.hid hK1
        obtain ⟨A1, c1, rfl, hc1⟩ := hK1.form
        obtain ⟨n1, hn1⟩ : ∃ n1, kvs1.length = n1 := ⟨_, rfl⟩
        rw [hn1] at hc1 HK1 ⊢
        have hbt := HB3.out.trans (hb4.mono HB3.out.size)
        have HB5 := Lib.hid (hbt.alloc hbt.size (.cells #[.slice A1 n1 c1] 29))
        have hbt1 := Hb3.out.trans (hb4.mono Hb3.out.size)
        have Hb5 := Lib.hid (hbt1.alloc hbt1.size (.cells #[.slice A1 n1 c1] 29))
        have E2 := HPb.out _ HB5.out
        have B1 := Lib.hid (blk_new w4 (.cells #[.slice A1 n1 c1] 29))
        have HK1' := Lib.hid (HK1.out.below ((Below.refl w4.heap.size w4).alloc (Nat.le_refl _) (.cells #[.slice A1 n1 c1] 29)))
        clear hqa E hb4 hbt hbt1 hK1 hn1
        rcases hqb0 with hqb | ⟨B, hqb⟩
        · rw [hqb] at E2
          go_wp2_with fail
          refine E2.mono ?_
          rintro e w6 ⟨hb6, rfl⟩
          have HB6 := Lib.hid ((HB5.out.trans (hb6.mono HB5.out.size)).alloc (Nat.le_trans HB5.out.size hb6.size) (.cells #[.slice none 0 0] 29))
          clear hqb E2 hb6
          go_wp2_with fail
          refine (awake_at Hm.out HB6.out).mono ?_
          rintro e w3 ⟨rfl, hb3⟩
          go_wp2
          go_ret
          exact ⟨rfl, hb3⟩
        · rw [hqb] at E2
          have Hqb := Lib.hid hqb
          go_wp2_with fail
          refine E2.mono ?_
          rintro e w6 ⟨hb6, v2, kvs2, rfl, hK2⟩
          have HK2 := Lib.hid hK2
          obtain ⟨A2, c2, rfl, hc2⟩ := hK2.form
          obtain ⟨n2, hn2⟩ : ∃ n2, kvs2.length = n2 := ⟨_, rfl⟩
          rw [hn2] at hc2 HK2 ⊢
          have hbt := HB5.out.trans (hb6.mono HB5.out.size)
          have HB7 := Lib.hid (hbt.alloc hbt.size (.cells #[.slice A2 n2 c2] 29))
          have hbt1 := Hb5.out.trans (hb6.mono Hb5.out.size)
          have Hb7 := Lib.hid (hbt1.alloc hbt1.size (.cells #[.slice A2 n2 c2] 29))
          have ha7 := (Below.refl w6.heap.size w6).alloc (Nat.le_refl _) (.cells #[.slice A2 n2 c2] 29)
          have B1' := Lib.hid (blk_below (blk_below B1.out hb6 (blk_lt B1.out)) ha7 (Nat.lt_of_lt_of_le (blk_lt B1.out) hb6.size))
          have B2' := Lib.hid (blk_new w6 (.cells #[.slice A2 n2 c2] 29))
          have HQ1 := Lib.hid (holds_at ((HK1'.out.below hb6).below ha7) Hg.out (by have := (quer_len Hqa.out (by omega)).1; omega))
          have HQ2 := Lib.hid (holds_at (HK2.out.below ha7) Hg.out (by have := (quer_len Hqb.out (by omega)).1; omega))
          clear hqb E2 hb6 hbt hbt1 hK2 hn2 ha7 B1 HK1 HK1' HK2 HB5 Hb5 HB3 Hb3
          go_upto_region 7 with fail
          generalize w6.alloc (.cells #[.slice A2 n2 c2] 29) = W7 at HB7 Hb7 B1' B2' HQ1 HQ2 ⊢
          obtain ⟨g1, hg1⟩ : ∃ g1, w4.heap.size = g1 := ⟨_, rfl⟩
          obtain ⟨g2, hg2⟩ : ∃ g2, w6.heap.size = g2 := ⟨_, rfl⟩
          rw [hg1] at B1' ⊢
          rw [hg2] at B2' ⊢
          clear hg1 hg2
          obtain ⟨i0, hi, hz0, hz1, hz2⟩ := info_parts infoStr
          have hpa := (quer_len Hqa.out (by omega)).2
          have hpb := (quer_len Hqb.out (by omega)).2
          obtain ⟨ada, rfl, hada, hna⟩ := rds_news HA.out hpa
          obtain ⟨adb, rfl, hadb, hnb⟩ := rds_news HBb.out hpb
          have Hna := Lib.hid (fun (W' : World) (h : Below w.heap.size w W') => hna W' (fun p hp => h.cell hp))
          have Hnb := Lib.hid (fun (W' : World) (h : Below w.heap.size w W') => hnb W' (fun p hp => h.cell hp))
          clear hna hnb hada hadb
          go_wp2_with (first | (at_builtin; refine wpList_append_lies _ rfl _ _ 22 rfl W7.heap.size 9 i0 (.string ⟨#[]⟩) 1 16 Tryz.underlying22 hi hz0 hz1 hz2 rfl (by decide) _ 0 [] rfl (own_none W7) ada a.length ca (a.map strV) rfl (by simp) (Hna.out _ (HB7.out.alloc HB7.out.size _)) (one_cells a) hpa (by unfold maxLen; omega) (by omega) (by simp) (W7.heap.size + 1) (by simp) ?_; intro g8 cap8 w8 hown8 hgrow8 hat8 hlt8; have H8 := Lib.hid (below_new hgrow8 (fun k hk => (World.ownsRow.lt (own_none W7) k hk).1)); rw [Nat.zero_add, List.nil_append] at hown8; have Hown8 := Lib.hid hown8; clear hown8 hgrow8 hat8 hlt8) | (at_builtin; refine wpList_append_lies _ rfl _ _ 22 rfl W7.heap.size 9 i0 (.string ⟨#[]⟩) 1 16 Tryz.underlying22 hi hz0 hz1 hz2 rfl (by decide) _ _ _ rfl Hown8.out adb b.length cb (b.map strV) rfl (by simp) (Hnb.out _ (HB7.out.trans (H8.out.mono HB7.out.size))) (one_cells b) hpb (by unfold maxLen; omega) (by omega) H8.out.size _ rfl ?_; intro g9 cap9 w9 hown9 hgrow9 hat9 hlt9; have H9 := Lib.hid (below_more H8.out hgrow9 (fun k hk => (World.ownsRow.lt Hown8.out k hk).1)); have Hown9 := Lib.hid hown9; clear hown9 hgrow9 hat9 hlt9 H8 Hown8))
          have hs9 : OwnS w9 W7.heap.size (.slice (some ⟨g9, 0, none⟩) (a.length + b.length) cap9) (a ++ b) := by
            unfold OwnS; rw [List.length_append, List.map_append]; exact Hown9.out
          have E3 := parse_any _ (a ++ b) m w9 hs9.rd (short_app Hsa.out Hsb.out) (max_at Hm.out (HB7.out.trans (H9.out.mono HB7.out.size)))
          rw [query_app Hqa.out Hqb.out] at E3
          refine E3.mono ?_
          rintro e w10 ⟨hb10, v3, kvs3, rfl, hK3⟩
          have HK3 := Lib.hid hK3
          obtain ⟨A3, c3, rfl, hc3⟩ := hK3.form
          obtain ⟨n3, hn3⟩ : ∃ n3, kvs3.length = n3 := ⟨_, rfl⟩
          rw [hn3] at hc3 HK3 ⊢
          have ha11 := (Below.refl w10.heap.size w10).alloc (Nat.le_refl _) (.cells #[.slice A3 n3 c3] 29)
          have hb11 := H9.out.trans ((hb10.trans (ha11.mono hb10.size)).mono H9.out.size)
          have H11 := Lib.hid hb11
          have D3 := Lib.hid (blk_new w10 (.cells #[.slice A3 n3 c3] 29))
          have D1 := Lib.hid (blk_below B1'.out hb11 (blk_lt B1'.out))
          have D2 := Lib.hid (blk_below B2'.out hb11 (blk_lt B2'.out))
          have HB11 := Lib.hid (HB7.out.trans (hb11.mono HB7.out.size))
          have Hb11 := Lib.hid (Hb7.out.trans (hb11.mono Hb7.out.size))
          have HQ3 := Lib.hid (holds_at (HK3.out.below ha11) Hg.out (by have := (quer_len Hqa.out (by omega)).1; have := (quer_len Hqb.out (by omega)).1; rw [List.length_append]; omega))
          clear ha11 hb11 hb10 E3 hs9 hK3 HK3 hn3 Hown9 H9 HB7 Hb7 B1' B2'
          go_upto_region 8 with fail
          generalize w10.alloc (.cells #[.slice A3 n3 c3] 29) = W11 at H11 D1 D2 D3 HB11 Hb11 HQ3 ⊢
          obtain ⟨g3, hg3⟩ : ∃ g3, w10.heap.size = g3 := ⟨_, rfl⟩
          rw [hg3] at D3 ⊢
          clear hg3
          have HV11 := Lib.hid (fun (W' : World) (h : Below W11.heap.size W11 W') => HVC.out W' (Hb11.out.trans (h.mono Hb11.out.size)))
          obtain ⟨s1, hs1⟩ : ∃ s1, allQ A v = s1 := ⟨_, rfl⟩
          obtain ⟨s2, hs2⟩ : ∃ s2, allQ B v = s2 := ⟨_, rfl⟩
          have HQ1' := Lib.hid (fun (W' : World) (h : Below W11.heap.size W11 W') => HQ1.out W' (H11.out.trans (h.mono H11.out.size)))
          have HQ2' := Lib.hid (fun (W' : World) (h : Below W11.heap.size W11 W') => HQ2.out W' (H11.out.trans (h.mono H11.out.size)))
          have HQ3' := Lib.hid (fun (W' : World) (h : Below W11.heap.size W11 W') => HQ3.out W' h)
          simp only [allQ_app, hs1, hs2] at HQ1' HQ2' HQ3'
          obtain ⟨s3, hs3⟩ : ∃ s3, (s1 && s2) = s3 := ⟨_, rfl⟩
          rw [hs3] at HQ3'
          have Hs1 := Lib.hid hs1
          have Hs2 := Lib.hid hs2
          unfold viewV at HQ1' HQ2' HQ3'
          clear hs1 hs2 HQ1 HQ2 HQ3
          go_cut [77] (fun v77 wx => Hid (HC2 W11 v77 wx))
          case first =>
            cases s1
            · have e3 : s3 = false := by rw [← hs3]; rfl
              subst e3
              clear hs3
              cases s2
              all_goals
                refine RG.wp_region_det (fun W => Hid (Below W11.heap.size W11 W)) (by kernel_rfl) (by kernel_rfl) (Lib.hid (Below.refl _ _).drew) ?_
                apply RG.wpDet_cons
                · intro w9 hw9
                  repeat go_step
                  with_reducible refine RG.only_mk ?_
                  exact hw9
                · rfl
                apply RG.wpDet_cons
                · intro w9 hw9
                  repeat go_step
                  with_reducible refine RG.only_mk ?_
                  exact hw9
                · rfl
                apply RG.wpDet_cons
                · intro w9 hw9
                  repeat go_step
                  with_reducible refine RG.only_mk ?_
                  exact hw9
                · rfl
                apply RG.wpDet_cons
                · intro w9 hw9
                  have k1 : w9.cell? ⟨g3, 0, none⟩ = some (.slice A3 n3 c3) := cell_blk (blk_below D3.out hw9.out (blk_lt D3.out)) 0
                  repeat go_step
                  with_reducible refine RG.only_mk ?_
                  exact hw9
                · rfl
                apply RG.wpDet_cons
                · intro w9 hw9
                  obtain ⟨d1, d2, d3, d4, d5, d6, d7⟩ := HV11.out _ hw9.out
                  repeat go_step
                  with_reducible refine RG.only_mk ?_
                  exact hw9
                · rfl
                apply RG.wpDet_cons
                · intro w9 hw9
                  repeat go_step
                  refine (HQ3'.out w9 hw9.out).mono ?_
                  rintro e w10 ⟨rfl, hb10⟩
                  simp only []
                  repeat go_step
                  with_reducible refine RG.only_mk ?_
                  exact Lib.hid (hw9.out.trans (hb10.mono hw9.out.size))
                · rfl
                apply RG.wpDet_cons
                · intro w9 hw9
                  have k1 : w9.cell? ⟨g1, 0, none⟩ = some (.slice A1 n1 c1) := cell_blk (blk_below D1.out hw9.out (blk_lt D1.out)) 0
                  repeat go_step
                  with_reducible refine RG.only_mk ?_
                  exact hw9
                · rfl
                apply RG.wpDet_cons
                · intro w9 hw9
                  obtain ⟨d1, d2, d3, d4, d5, d6, d7⟩ := HV11.out _ hw9.out
                  repeat go_step
                  with_reducible refine RG.only_mk ?_
                  exact hw9
                · rfl
                apply RG.wpDet_cons
                · intro w9 hw9
                  repeat go_step
                  refine (HQ1'.out w9 hw9.out).mono ?_
                  rintro e w10 ⟨rfl, hb10⟩
                  simp only []
                  repeat go_step
                  with_reducible refine RG.only_mk ?_
                  exact Lib.hid (hw9.out.trans (hb10.mono hw9.out.size))
                · rfl
                apply RG.wpDet_cons
                · intro w9 hw9
                  repeat go_step
                  with_reducible refine RG.only_mk ?_
                  exact hw9
                · rfl
                apply RG.wpDet_cons
                · intro w9 hw9
                  repeat go_step
                  with_reducible refine RG.only_mk ?_
                  exact hw9
                · rfl
                apply RG.wpDet_cons
                · intro w9 hw9
                  repeat go_step
                  with_reducible refine RG.only_mk ?_
                  exact hw9
                · rfl
                apply RG.wpDet_cons
                · intro w9 hw9
                  repeat go_step
                  with_reducible refine RG.only_mk ?_
                  exact hw9
                · rfl
                apply RG.wpDet_cons
                · intro w9 hw9
                  repeat go_step
                  with_reducible refine RG.only_mk ?_
                  exact hw9
                · rfl
                apply RG.wpDet_cons
                · intro w9 hw9
                  repeat go_step
                  with_reducible refine RG.only_mk ?_
                  exact hw9
                · rfl
                apply RG.wpDet_cons
                · intro w9 hw9
                  repeat go_step
                  with_reducible refine RG.only_mk ?_
                  exact hw9
                · rfl
                refine RG.wpDet_nil (fun w9 hw9 => ?_)
                go_wp2_with fail
                go_meet
                exact Lib.hid ⟨rfl, hw9.out⟩
            · have e3 : s3 = s2 := by rw [← hs3]; rfl
              subst e3
              clear hs3
              cases s3
              all_goals
                refine RG.wp_region_det (fun W => Hid (Below W11.heap.size W11 W)) (by kernel_rfl) (by kernel_rfl) (Lib.hid (Below.refl _ _).drew) ?_
                apply RG.wpDet_cons
                · intro w9 hw9
                  repeat go_step
                  with_reducible refine RG.only_mk ?_
                  exact hw9
                · rfl
                apply RG.wpDet_cons
                · intro w9 hw9
                  repeat go_step
                  with_reducible refine RG.only_mk ?_
                  exact hw9
                · rfl
                apply RG.wpDet_cons
                · intro w9 hw9
                  repeat go_step
                  with_reducible refine RG.only_mk ?_
                  exact hw9
                · rfl
                apply RG.wpDet_cons
                · intro w9 hw9
                  have k1 : w9.cell? ⟨g3, 0, none⟩ = some (.slice A3 n3 c3) := cell_blk (blk_below D3.out hw9.out (blk_lt D3.out)) 0
                  repeat go_step
                  with_reducible refine RG.only_mk ?_
                  exact hw9
                · rfl
                apply RG.wpDet_cons
                · intro w9 hw9
                  obtain ⟨d1, d2, d3, d4, d5, d6, d7⟩ := HV11.out _ hw9.out
                  repeat go_step
                  with_reducible refine RG.only_mk ?_
                  exact hw9
                · rfl
                apply RG.wpDet_cons
                · intro w9 hw9
                  repeat go_step
                  refine (HQ3'.out w9 hw9.out).mono ?_
                  rintro e w10 ⟨rfl, hb10⟩
                  simp only []
                  repeat go_step
                  with_reducible refine RG.only_mk ?_
                  exact Lib.hid (hw9.out.trans (hb10.mono hw9.out.size))
                · rfl
                apply RG.wpDet_cons
                · intro w9 hw9
                  have k1 : w9.cell? ⟨g1, 0, none⟩ = some (.slice A1 n1 c1) := cell_blk (blk_below D1.out hw9.out (blk_lt D1.out)) 0
                  repeat go_step
                  with_reducible refine RG.only_mk ?_
                  exact hw9
                · rfl
                apply RG.wpDet_cons
                · intro w9 hw9
                  obtain ⟨d1, d2, d3, d4, d5, d6, d7⟩ := HV11.out _ hw9.out
                  repeat go_step
                  with_reducible refine RG.only_mk ?_
                  exact hw9
                · rfl
                apply RG.wpDet_cons
                · intro w9 hw9
                  repeat go_step
                  refine (HQ1'.out w9 hw9.out).mono ?_
                  rintro e w10 ⟨rfl, hb10⟩
                  simp only []
                  repeat go_step
                  with_reducible refine RG.only_mk ?_
                  exact Lib.hid (hw9.out.trans (hb10.mono hw9.out.size))
                · rfl
                apply RG.wpDet_cons
                · intro w9 hw9
                  repeat go_step
                  with_reducible refine RG.only_mk ?_
                  exact hw9
                · rfl
                apply RG.wpDet_cons
                · intro w9 hw9
                  have k1 : w9.cell? ⟨g2, 0, none⟩ = some (.slice A2 n2 c2) := cell_blk (blk_below D2.out hw9.out (blk_lt D2.out)) 0
                  repeat go_step
                  with_reducible refine RG.only_mk ?_
                  exact hw9
                · rfl
                apply RG.wpDet_cons
                · intro w9 hw9
                  obtain ⟨d1, d2, d3, d4, d5, d6, d7⟩ := HV11.out _ hw9.out
                  repeat go_step
                  with_reducible refine RG.only_mk ?_
                  exact hw9
                · rfl
                apply RG.wpDet_cons
                · intro w9 hw9
                  repeat go_step
                  refine (HQ2'.out w9 hw9.out).mono ?_
                  rintro e w10 ⟨rfl, hb10⟩
                  simp only []
                  repeat go_step
                  with_reducible refine RG.only_mk ?_
                  exact Lib.hid (hw9.out.trans (hb10.mono hw9.out.size))
                · rfl
                apply RG.wpDet_cons
                · intro w9 hw9
                  repeat go_step
                  with_reducible refine RG.only_mk ?_
                  exact hw9
                · rfl
                apply RG.wpDet_cons
                · intro w9 hw9
                  repeat go_step
                  with_reducible refine RG.only_mk ?_
                  exact hw9
                · rfl
                apply RG.wpDet_cons
                · intro w9 hw9
                  repeat go_step
                  with_reducible refine RG.only_mk ?_
                  exact hw9
                · rfl
                refine RG.wpDet_nil (fun w9 hw9 => ?_)
                go_wp2_with fail
                go_meet
                exact Lib.hid ⟨rfl, hw9.out⟩
          case rest =>
            obtain ⟨rfl, hbel⟩ := hcut.out
            have HW := Lib.hid (HB11.out.trans (hbel.mono HB11.out.size))
            have HV := Lib.hid (fun (W' : World) (h : Below wc.heap.size wc W') => HV11.out W' (hbel.trans (h.mono hbel.size)))
            have G1 := Lib.hid (blk_below D1.out hbel (blk_lt D1.out))
            have G2 := Lib.hid (blk_below D2.out hbel (blk_lt D2.out))
            have HH1 := Lib.hid (fun (W' : World) (h : Below wc.heap.size wc W') => HQ1'.out W' (hbel.trans (h.mono hbel.size)))
            have HH2 := Lib.hid (fun (W' : World) (h : Below wc.heap.size wc W') => HQ2'.out W' (hbel.trans (h.mono hbel.size)))
            clear hbel hcut HQ1' HQ2' HQ3' D1 D2 D3 H11 HB11 Hb11 HV11 hs3 hc1 hc2 hc3
            have HKey := Lib.hid (fun (av : Value) (L : List Bs) (hL : RdS w w.heap.size av L) (hs : Short L) (W' : World) (h : Below w.heap.size w W') => rkey_any 16 W' av L 0 1 v (by decide) ((hL.below h (Nat.le_refl _)).more h.size) hs (Nat.zero_le _) Hg.out)
            have HKey2 := Lib.hid (fun (av : Value) (L : List Bs) (hL : RdS w w.heap.size av L) (hs : Short L) (W' : World) (h : Below w.heap.size w W') => rkey_any 15 W' av L 0 2 v (by decide) ((hL.below h (Nat.le_refl _)).more h.size) hs (Nat.zero_le _) Hg.out)
            simp only [show ((0 : Nat) : Int) = 0 from rfl, show ((1 : Nat) : Int) = 1 from rfl, show ((2 : Nat) : Int) = 2 from rfl] at HKey HKey2
            unfold viewV at HKey HKey2
            have E1 := Lib.hid (HKey.out _ a HA.out Hsa.out.2)
            have E2 := Lib.hid (HKey.out _ b HBb.out Hsb.out.2)
            have E3 := Lib.hid (HKey2.out _ a HA.out Hsa.out.2)
            have E4 := Lib.hid (HKey2.out _ b HBb.out Hsb.out.2)
            obtain ⟨x1, hx1⟩ : ∃ x1, posP 16 a 0 = x1 := ⟨_, rfl⟩
            obtain ⟨x2, hx2⟩ : ∃ x2, posP 16 b 0 = x2 := ⟨_, rfl⟩
            obtain ⟨x3, hx3⟩ : ∃ x3, posP 15 a 0 = x3 := ⟨_, rfl⟩
            obtain ⟨x4, hx4⟩ : ∃ x4, posP 15 b 0 = x4 := ⟨_, rfl⟩
            rw [hx1] at E1
            rw [hx2] at E2
            rw [hx3] at E3
            rw [hx4] at E4
            have Hx1 := Lib.hid hx1
            have Hx2 := Lib.hid hx2
            have Hx3 := Lib.hid hx3
            have Hx4 := Lib.hid hx4
            clear hx1 hx2 hx3 hx4 HKey HKey2
            obtain ⟨d1, d2, d3, d4, d5, d6, d7⟩ := HV.out _ (Below.refl _ _)
            go_wp2_with fail
            refine (E1.out _ HW.out).mono ?_
            rintro e y1 ⟨⟨bb1, rfl⟩, hy1⟩
            have Y1 := Lib.hid hy1
            clear d1 d2 d3 d4 d5 d6 d7 hy1
            obtain ⟨d1, d2, d3, d4, d5, d6, d7⟩ := HV.out _ Y1.out
            go_wp2_with fail
            refine (E2.out _ (HW.out.trans (Y1.out.mono HW.out.size))).mono ?_
            rintro e y2 ⟨⟨bb2, rfl⟩, hy2⟩
            have Y2 := Lib.hid (Y1.out.trans (hy2.mono Y1.out.size))
            clear d1 d2 d3 d4 d5 d6 d7 hy2
            obtain ⟨d1, d2, d3, d4, d5, d6, d7⟩ := HV.out _ Y2.out
            go_wp2_with fail
            refine (E3.out _ (HW.out.trans (Y2.out.mono HW.out.size))).mono ?_
            rintro e y3 ⟨⟨bb3, rfl⟩, hy3⟩
            have Y3 := Lib.hid (Y2.out.trans (hy3.mono Y2.out.size))
            clear d1 d2 d3 d4 d5 d6 d7 hy3
            obtain ⟨d1, d2, d3, d4, d5, d6, d7⟩ := HV.out _ Y3.out
            go_wp2_with fail
            refine (E4.out _ (HW.out.trans (Y3.out.mono HW.out.size))).mono ?_
            rintro e y4 ⟨⟨bb4, rfl⟩, hy4⟩
            have Y4 := Lib.hid (Y3.out.trans (hy4.mono Y3.out.size))
            have HW4 := Lib.hid (HW.out.trans (Y4.out.mono HW.out.size))
            clear d1 d2 d3 d4 d5 d6 d7 hy4 Y1 Y2 Y3 E1 E2 E3 E4
            have hcase : (x1 = (a.length : Int) ∧ x2 = (b.length : Int) ∧ 0 ≤ x3 ∧ 0 ≤ x4) ∨ x1 ≠ (a.length : Int) ∨ (x1 = (a.length : Int) ∧ x2 ≠ (b.length : Int)) ∨ (x1 = (a.length : Int) ∧ x2 = (b.length : Int) ∧ x3 < 0) ∨ (x1 = (a.length : Int) ∧ x2 = (b.length : Int) ∧ 0 ≤ x3 ∧ x4 < 0) := by omega
            rcases hcase with ⟨c1, c2, c3, c4⟩ | c1 | ⟨c1, c2⟩ | ⟨c1, c2, c3⟩ | ⟨c1, c2, c3, c4⟩
            · obtain ⟨ka, ha15, ha16⟩ := key_two (c1 ▸ Hx1.out) Hx3.out c3
              obtain ⟨kb, hb15, hb16⟩ := key_two (c2 ▸ Hx2.out) Hx4.out c4
              have hA : A = [ka] := by have := query_one ha16; rw [Hqa.out] at this; exact Option.some.inj this
              have hBq : B = [kb] := by have := query_one hb16; rw [Hqb.out] at this; exact Option.some.inj this
              have He1 := Lib.hid (show semQ ka v = s1 by have := Hs1.out; rw [hA] at this; simpa [allQ] using this)
              have He2 := Lib.hid (show semQ kb v = s2 by have := Hs2.out; rw [hBq] at this; simpa [allQ] using this)
              have Hqn := Lib.hid (show queryP (wNOT :: a) = some [.not ka] from query_not (by kernel_rfl) ha15)
              have Hqo := Lib.hid (show queryP (wor :: (a ++ b)) = some [.or ka kb] from query_or (by kernel_rfl) ha15 hb15)
              subst c1
              subst c2
              clear ha15 ha16 hb15 hb16 hA hBq
              go_wp2_with (at_builtin; refine wpList_append_lies _ rfl _ _ 22 rfl y4.heap.size 9 i0 (.string ⟨#[]⟩) 1 16 Tryz.underlying22 hi hz0 hz1 hz2 rfl (by decide) _ 1 [strV wNOT] rfl (own_one y4 wNOT) ada a.length ca (a.map strV) rfl (by simp) (Hna.out _ (HW4.out.alloc HW4.out.size _)) (one_cells a) hpa (by unfold maxLen; omega) (by omega) (by simp) (y4.heap.size + 1) (by simp) ?_; intro gx capx w12 hown hgrow hat hlt; have H12 := Lib.hid (below_new hgrow (fun k hk => (World.ownsRow.lt (own_one y4 wNOT) k hk).1)); have Hown12 := Lib.hid hown; clear hown hgrow hat hlt)
              have hs12 : OwnS w12 y4.heap.size (.slice (some ⟨gx, 0, none⟩) (1 + a.length) capx) (wNOT :: a) := by
                unfold OwnS; rw [List.length_cons, Nat.add_comm a.length 1, List.map_cons]; exact Hown12.out
              have E5 := parse_any _ (wNOT :: a) m w12 hs12.rd (short_cons (by decide) Hsa.out.2 (by omega)) (max_at Hm.out (HW4.out.trans (H12.out.mono HW4.out.size)))
              rw [Hqn.out] at E5
              refine E5.mono ?_
              rintro e w13 ⟨hb13, v5, kvs5, rfl, hK5⟩
              have HK5 := Lib.hid hK5
              obtain ⟨A5, c5, rfl, hc5⟩ := hK5.form
              obtain ⟨n5, hn5⟩ : ∃ n5, kvs5.length = n5 := ⟨_, rfl⟩
              rw [hn5] at hc5 HK5 ⊢
              have ha14 := (Below.refl w13.heap.size w13).alloc (Nat.le_refl _) (.cells #[.slice A5 n5 c5] 29)
              have hb14 := H12.out.trans ((hb13.trans (ha14.mono hb13.size)).mono H12.out.size)
              have B5 := Lib.hid (blk_new w13 (.cells #[.slice A5 n5 c5] 29))
              have HK5' := Lib.hid (HK5.out.below ha14)
              have Y14 := Lib.hid (Y4.out.trans (hb14.mono Y4.out.size))
              have HW14 := Lib.hid (HW4.out.trans (hb14.mono HW4.out.size))
              clear ha14 hb14 hb13 E5 hs12 hK5 HK5 hn5 Hown12 H12
              go_upto_region 17 with fail
              generalize w13.alloc (.cells #[.slice A5 n5 c5] 29) = W14 at B5 HK5' Y14 HW14 ⊢
              obtain ⟨g5, hg5⟩ : ∃ g5, w13.heap.size = g5 := ⟨_, rfl⟩
              rw [hg5] at B5 ⊢
              clear hg5
              go_wp2_with (first | (at_builtin; refine wpList_append_lies _ rfl _ _ 22 rfl W14.heap.size 9 i0 (.string ⟨#[]⟩) 1 16 Tryz.underlying22 hi hz0 hz1 hz2 rfl (by decide) _ 1 [strV wor] rfl (own_one W14 wor) ada a.length ca (a.map strV) rfl (by simp) (Hna.out _ (HW14.out.alloc HW14.out.size _)) (one_cells a) hpa (by unfold maxLen; omega) (by omega) (by simp) (W14.heap.size + 1) (by simp) ?_; intro gx capx w15 hown hgrow hat hlt; have H15 := Lib.hid (below_new hgrow (fun k hk => (World.ownsRow.lt (own_one W14 wor) k hk).1)); have Hown15 := Lib.hid hown; clear hown hgrow hat hlt) | (at_builtin; refine wpList_append_lies _ rfl _ _ 22 rfl W14.heap.size 9 i0 (.string ⟨#[]⟩) 1 16 Tryz.underlying22 hi hz0 hz1 hz2 rfl (by decide) _ _ _ rfl Hown15.out adb b.length cb (b.map strV) rfl (by simp) (Hnb.out _ (HW14.out.trans (H15.out.mono HW14.out.size))) (one_cells b) hpb (by unfold maxLen; omega) (by omega) H15.out.size _ rfl ?_; intro gx capx w16 hown hgrow hat hlt; have H16 := Lib.hid (below_more H15.out hgrow (fun k hk => (World.ownsRow.lt Hown15.out k hk).1)); have Hown16 := Lib.hid hown; clear hown hgrow hat hlt))
              have hs16 : OwnS w16 W14.heap.size (.slice (some ⟨gx, 0, none⟩) (1 + a.length + b.length) capx) (wor :: (a ++ b)) := by
                unfold OwnS
                rw [show (wor :: (a ++ b)).length = 1 + a.length + b.length by rw [List.length_cons, List.length_append]; omega, List.map_cons, List.map_append]
                exact Hown16.out
              have E6 := parse_any _ (wor :: (a ++ b)) m w16 hs16.rd (short_cons (by decide) (short_app Hsa.out Hsb.out) (by rw [List.length_append]; omega)) (max_at Hm.out (HW14.out.trans (H16.out.mono HW14.out.size)))
              rw [Hqo.out] at E6
              refine E6.mono ?_
              rintro e w17 ⟨hb17, v6, kvs6, rfl, hK6⟩
              have HK6 := Lib.hid hK6
              obtain ⟨A6, c6, rfl, hc6⟩ := hK6.form
              obtain ⟨n6, hn6⟩ : ∃ n6, kvs6.length = n6 := ⟨_, rfl⟩
              rw [hn6] at hc6 HK6 ⊢
              have ha18 := (Below.refl w17.heap.size w17).alloc (Nat.le_refl _) (.cells #[.slice A6 n6 c6] 29)
              have hb18 := H16.out.trans ((hb17.trans (ha18.mono hb17.size)).mono H16.out.size)
              have P6 := Lib.hid (blk_new w17 (.cells #[.slice A6 n6 c6] 29))
              have P5 := Lib.hid (blk_below B5.out hb18 (blk_lt B5.out))
              have Y18 := Lib.hid (Y14.out.trans (hb18.mono Y14.out.size))
              have HW18 := Lib.hid (HW14.out.trans (hb18.mono HW14.out.size))
              have XN := Lib.hid (holds_at (HK5'.out.below hb18) Hg.out (by simp))
              have XO := Lib.hid (holds_at (HK6.out.below ha18) Hg.out (by simp))
              clear ha18 hb18 hb17 E6 hs16 hK6 HK6 HK5' hn6 Hown16 H16 B5
              go_upto_region 18 with fail
              generalize w17.alloc (.cells #[.slice A6 n6 c6] 29) = W18 at P6 P5 Y18 HW18 XN XO ⊢
              obtain ⟨g6, hg6⟩ : ∃ g6, w17.heap.size = g6 := ⟨_, rfl⟩
              rw [hg6] at P6 ⊢
              clear hg6
              have P1 := Lib.hid (blk_below G1.out Y18.out (blk_lt G1.out))
              have P2 := Lib.hid (blk_below G2.out Y18.out (blk_lt G2.out))
              have HVx := Lib.hid (fun (W' : World) (h : Below W18.heap.size W18 W') => HV.out W' (Y18.out.trans (h.mono Y18.out.size)))
              have Xp := Lib.hid (fun (W' : World) (h : Below W18.heap.size W18 W') => HH1.out W' (Y18.out.trans (h.mono Y18.out.size)))
              have Xq := Lib.hid (fun (W' : World) (h : Below W18.heap.size W18 W') => HH2.out W' (Y18.out.trans (h.mono Y18.out.size)))
              have Xn := Lib.hid (fun (W' : World) (h : Below W18.heap.size W18 W') => XN.out W' h)
              have Xo := Lib.hid (fun (W' : World) (h : Below W18.heap.size W18 W') => XO.out W' h)
              have Xw := Lib.hid (fun (W' : World) (h : Below W18.heap.size W18 W') => awake_any m W' (max_at Hm.out (HW18.out.trans (h.mono HW18.out.size))))
              rw [show allQ [QKey.not ka] v = !s1 by simp [allQ, semQ, He1.out]] at Xn
              rw [show allQ [QKey.or ka kb] v = (s1 || s2) by simp [allQ, semQ, He1.out, He2.out]] at Xo
              obtain ⟨sn, hsn⟩ : ∃ sn, (!s1) = sn := ⟨_, rfl⟩
              obtain ⟨so, hso⟩ : ∃ so, (s1 || s2) = so := ⟨_, rfl⟩
              rw [hsn] at Xn
              rw [hso] at Xo
              have Hsn := Lib.hid hsn
              have Hso := Lib.hid hso
              unfold viewV at Xn Xo
              clear hsn hso XN XO HH1 HH2 HV G1 G2 He1 He2
              cases s1
              · cases s2
                · have e1 : sn = true := by rw [← Hsn.out]; rfl
                  have e2 : so = false := by rw [← Hso.out]; rfl
                  subst e1 e2
                  refine RG.wp_region_det (fun W => Hid (Below W18.heap.size W18 W)) (by kernel_rfl) (by kernel_rfl) (Lib.hid (Below.refl _ _).drew) ?_
                  apply RG.wpDet_cons
                  · intro w9 hw9
                    repeat go_step
                    with_reducible refine RG.only_mk ?_
                    exact hw9
                  · rfl
                  apply RG.wpDet_cons
                  · intro w9 hw9
                    repeat go_step
                    with_reducible refine RG.only_mk ?_
                    exact hw9
                  · rfl
                  apply RG.wpDet_cons
                  · intro w9 hw9
                    repeat go_step
                    with_reducible refine RG.only_mk ?_
                    exact hw9
                  · rfl
                  apply RG.wpDet_cons
                  · intro w9 hw9
                    repeat go_step
                    with_reducible refine RG.only_mk ?_
                    exact hw9
                  · rfl
                  apply RG.wpDet_cons
                  · intro w9 hw9
                    repeat go_step
                    with_reducible refine RG.only_mk ?_
                    exact hw9
                  · rfl
                  apply RG.wpDet_cons
                  · intro w9 hw9
                    repeat go_step
                    with_reducible refine RG.only_mk ?_
                    exact hw9
                  · rfl
                  apply RG.wpDet_cons
                  · intro w9 hw9
                    repeat go_step
                    with_reducible refine RG.only_mk ?_
                    exact hw9
                  · rfl
                  apply RG.wpDet_cons
                  · intro w9 hw9
                    have k1 : w9.cell? ⟨g5, 0, none⟩ = some (.slice A5 n5 c5) := cell_blk (blk_below P5.out hw9.out (blk_lt P5.out)) 0
                    repeat go_step
                    with_reducible refine RG.only_mk ?_
                    exact hw9
                  · rfl
                  apply RG.wpDet_cons
                  · intro w9 hw9
                    obtain ⟨d1, d2, d3, d4, d5, d6, d7⟩ := HVx.out _ hw9.out
                    repeat go_step
                    with_reducible refine RG.only_mk ?_
                    exact hw9
                  · rfl
                  apply RG.wpDet_cons
                  · intro w9 hw9
                    repeat go_step
                    refine (Xn.out w9 hw9.out).mono ?_
                    rintro e w10 ⟨rfl, hb10⟩
                    simp only []
                    repeat go_step
                    with_reducible refine RG.only_mk ?_
                    exact Lib.hid (hw9.out.trans (hb10.mono hw9.out.size))
                  · rfl
                  apply RG.wpDet_cons
                  · intro w9 hw9
                    have k1 : w9.cell? ⟨g1, 0, none⟩ = some (.slice A1 n1 c1) := cell_blk (blk_below P1.out hw9.out (blk_lt P1.out)) 0
                    repeat go_step
                    with_reducible refine RG.only_mk ?_
                    exact hw9
                  · rfl
                  apply RG.wpDet_cons
                  · intro w9 hw9
                    obtain ⟨d1, d2, d3, d4, d5, d6, d7⟩ := HVx.out _ hw9.out
                    repeat go_step
                    with_reducible refine RG.only_mk ?_
                    exact hw9
                  · rfl
                  apply RG.wpDet_cons
                  · intro w9 hw9
                    repeat go_step
                    refine (Xp.out w9 hw9.out).mono ?_
                    rintro e w10 ⟨rfl, hb10⟩
                    simp only []
                    repeat go_step
                    with_reducible refine RG.only_mk ?_
                    exact Lib.hid (hw9.out.trans (hb10.mono hw9.out.size))
                  · rfl
                  apply RG.wpDet_cons
                  · intro w9 hw9
                    repeat go_step
                    with_reducible refine RG.only_mk ?_
                    exact hw9
                  · rfl
                  apply RG.wpDet_cons
                  · intro w9 hw9
                    repeat go_step
                    with_reducible refine RG.only_mk ?_
                    exact hw9
                  · rfl
                  apply RG.wpDet_cons
                  · intro w9 hw9
                    repeat go_step
                    with_reducible refine RG.only_mk ?_
                    exact hw9
                  · rfl
                  apply RG.wpDet_cons
                  · intro w9 hw9
                    repeat go_step
                    with_reducible refine RG.only_mk ?_
                    exact hw9
                  · rfl
                  apply RG.wpDet_cons
                  · intro w9 hw9
                    have k1 : w9.cell? ⟨g6, 0, none⟩ = some (.slice A6 n6 c6) := cell_blk (blk_below P6.out hw9.out (blk_lt P6.out)) 0
                    repeat go_step
                    with_reducible refine RG.only_mk ?_
                    exact hw9
                  · rfl
                  apply RG.wpDet_cons
                  · intro w9 hw9
                    obtain ⟨d1, d2, d3, d4, d5, d6, d7⟩ := HVx.out _ hw9.out
                    repeat go_step
                    with_reducible refine RG.only_mk ?_
                    exact hw9
                  · rfl
                  apply RG.wpDet_cons
                  · intro w9 hw9
                    repeat go_step
                    refine (Xo.out w9 hw9.out).mono ?_
                    rintro e w10 ⟨rfl, hb10⟩
                    simp only []
                    repeat go_step
                    with_reducible refine RG.only_mk ?_
                    exact Lib.hid (hw9.out.trans (hb10.mono hw9.out.size))
                  · rfl
                  apply RG.wpDet_cons
                  · intro w9 hw9
                    have k1 : w9.cell? ⟨g1, 0, none⟩ = some (.slice A1 n1 c1) := cell_blk (blk_below P1.out hw9.out (blk_lt P1.out)) 0
                    repeat go_step
                    with_reducible refine RG.only_mk ?_
                    exact hw9
                  · rfl
                  apply RG.wpDet_cons
                  · intro w9 hw9
                    obtain ⟨d1, d2, d3, d4, d5, d6, d7⟩ := HVx.out _ hw9.out
                    repeat go_step
                    with_reducible refine RG.only_mk ?_
                    exact hw9
                  · rfl
                  apply RG.wpDet_cons
                  · intro w9 hw9
                    repeat go_step
                    refine (Xp.out w9 hw9.out).mono ?_
                    rintro e w10 ⟨rfl, hb10⟩
                    simp only []
                    repeat go_step
                    with_reducible refine RG.only_mk ?_
                    exact Lib.hid (hw9.out.trans (hb10.mono hw9.out.size))
                  · rfl
                  apply RG.wpDet_cons
                  · intro w9 hw9
                    repeat go_step
                    with_reducible refine RG.only_mk ?_
                    exact hw9
                  · rfl
                  apply RG.wpDet_cons
                  · intro w9 hw9
                    have k1 : w9.cell? ⟨g2, 0, none⟩ = some (.slice A2 n2 c2) := cell_blk (blk_below P2.out hw9.out (blk_lt P2.out)) 0
                    repeat go_step
                    with_reducible refine RG.only_mk ?_
                    exact hw9
                  · rfl
                  apply RG.wpDet_cons
                  · intro w9 hw9
                    obtain ⟨d1, d2, d3, d4, d5, d6, d7⟩ := HVx.out _ hw9.out
                    repeat go_step
                    with_reducible refine RG.only_mk ?_
                    exact hw9
                  · rfl
                  apply RG.wpDet_cons
                  · intro w9 hw9
                    repeat go_step
                    refine (Xq.out w9 hw9.out).mono ?_
                    rintro e w10 ⟨rfl, hb10⟩
                    simp only []
                    repeat go_step
                    with_reducible refine RG.only_mk ?_
                    exact Lib.hid (hw9.out.trans (hb10.mono hw9.out.size))
                  · rfl
                  apply RG.wpDet_cons
                  · intro w9 hw9
                    repeat go_step
                    with_reducible refine RG.only_mk ?_
                    exact hw9
                  · rfl
                  apply RG.wpDet_cons
                  · intro w9 hw9
                    repeat go_step
                    with_reducible refine RG.only_mk ?_
                    exact hw9
                  · rfl
                  apply RG.wpDet_cons
                  · intro w9 hw9
                    repeat go_step
                    with_reducible refine RG.only_mk ?_
                    exact hw9
                  · rfl
                  apply RG.wpDet_cons
                  · intro w9 hw9
                    repeat go_step
                    with_reducible refine RG.only_mk ?_
                    exact hw9
                  · rfl
                  apply RG.wpDet_cons
                  · intro w9 hw9
                    repeat go_step
                    refine (Xw.out w9 hw9.out).mono ?_
                    rintro e w10 ⟨rfl, hb10⟩
                    simp only []
                    repeat go_step
                    with_reducible refine RG.only_mk ?_
                    exact Lib.hid (hw9.out.trans (hb10.mono hw9.out.size))
                  · rfl
                  apply RG.wpDet_cons
                  · intro w9 hw9
                    repeat go_step
                    with_reducible refine RG.only_mk ?_
                    exact hw9
                  · rfl
                  apply RG.wpDet_cons
                  · intro w9 hw9
                    repeat go_step
                    with_reducible refine RG.only_mk ?_
                    exact hw9
                  · rfl
                  refine RG.wpDet_nil (fun w9 hw9 => ?_)
                  have HB9 := Lib.hid (HW18.out.trans (hw9.out.mono HW18.out.size))
                  clear hw9
                  go_wp2
                  go_ret
                  exact ⟨rfl, HB9.out⟩
                · have e1 : sn = true := by rw [← Hsn.out]; rfl
                  have e2 : so = true := by rw [← Hso.out]; rfl
                  subst e1 e2
                  refine RG.wp_region_det (fun W => Hid (Below W18.heap.size W18 W)) (by kernel_rfl) (by kernel_rfl) (Lib.hid (Below.refl _ _).drew) ?_
                  apply RG.wpDet_cons
                  · intro w9 hw9
                    repeat go_step
                    with_reducible refine RG.only_mk ?_
                    exact hw9
                  · rfl
                  apply RG.wpDet_cons
                  · intro w9 hw9
                    repeat go_step
                    with_reducible refine RG.only_mk ?_
                    exact hw9
                  · rfl
                  apply RG.wpDet_cons
                  · intro w9 hw9
                    repeat go_step
                    with_reducible refine RG.only_mk ?_
                    exact hw9
                  · rfl
                  apply RG.wpDet_cons
                  · intro w9 hw9
                    repeat go_step
                    with_reducible refine RG.only_mk ?_
                    exact hw9
                  · rfl
                  apply RG.wpDet_cons
                  · intro w9 hw9
                    repeat go_step
                    with_reducible refine RG.only_mk ?_
                    exact hw9
                  · rfl
                  apply RG.wpDet_cons
                  · intro w9 hw9
                    repeat go_step
                    with_reducible refine RG.only_mk ?_
                    exact hw9
                  · rfl
                  apply RG.wpDet_cons
                  · intro w9 hw9
                    repeat go_step
                    with_reducible refine RG.only_mk ?_
                    exact hw9
                  · rfl
                  apply RG.wpDet_cons
                  · intro w9 hw9
                    have k1 : w9.cell? ⟨g5, 0, none⟩ = some (.slice A5 n5 c5) := cell_blk (blk_below P5.out hw9.out (blk_lt P5.out)) 0
                    repeat go_step
                    with_reducible refine RG.only_mk ?_
                    exact hw9
                  · rfl
                  apply RG.wpDet_cons
                  · intro w9 hw9
                    obtain ⟨d1, d2, d3, d4, d5, d6, d7⟩ := HVx.out _ hw9.out
                    repeat go_step
                    with_reducible refine RG.only_mk ?_
                    exact hw9
                  · rfl
                  apply RG.wpDet_cons
                  · intro w9 hw9
                    repeat go_step
                    refine (Xn.out w9 hw9.out).mono ?_
                    rintro e w10 ⟨rfl, hb10⟩
                    simp only []
                    repeat go_step
                    with_reducible refine RG.only_mk ?_
                    exact Lib.hid (hw9.out.trans (hb10.mono hw9.out.size))
                  · rfl
                  apply RG.wpDet_cons
                  · intro w9 hw9
                    have k1 : w9.cell? ⟨g1, 0, none⟩ = some (.slice A1 n1 c1) := cell_blk (blk_below P1.out hw9.out (blk_lt P1.out)) 0
                    repeat go_step
                    with_reducible refine RG.only_mk ?_
                    exact hw9
                  · rfl
                  apply RG.wpDet_cons
                  · intro w9 hw9
                    obtain ⟨d1, d2, d3, d4, d5, d6, d7⟩ := HVx.out _ hw9.out
                    repeat go_step
                    with_reducible refine RG.only_mk ?_
                    exact hw9
                  · rfl
                  apply RG.wpDet_cons
                  · intro w9 hw9
                    repeat go_step
                    refine (Xp.out w9 hw9.out).mono ?_
                    rintro e w10 ⟨rfl, hb10⟩
                    simp only []
                    repeat go_step
                    with_reducible refine RG.only_mk ?_
                    exact Lib.hid (hw9.out.trans (hb10.mono hw9.out.size))
                  · rfl
                  apply RG.wpDet_cons
                  · intro w9 hw9
                    repeat go_step
                    with_reducible refine RG.only_mk ?_
                    exact hw9
                  · rfl
                  apply RG.wpDet_cons
                  · intro w9 hw9
                    repeat go_step
                    with_reducible refine RG.only_mk ?_
                    exact hw9
                  · rfl
                  apply RG.wpDet_cons
                  · intro w9 hw9
                    repeat go_step
                    with_reducible refine RG.only_mk ?_
                    exact hw9
                  · rfl
                  apply RG.wpDet_cons
                  · intro w9 hw9
                    repeat go_step
                    with_reducible refine RG.only_mk ?_
                    exact hw9
                  · rfl
                  apply RG.wpDet_cons
                  · intro w9 hw9
                    have k1 : w9.cell? ⟨g6, 0, none⟩ = some (.slice A6 n6 c6) := cell_blk (blk_below P6.out hw9.out (blk_lt P6.out)) 0
                    repeat go_step
                    with_reducible refine RG.only_mk ?_
                    exact hw9
                  · rfl
                  apply RG.wpDet_cons
                  · intro w9 hw9
                    obtain ⟨d1, d2, d3, d4, d5, d6, d7⟩ := HVx.out _ hw9.out
                    repeat go_step
                    with_reducible refine RG.only_mk ?_
                    exact hw9
                  · rfl
                  apply RG.wpDet_cons
                  · intro w9 hw9
                    repeat go_step
                    refine (Xo.out w9 hw9.out).mono ?_
                    rintro e w10 ⟨rfl, hb10⟩
                    simp only []
                    repeat go_step
                    with_reducible refine RG.only_mk ?_
                    exact Lib.hid (hw9.out.trans (hb10.mono hw9.out.size))
                  · rfl
                  apply RG.wpDet_cons
                  · intro w9 hw9
                    have k1 : w9.cell? ⟨g1, 0, none⟩ = some (.slice A1 n1 c1) := cell_blk (blk_below P1.out hw9.out (blk_lt P1.out)) 0
                    repeat go_step
                    with_reducible refine RG.only_mk ?_
                    exact hw9
                  · rfl
                  apply RG.wpDet_cons
                  · intro w9 hw9
                    obtain ⟨d1, d2, d3, d4, d5, d6, d7⟩ := HVx.out _ hw9.out
                    repeat go_step
                    with_reducible refine RG.only_mk ?_
                    exact hw9
                  · rfl
                  apply RG.wpDet_cons
                  · intro w9 hw9
                    repeat go_step
                    refine (Xp.out w9 hw9.out).mono ?_
                    rintro e w10 ⟨rfl, hb10⟩
                    simp only []
                    repeat go_step
                    with_reducible refine RG.only_mk ?_
                    exact Lib.hid (hw9.out.trans (hb10.mono hw9.out.size))
                  · rfl
                  apply RG.wpDet_cons
                  · intro w9 hw9
                    repeat go_step
                    with_reducible refine RG.only_mk ?_
                    exact hw9
                  · rfl
                  apply RG.wpDet_cons
                  · intro w9 hw9
                    have k1 : w9.cell? ⟨g2, 0, none⟩ = some (.slice A2 n2 c2) := cell_blk (blk_below P2.out hw9.out (blk_lt P2.out)) 0
                    repeat go_step
                    with_reducible refine RG.only_mk ?_
                    exact hw9
                  · rfl
                  apply RG.wpDet_cons
                  · intro w9 hw9
                    obtain ⟨d1, d2, d3, d4, d5, d6, d7⟩ := HVx.out _ hw9.out
                    repeat go_step
                    with_reducible refine RG.only_mk ?_
                    exact hw9
                  · rfl
                  apply RG.wpDet_cons
                  · intro w9 hw9
                    repeat go_step
                    refine (Xq.out w9 hw9.out).mono ?_
                    rintro e w10 ⟨rfl, hb10⟩
                    simp only []
                    repeat go_step
                    with_reducible refine RG.only_mk ?_
                    exact Lib.hid (hw9.out.trans (hb10.mono hw9.out.size))
                  · rfl
                  apply RG.wpDet_cons
                  · intro w9 hw9
                    repeat go_step
                    with_reducible refine RG.only_mk ?_
                    exact hw9
                  · rfl
                  apply RG.wpDet_cons
                  · intro w9 hw9
                    repeat go_step
                    with_reducible refine RG.only_mk ?_
                    exact hw9
                  · rfl
                  apply RG.wpDet_cons
                  · intro w9 hw9
                    repeat go_step
                    with_reducible refine RG.only_mk ?_
                    exact hw9
                  · rfl
                  apply RG.wpDet_cons
                  · intro w9 hw9
                    repeat go_step
                    with_reducible refine RG.only_mk ?_
                    exact hw9
                  · rfl
                  apply RG.wpDet_cons
                  · intro w9 hw9
                    repeat go_step
                    refine (Xw.out w9 hw9.out).mono ?_
                    rintro e w10 ⟨rfl, hb10⟩
                    simp only []
                    repeat go_step
                    with_reducible refine RG.only_mk ?_
                    exact Lib.hid (hw9.out.trans (hb10.mono hw9.out.size))
                  · rfl
                  apply RG.wpDet_cons
                  · intro w9 hw9
                    repeat go_step
                    with_reducible refine RG.only_mk ?_
                    exact hw9
                  · rfl
                  apply RG.wpDet_cons
                  · intro w9 hw9
                    repeat go_step
                    with_reducible refine RG.only_mk ?_
                    exact hw9
                  · rfl
                  refine RG.wpDet_nil (fun w9 hw9 => ?_)
                  have HB9 := Lib.hid (HW18.out.trans (hw9.out.mono HW18.out.size))
                  clear hw9
                  go_wp2
                  go_ret
                  exact ⟨rfl, HB9.out⟩
              · cases s2
                · have e1 : sn = false := by rw [← Hsn.out]; rfl
                  have e2 : so = true := by rw [← Hso.out]; rfl
                  subst e1 e2
                  refine RG.wp_region_det (fun W => Hid (Below W18.heap.size W18 W)) (by kernel_rfl) (by kernel_rfl) (Lib.hid (Below.refl _ _).drew) ?_
                  apply RG.wpDet_cons
                  · intro w9 hw9
                    repeat go_step
                    with_reducible refine RG.only_mk ?_
                    exact hw9
                  · rfl
                  apply RG.wpDet_cons
                  · intro w9 hw9
                    repeat go_step
                    with_reducible refine RG.only_mk ?_
                    exact hw9
                  · rfl
                  apply RG.wpDet_cons
                  · intro w9 hw9
                    repeat go_step
                    with_reducible refine RG.only_mk ?_
                    exact hw9
                  · rfl
                  apply RG.wpDet_cons
                  · intro w9 hw9
                    repeat go_step
                    with_reducible refine RG.only_mk ?_
                    exact hw9
                  · rfl
                  apply RG.wpDet_cons
                  · intro w9 hw9
                    repeat go_step
                    with_reducible refine RG.only_mk ?_
                    exact hw9
                  · rfl
                  apply RG.wpDet_cons
                  · intro w9 hw9
                    repeat go_step
                    with_reducible refine RG.only_mk ?_
                    exact hw9
                  · rfl
                  apply RG.wpDet_cons
                  · intro w9 hw9
                    repeat go_step
                    with_reducible refine RG.only_mk ?_
                    exact hw9
                  · rfl
                  apply RG.wpDet_cons
                  · intro w9 hw9
                    have k1 : w9.cell? ⟨g5, 0, none⟩ = some (.slice A5 n5 c5) := cell_blk (blk_below P5.out hw9.out (blk_lt P5.out)) 0
                    repeat go_step
                    with_reducible refine RG.only_mk ?_
                    exact hw9
                  · rfl
                  apply RG.wpDet_cons
                  · intro w9 hw9
                    obtain ⟨d1, d2, d3, d4, d5, d6, d7⟩ := HVx.out _ hw9.out
                    repeat go_step
                    with_reducible refine RG.only_mk ?_
                    exact hw9
                  · rfl
                  apply RG.wpDet_cons
                  · intro w9 hw9
                    repeat go_step
                    refine (Xn.out w9 hw9.out).mono ?_
                    rintro e w10 ⟨rfl, hb10⟩
                    simp only []
                    repeat go_step
                    with_reducible refine RG.only_mk ?_
                    exact Lib.hid (hw9.out.trans (hb10.mono hw9.out.size))
                  · rfl
                  apply RG.wpDet_cons
                  · intro w9 hw9
                    have k1 : w9.cell? ⟨g1, 0, none⟩ = some (.slice A1 n1 c1) := cell_blk (blk_below P1.out hw9.out (blk_lt P1.out)) 0
                    repeat go_step
                    with_reducible refine RG.only_mk ?_
                    exact hw9
                  · rfl
                  apply RG.wpDet_cons
                  · intro w9 hw9
                    obtain ⟨d1, d2, d3, d4, d5, d6, d7⟩ := HVx.out _ hw9.out
                    repeat go_step
                    with_reducible refine RG.only_mk ?_
                    exact hw9
                  · rfl
                  apply RG.wpDet_cons
                  · intro w9 hw9
                    repeat go_step
                    refine (Xp.out w9 hw9.out).mono ?_
                    rintro e w10 ⟨rfl, hb10⟩
                    simp only []
                    repeat go_step
                    with_reducible refine RG.only_mk ?_
                    exact Lib.hid (hw9.out.trans (hb10.mono hw9.out.size))
                  · rfl
                  apply RG.wpDet_cons
                  · intro w9 hw9
                    repeat go_step
                    with_reducible refine RG.only_mk ?_
                    exact hw9
                  · rfl
                  apply RG.wpDet_cons
                  · intro w9 hw9
                    repeat go_step
                    with_reducible refine RG.only_mk ?_
                    exact hw9
                  · rfl
                  apply RG.wpDet_cons
                  · intro w9 hw9
                    repeat go_step
                    with_reducible refine RG.only_mk ?_
                    exact hw9
                  · rfl
                  apply RG.wpDet_cons
                  · intro w9 hw9
                    repeat go_step
                    with_reducible refine RG.only_mk ?_
                    exact hw9
                  · rfl
                  apply RG.wpDet_cons
                  · intro w9 hw9
                    have k1 : w9.cell? ⟨g6, 0, none⟩ = some (.slice A6 n6 c6) := cell_blk (blk_below P6.out hw9.out (blk_lt P6.out)) 0
                    repeat go_step
                    with_reducible refine RG.only_mk ?_
                    exact hw9
                  · rfl
                  apply RG.wpDet_cons
                  · intro w9 hw9
                    obtain ⟨d1, d2, d3, d4, d5, d6, d7⟩ := HVx.out _ hw9.out
                    repeat go_step
                    with_reducible refine RG.only_mk ?_
                    exact hw9
                  · rfl
                  apply RG.wpDet_cons
                  · intro w9 hw9
                    repeat go_step
                    refine (Xo.out w9 hw9.out).mono ?_
                    rintro e w10 ⟨rfl, hb10⟩
                    simp only []
                    repeat go_step
                    with_reducible refine RG.only_mk ?_
                    exact Lib.hid (hw9.out.trans (hb10.mono hw9.out.size))
                  · rfl
                  apply RG.wpDet_cons
                  · intro w9 hw9
                    have k1 : w9.cell? ⟨g1, 0, none⟩ = some (.slice A1 n1 c1) := cell_blk (blk_below P1.out hw9.out (blk_lt P1.out)) 0
                    repeat go_step
                    with_reducible refine RG.only_mk ?_
                    exact hw9
                  · rfl
                  apply RG.wpDet_cons
                  · intro w9 hw9
                    obtain ⟨d1, d2, d3, d4, d5, d6, d7⟩ := HVx.out _ hw9.out
                    repeat go_step
                    with_reducible refine RG.only_mk ?_
                    exact hw9
                  · rfl
                  apply RG.wpDet_cons
                  · intro w9 hw9
                    repeat go_step
                    refine (Xp.out w9 hw9.out).mono ?_
                    rintro e w10 ⟨rfl, hb10⟩
                    simp only []
                    repeat go_step
                    with_reducible refine RG.only_mk ?_
                    exact Lib.hid (hw9.out.trans (hb10.mono hw9.out.size))
                  · rfl
                  apply RG.wpDet_cons
                  · intro w9 hw9
                    repeat go_step
                    with_reducible refine RG.only_mk ?_
                    exact hw9
                  · rfl
                  apply RG.wpDet_cons
                  · intro w9 hw9
                    repeat go_step
                    with_reducible refine RG.only_mk ?_
                    exact hw9
                  · rfl
                  apply RG.wpDet_cons
                  · intro w9 hw9
                    repeat go_step
                    with_reducible refine RG.only_mk ?_
                    exact hw9
                  · rfl
                  apply RG.wpDet_cons
                  · intro w9 hw9
                    repeat go_step
                    with_reducible refine RG.only_mk ?_
                    exact hw9
                  · rfl
                  apply RG.wpDet_cons
                  · intro w9 hw9
                    repeat go_step
                    with_reducible refine RG.only_mk ?_
                    exact hw9
                  · rfl
                  apply RG.wpDet_cons
                  · intro w9 hw9
                    repeat go_step
                    with_reducible refine RG.only_mk ?_
                    exact hw9
                  · rfl
                  apply RG.wpDet_cons
                  · intro w9 hw9
                    repeat go_step
                    with_reducible refine RG.only_mk ?_
                    exact hw9
                  · rfl
                  apply RG.wpDet_cons
                  · intro w9 hw9
                    repeat go_step
                    with_reducible refine RG.only_mk ?_
                    exact hw9
                  · rfl
                  apply RG.wpDet_cons
                  · intro w9 hw9
                    repeat go_step
                    refine (Xw.out w9 hw9.out).mono ?_
                    rintro e w10 ⟨rfl, hb10⟩
                    simp only []
                    repeat go_step
                    with_reducible refine RG.only_mk ?_
                    exact Lib.hid (hw9.out.trans (hb10.mono hw9.out.size))
                  · rfl
                  apply RG.wpDet_cons
                  · intro w9 hw9
                    repeat go_step
                    with_reducible refine RG.only_mk ?_
                    exact hw9
                  · rfl
                  apply RG.wpDet_cons
                  · intro w9 hw9
                    repeat go_step
                    with_reducible refine RG.only_mk ?_
                    exact hw9
                  · rfl
                  refine RG.wpDet_nil (fun w9 hw9 => ?_)
                  have HB9 := Lib.hid (HW18.out.trans (hw9.out.mono HW18.out.size))
                  clear hw9
                  go_wp2
                  go_ret
                  exact ⟨rfl, HB9.out⟩
                · have e1 : sn = false := by rw [← Hsn.out]; rfl
                  have e2 : so = true := by rw [← Hso.out]; rfl
                  subst e1 e2
                  refine RG.wp_region_det (fun W => Hid (Below W18.heap.size W18 W)) (by kernel_rfl) (by kernel_rfl) (Lib.hid (Below.refl _ _).drew) ?_
                  apply RG.wpDet_cons
                  · intro w9 hw9
                    repeat go_step
                    with_reducible refine RG.only_mk ?_
                    exact hw9
                  · rfl
                  apply RG.wpDet_cons
                  · intro w9 hw9
                    repeat go_step
                    with_reducible refine RG.only_mk ?_
                    exact hw9
                  · rfl
                  apply RG.wpDet_cons
                  · intro w9 hw9
                    repeat go_step
                    with_reducible refine RG.only_mk ?_
                    exact hw9
                  · rfl
                  apply RG.wpDet_cons
                  · intro w9 hw9
                    repeat go_step
                    with_reducible refine RG.only_mk ?_
                    exact hw9
                  · rfl
                  apply RG.wpDet_cons
                  · intro w9 hw9
                    repeat go_step
                    with_reducible refine RG.only_mk ?_
                    exact hw9
                  · rfl
                  apply RG.wpDet_cons
                  · intro w9 hw9
                    repeat go_step
                    with_reducible refine RG.only_mk ?_
                    exact hw9
                  · rfl
                  apply RG.wpDet_cons
                  · intro w9 hw9
                    repeat go_step
                    with_reducible refine RG.only_mk ?_
                    exact hw9
                  · rfl
                  apply RG.wpDet_cons
                  · intro w9 hw9
                    have k1 : w9.cell? ⟨g5, 0, none⟩ = some (.slice A5 n5 c5) := cell_blk (blk_below P5.out hw9.out (blk_lt P5.out)) 0
                    repeat go_step
                    with_reducible refine RG.only_mk ?_
                    exact hw9
                  · rfl
                  apply RG.wpDet_cons
                  · intro w9 hw9
                    obtain ⟨d1, d2, d3, d4, d5, d6, d7⟩ := HVx.out _ hw9.out
                    repeat go_step
                    with_reducible refine RG.only_mk ?_
                    exact hw9
                  · rfl
                  apply RG.wpDet_cons
                  · intro w9 hw9
                    repeat go_step
                    refine (Xn.out w9 hw9.out).mono ?_
                    rintro e w10 ⟨rfl, hb10⟩
                    simp only []
                    repeat go_step
                    with_reducible refine RG.only_mk ?_
                    exact Lib.hid (hw9.out.trans (hb10.mono hw9.out.size))
                  · rfl
                  apply RG.wpDet_cons
                  · intro w9 hw9
                    have k1 : w9.cell? ⟨g1, 0, none⟩ = some (.slice A1 n1 c1) := cell_blk (blk_below P1.out hw9.out (blk_lt P1.out)) 0
                    repeat go_step
                    with_reducible refine RG.only_mk ?_
                    exact hw9
                  · rfl
                  apply RG.wpDet_cons
                  · intro w9 hw9
                    obtain ⟨d1, d2, d3, d4, d5, d6, d7⟩ := HVx.out _ hw9.out
                    repeat go_step
                    with_reducible refine RG.only_mk ?_
                    exact hw9
                  · rfl
                  apply RG.wpDet_cons
                  · intro w9 hw9
                    repeat go_step
                    refine (Xp.out w9 hw9.out).mono ?_
                    rintro e w10 ⟨rfl, hb10⟩
                    simp only []
                    repeat go_step
                    with_reducible refine RG.only_mk ?_
                    exact Lib.hid (hw9.out.trans (hb10.mono hw9.out.size))
                  · rfl
                  apply RG.wpDet_cons
                  · intro w9 hw9
                    repeat go_step
                    with_reducible refine RG.only_mk ?_
                    exact hw9
                  · rfl
                  apply RG.wpDet_cons
                  · intro w9 hw9
                    repeat go_step
                    with_reducible refine RG.only_mk ?_
                    exact hw9
                  · rfl
                  apply RG.wpDet_cons
                  · intro w9 hw9
                    repeat go_step
                    with_reducible refine RG.only_mk ?_
                    exact hw9
                  · rfl
                  apply RG.wpDet_cons
                  · intro w9 hw9
                    repeat go_step
                    with_reducible refine RG.only_mk ?_
                    exact hw9
                  · rfl
                  apply RG.wpDet_cons
                  · intro w9 hw9
                    have k1 : w9.cell? ⟨g6, 0, none⟩ = some (.slice A6 n6 c6) := cell_blk (blk_below P6.out hw9.out (blk_lt P6.out)) 0
                    repeat go_step
                    with_reducible refine RG.only_mk ?_
                    exact hw9
                  · rfl
                  apply RG.wpDet_cons
                  · intro w9 hw9
                    obtain ⟨d1, d2, d3, d4, d5, d6, d7⟩ := HVx.out _ hw9.out
                    repeat go_step
                    with_reducible refine RG.only_mk ?_
                    exact hw9
                  · rfl
                  apply RG.wpDet_cons
                  · intro w9 hw9
                    repeat go_step
                    refine (Xo.out w9 hw9.out).mono ?_
                    rintro e w10 ⟨rfl, hb10⟩
                    simp only []
                    repeat go_step
                    with_reducible refine RG.only_mk ?_
                    exact Lib.hid (hw9.out.trans (hb10.mono hw9.out.size))
                  · rfl
                  apply RG.wpDet_cons
                  · intro w9 hw9
                    have k1 : w9.cell? ⟨g1, 0, none⟩ = some (.slice A1 n1 c1) := cell_blk (blk_below P1.out hw9.out (blk_lt P1.out)) 0
                    repeat go_step
                    with_reducible refine RG.only_mk ?_
                    exact hw9
                  · rfl
                  apply RG.wpDet_cons
                  · intro w9 hw9
                    obtain ⟨d1, d2, d3, d4, d5, d6, d7⟩ := HVx.out _ hw9.out
                    repeat go_step
                    with_reducible refine RG.only_mk ?_
                    exact hw9
                  · rfl
                  apply RG.wpDet_cons
                  · intro w9 hw9
                    repeat go_step
                    refine (Xp.out w9 hw9.out).mono ?_
                    rintro e w10 ⟨rfl, hb10⟩
                    simp only []
                    repeat go_step
                    with_reducible refine RG.only_mk ?_
                    exact Lib.hid (hw9.out.trans (hb10.mono hw9.out.size))
                  · rfl
                  apply RG.wpDet_cons
                  · intro w9 hw9
                    repeat go_step
                    with_reducible refine RG.only_mk ?_
                    exact hw9
                  · rfl
                  apply RG.wpDet_cons
                  · intro w9 hw9
                    repeat go_step
                    with_reducible refine RG.only_mk ?_
                    exact hw9
                  · rfl
                  apply RG.wpDet_cons
                  · intro w9 hw9
                    repeat go_step
                    with_reducible refine RG.only_mk ?_
                    exact hw9
                  · rfl
                  apply RG.wpDet_cons
                  · intro w9 hw9
                    repeat go_step
                    with_reducible refine RG.only_mk ?_
                    exact hw9
                  · rfl
                  apply RG.wpDet_cons
                  · intro w9 hw9
                    repeat go_step
                    with_reducible refine RG.only_mk ?_
                    exact hw9
                  · rfl
                  apply RG.wpDet_cons
                  · intro w9 hw9
                    repeat go_step
                    with_reducible refine RG.only_mk ?_
                    exact hw9
                  · rfl
                  apply RG.wpDet_cons
                  · intro w9 hw9
                    repeat go_step
                    with_reducible refine RG.only_mk ?_
                    exact hw9
                  · rfl
                  apply RG.wpDet_cons
                  · intro w9 hw9
                    repeat go_step
                    with_reducible refine RG.only_mk ?_
                    exact hw9
                  · rfl
                  apply RG.wpDet_cons
                  · intro w9 hw9
                    repeat go_step
                    refine (Xw.out w9 hw9.out).mono ?_
                    rintro e w10 ⟨rfl, hb10⟩
                    simp only []
                    repeat go_step
                    with_reducible refine RG.only_mk ?_
                    exact Lib.hid (hw9.out.trans (hb10.mono hw9.out.size))
                  · rfl
                  apply RG.wpDet_cons
                  · intro w9 hw9
                    repeat go_step
                    with_reducible refine RG.only_mk ?_
                    exact hw9
                  · rfl
                  apply RG.wpDet_cons
                  · intro w9 hw9
                    repeat go_step
                    with_reducible refine RG.only_mk ?_
                    exact hw9
                  · rfl
                  refine RG.wpDet_nil (fun w9 hw9 => ?_)
                  have HB9 := Lib.hid (HW18.out.trans (hw9.out.mono HW18.out.size))
                  clear hw9
                  go_wp2
                  go_ret
                  exact ⟨rfl, HB9.out⟩
            · have q1 : (x1 == (a.length : Int)) = false := by simpa using c1
              have q1' : (x1 != (a.length : Int)) = true := by simpa using c1
              go_wp2_with fail
              refine (awake_at Hm.out HW4.out).mono ?_
              rintro e w3 ⟨rfl, hb3⟩
              go_wp2
              go_ret
              exact ⟨rfl, hb3⟩
            · subst c1
              have q2 : (x2 == (b.length : Int)) = false := by simpa using c2
              have q2' : (x2 != (b.length : Int)) = true := by simpa using c2
              go_wp2_with fail
              refine (awake_at Hm.out HW4.out).mono ?_
              rintro e w3 ⟨rfl, hb3⟩
              go_wp2
              go_ret
              exact ⟨rfl, hb3⟩
            · subst c1
              subst c2
              go_wp2_with fail
              refine (awake_at Hm.out HW4.out).mono ?_
              rintro e w3 ⟨rfl, hb3⟩
              go_wp2
              go_ret
              exact ⟨rfl, hb3⟩
            · subst c1
              subst c2
              go_wp2_with fail
              refine (awake_at Hm.out HW4.out).mono ?_
              rintro e w3 ⟨rfl, hb3⟩
              go_wp2
              go_ret
              exact ⟨rfl, hb3⟩
end Go.Proofs.YtkgngahmpafdhaaGreatDoor.QN

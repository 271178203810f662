/- Where the document's Key of layer 20 ends: a level more. Conditions: lengths. -/
import Derived.Test.YtkgngahmpafdhaaGreatDoorQNKey
import Derived.Deep.RegionHeld3
import Derived.Deep.DeepCutAuto
namespace Go.Proofs.YtkgngahmpafdhaaGreatDoor.QN
open Go.RowKit Mailsack MM PT QU SP

theorem numQ_cases (t : Bs) : ∃ kv : Int, (numQ t).getD (-1) = kv ∧ ((0 ≤ kv ∧ numQ t = some kv) ∨ (kv = -1 ∧ numQ t = none)) := by
  cases h : numQ t with
  | none => exact ⟨-1, rfl, .inr ⟨rfl, rfl⟩⟩
  | some k =>
    refine ⟨k, rfl, .inl ⟨?_, rfl⟩⟩
    unfold numQ at h
    split at h
    · cases h
    · rename_i hn
      injection h with h
      rw [← h]
      refine (numP_bound ?_).1
      have : t.all isDig = true := by
        cases e : t.all isDig with
        | true => rfl
        | false => exact absurd (.inr (.inr (.inr e))) hn
      exact List.all_eq_true.1 this
theorem fd_short : ∀ x ∈ fdW, x.length ≤ 10 := by decide
theorem vr_cells {w : World} {b : Nat} {v : QV} (h : w.heap[b]? = some (viewR v)) : w.cell? ⟨b, 0, none⟩ = some (.int .i64 v.seq) ∧ w.cell? ⟨b, 1, none⟩ = some (.int .i64 v.uid) ∧ w.cell? ⟨b, 2, none⟩ = some (.int .i64 v.flags) ∧ w.cell? ⟨b, 3, none⟩ = some (.int .i64 v.size) ∧
    w.cell? ⟨b, 4, none⟩ = some (strV v.text) ∧ w.cell? ⟨b, 5, none⟩ = some (.int .i64 v.seqs) ∧ w.cell? ⟨b, 6, none⟩ = some (.int .i64 v.uids) :=
  ⟨cell_blk h 0, cell_blk h 1, cell_blk h 2, cell_blk h 3, cell_blk h 4, cell_blk h 5, cell_blk h 6⟩
set_option maxHeartbeats 16000000 in
set_option maxRecDepth 100000 in
theorem rkey_succ (n : Nat) (IH : KeyR n) : KeyR (n + 1) := by
  intro W sv L p lv v hlv hv hs hp hg
  have HB1 := Lib.hid ((Below.refl W.heap.size W).alloc (Nat.le_refl _) (viewR v))
  have HV1 := Lib.hid (blk_new W (viewR v))
  have Hrd := Lib.hid hv
  have Hs := Lib.hid hs
  have Hg := Lib.hid hg
  have hL := hs.1
  obtain ⟨A, c, rfl, hc, _⟩ := hv
  obtain ⟨N, hN⟩ : ∃ N, L.length = N := ⟨_, rfl⟩
  have HN := Lib.hid hN
  rw [hN] at hL hc hp Hrd ⊢
  have hlv16 : lv ≤ 16 := by omega
  clear hN hs hg
  by_cases hpl : p < N
  · obtain ⟨s, hsp⟩ : ∃ s, L[p]? = some s := ⟨_, List.getElem?_eq_getElem (by rw [HN.out]; exact hpl)⟩
    have hsl := Hs.out.2 s (List.mem_of_getElem? hsp)
    obtain ⟨A', c', e9, _, hcx⟩ := Hrd.out
    obtain ⟨b1, o1, rfl, hbb, hcell⟩ := hcx (by rw [HN.out]; omega)
    injection e9 with e9 e9b e9c
    subst e9
    clear e9b e9c
    have HC : Hid (∀ W', Below W.heap.size W W' → ∀ (j : Nat) y, L[j]? = some y → W'.cell? ⟨b1, o1 + j, none⟩ = some (strV y)) := Lib.hid fun W' h j y hy => (h.cell (p := ⟨b1, o1 + j, none⟩) hbb).trans (hcell j y hy)
    have HVC : Hid (∀ W', Below (W.alloc (viewR v)).heap.size (W.alloc (viewR v)) W' → W'.heap[W.heap.size]? = some (viewR v)) := Lib.hid fun W' h => blk_below HV1.out h (blk_lt HV1.out)
    have q0 := HC.out _ HB1.out p s hsp
    have hS : (⟨s.toArray⟩ : ByteArray).size = s.length := rfl
    have HSame := Lib.hid (fun (w : ByteArray) (W' : World) (h : w.size ≤ 9223372036854775807) => rsame_any ⟨s.toArray⟩ w W' (by omega) h)
    have HFlag := Lib.hid (fun (W' : World) => rflag_any ⟨s.toArray⟩ W' (by omega))
    have HParse := Lib.hid (fun (W' : World) => refParse_any ⟨s.toArray⟩ W' (by omega))
    obtain ⟨u, hu⟩ : ∃ u, upP s = u := ⟨_, rfl⟩
    have Hu := Lib.hid hu
    have Hsp := Lib.hid hsp
    simp only [hu] at HSame HFlag
    clear hcx hcell hbb hsp hu
    unfold viewV
    go_enter Tryz.func8, Tryz.ntmps8
    go_wp2_with fail
    refine (HFlag.out _).mono ?_
    rintro e w2 ⟨⟨nn, bb, rfl, hn0, hn32, hfl⟩, hb2⟩
    have Hb2 := Lib.hid hb2
    have HB2 := Lib.hid (HB1.out.trans (hb2.mono HB1.out.size))
    have hv2 := HVC.out _ hb2
    clear hb2 HFlag q0
    by_cases hnn : 0 < nn
    · obtain ⟨t, m, hk⟩ := k_flag (hfl.1 hnn)
      have Hp := Lib.hid (pos_flags (n := n) Hsp.out (by rw [Hu.out]; exact hk))
      have k2 : w2.cell? ⟨W.heap.size, 2, none⟩ = some (.int .i64 v.flags) := cell_blk hv2 2
      have hf0 := Hg.out.fl0
      have hf1 := Hg.out.fl1
      clear hv2 hk hfl
      go_wp2
      go_ret2
      rw [Hp.out]
      exact ⟨⟨_, rfl⟩, HB2.out⟩
    · have hnn0 : nn = 0 := by omega
      have F0 := Lib.hid (show flagP u = false by cases hfp : flagP u with
        | false => rfl
        | true => exact absurd (hfl.2 hfp) hnn)
      subst hnn0
      clear hnn hfl hn0 hn32
      rw [show (p : Int) + 1 = ((p + 1 : Nat) : Int) by omega]
      obtain ⟨p1, hp1⟩ : ∃ p1, p + 1 = p1 := ⟨_, rfl⟩
      have hp1N : p1 ≤ N := by omega
      have Hp1 := Lib.hid hp1
      rw [hp1]
      clear hp1
      go_wp2_with fail
      refine (HSame.out _ _ (by decide)).mono ?_
      rintro e wq ⟨rfl, rfl⟩
      cases hq : decide (u = ([65, 76, 76] : Bs)) with
      | true =>
        have Hp := Lib.hid (pos_flags (n := n) Hsp.out (by rw [Hu.out, of_decide_eq_true hq]; exact k_all))
        clear hq hv2
        go_wp2
        go_ret2
        rw [Hp.out]
        exact ⟨⟨_, by have := Hp1.out; subst this; rfl⟩, HB2.out⟩
      | false =>
        have F1 := Lib.hid (of_decide_eq_false hq)
        clear hq
        go_wp2_with fail
        refine (HSame.out _ _ (by decide)).mono ?_
        rintro e wq ⟨rfl, rfl⟩
        cases hq : decide (u = ([78, 69, 87] : Bs)) with
        | true =>
          have Hp := Lib.hid (pos_flags (n := n) Hsp.out (by rw [Hu.out, of_decide_eq_true hq]; exact k_new))
          have k2 : w2.cell? ⟨W.heap.size, 2, none⟩ = some (.int .i64 v.flags) := cell_blk hv2 2
          have hf0 := Hg.out.fl0
          have hf1 := Hg.out.fl1
          clear hq hv2
          go_wp2
          all_goals
            go_ret2
            rw [Hp.out]
            exact ⟨⟨_, by have := Hp1.out; subst this; rfl⟩, HB2.out⟩
        | false =>
          have F2 := Lib.hid (of_decide_eq_false hq)
          clear hq
          go_wp2_with fail
          refine (HSame.out _ _ (by decide)).mono ?_
          rintro e wq ⟨rfl, rfl⟩
          cases hq : decide (u = ([78, 79, 84] : Bs)) with
          | true =>
            have Hp := Lib.hid (pos_not (n := n) Hsp.out (by rw [Hu.out, of_decide_eq_true hq]; exact k_not))
            obtain ⟨d0, d1, d2, d3, d4, d5, d6⟩ := vr_cells hv2
            have E := IH w2 _ L p1 (lv + 1) v (by omega) ((Hrd.out.below HB2.out (Nat.le_refl _)).more HB2.out.size) Hs.out (by rw [HN.out]; exact hp1N) Hg.out
            rw [succ_cast lv] at E
            unfold viewV at E
            have E1 := Lib.hid E
            clear E hq hv2
            go_wp2_with fail
            refine E1.out.mono ?_
            rintro e w3 ⟨⟨b, rfl⟩, hb3⟩
            have HB3 := Lib.hid (HB2.out.trans (hb3.mono HB2.out.size))
            clear hb3 d0 d1 d2 d3 d4 d5 d6
            go_wp2
            go_ret2
            rw [Hp.out]
            exact ⟨⟨_, by have := Hp1.out; subst this; rfl⟩, HB3.out⟩
          | false =>
            have F3 := Lib.hid (of_decide_eq_false hq)
            clear hq
            go_wp2_with fail
            refine (HSame.out _ _ (by decide)).mono ?_
            rintro e wq ⟨rfl, rfl⟩
            cases hq : decide (u = ([79, 82] : Bs)) with
            | true =>
              have hkor : kindOf (upP s) = some .or := by rw [Hu.out, of_decide_eq_true hq]; exact k_or
              have Hno := Lib.hid (fun h => pos_or_none (n := n) Hsp.out hkor h)
              have Hyes := Lib.hid (fun (q : Nat) h => pos_or (n := n) (q := q) Hsp.out hkor h)
              obtain ⟨d0, d1, d2, d3, d4, d5, d6⟩ := vr_cells hv2
              have E := IH w2 _ L p1 (lv + 1) v (by omega) ((Hrd.out.below HB2.out (Nat.le_refl _)).more HB2.out.size) Hs.out (by rw [HN.out]; exact hp1N) Hg.out
              rw [succ_cast lv] at E
              unfold viewV at E
              have E1 := Lib.hid E
              clear E hq hv2 hkor
              go_wp2_with fail
              refine E1.out.mono ?_
              rintro e w3 ⟨⟨b, rfl⟩, hb3⟩
              have HB3 := Lib.hid (HB2.out.trans (hb3.mono HB2.out.size))
              have hv3 := blk_below (HVC.out _ Hb2.out) hb3 (blk_lt (HVC.out _ Hb2.out))
              clear hb3 d0 d1 d2 d3 d4 d5 d6
              rw [Hp1.out] at Hno Hyes
              by_cases hx : posP n L p1 < 0
              · have Hp := Lib.hid (Hno.out hx)
                generalize posP n L p1 = x at hx ⊢
                go_wp2
                go_ret2
                rw [Hp.out]
                exact ⟨⟨_, rfl⟩, HB3.out⟩
              · obtain ⟨q, hq⟩ : ∃ q : Nat, posP n L p1 = (q : Int) := ⟨(posP n L p1).toNat, by omega⟩
                obtain ⟨hp2, hqN⟩ := Hyes.out q hq
                have Hp := Lib.hid hp2
                rw [hq]
                clear hx hq hp2 Hno Hyes
                obtain ⟨d0, d1, d2, d3, d4, d5, d6⟩ := vr_cells hv3
                have E := IH w3 _ L q (lv + 1) v (by omega) ((Hrd.out.below HB3.out (Nat.le_refl _)).more HB3.out.size) Hs.out hqN Hg.out
                rw [succ_cast lv] at E
                unfold viewV at E
                have E2 := Lib.hid E
                clear E hv3 E1
                go_wp2_with fail
                refine E2.out.mono ?_
                rintro e w4 ⟨⟨b2, rfl⟩, hb4⟩
                have HB4 := Lib.hid (HB3.out.trans (hb4.mono HB3.out.size))
                clear hb4 d0 d1 d2 d3 d4 d5 d6
                cases b
                all_goals
                  go_wp2
                  go_ret2
                  rw [Hp.out]
                  exact ⟨⟨_, rfl⟩, HB4.out⟩
            | false =>
              have F4 := Lib.hid (of_decide_eq_false hq)
              clear hq
              have E := HParse.out w2
              cases hps : parseS s with
              | some R =>
                rw [hps] at E
                have hRl := parse_len hps
                have Hp := Lib.hid (pos_nameless (n := n) Hsp.out hps)
                have E1 := Lib.hid E
                have hz2 := blk_lt hv2
                have HV2 := Lib.hid hv2
                clear hps E hv2
                go_wp2_with fail
                refine E1.out.mono ?_
                rintro e w3 ⟨sv, rfl, hown, hb3⟩
                obtain ⟨d0, d1, d2, d3, d4, d5, d6⟩ := vr_cells (blk_below HV2.out hb3 hz2)
                have HB3 := Lib.hid (HB2.out.trans (hb3.mono HB2.out.size))
                have Hr := Lib.hid (refHas_any _ R v.seq v.seqs w3 hown.rd (by omega))
                obtain ⟨A3, c3, rfl, _⟩ := hown.form
                clear hown hb3 E1
                go_wp2_with fail
                refine Hr.out.mono ?_
                rintro e w4 ⟨rfl, hb4⟩
                have HB4 := Lib.hid (HB3.out.trans (hb4.mono HB3.out.size))
                clear hb4 d0 d1 d2 d3 d4 d5 d6
                go_wp2
                go_ret2
                rw [Hp.out]
                exact ⟨⟨_, by have := Hp1.out; subst this; rfl⟩, HB4.out⟩
              | none =>
                rw [hps] at E
                have F5 := Lib.hid hps
                have E1 := Lib.hid E
                clear hps E hv2
                go_wp2_with fail
                refine E1.out.mono ?_
                rintro e w3 ⟨rfl, hb3⟩
                have Hb3 := Lib.hid (Hb2.out.trans (hb3.mono Hb2.out.size))
                have HB3 := Lib.hid (HB2.out.trans (hb3.mono HB2.out.size))
                clear hb3 E1 Hb2 HB2
                go_wp2_with fail
                refine (HSame.out _ _ (by decide)).mono ?_
                rintro e wq ⟨rfl, rfl⟩
                cases hq : decide (u = ([72, 69, 65, 68, 69, 82] : Bs)) with
                | true =>
                  have hkh : kindOf (upP s) = some .header := by rw [Hu.out, of_decide_eq_true hq]; exact k_header
                  clear hq
                  by_cases h2 : p1 + 2 ≤ N
                  · have Hp := Lib.hid (pos_header (n := n) Hsp.out hkh (by rw [HN.out]; have := Hp1.out; omega))
                    obtain ⟨x, hx⟩ : ∃ x, L[p1]? = some x := ⟨_, List.getElem?_eq_getElem (by rw [HN.out]; omega)⟩
                    obtain ⟨y, hy⟩ : ∃ y, L[p1 + 1]? = some y := ⟨_, List.getElem?_eq_getElem (by rw [HN.out]; omega)⟩
                    have hxl := Hs.out.2 x (List.mem_of_getElem? hx)
                    have hyl := Hs.out.2 y (List.mem_of_getElem? hy)
                    have hxs : (⟨x.toArray⟩ : ByteArray).size = x.length := rfl
                    have hys : (⟨y.toArray⟩ : ByteArray).size = y.length := rfl
                    have hw1 : IntKind.i64.wrap ((p1 : Int) + 1) = (p1 : Int) + 1 := by simp [IntKind.wrap, IntKind.bits, IntKind.signed]; omega
                    have hw2 : IntKind.i64.wrap ((p1 : Int) + 2) = (p1 : Int) + 2 := by simp [IntKind.wrap, IntKind.bits, IntKind.signed]; omega
                    have HX := Lib.hid (fun W' (h : Below w3.heap.size w3 W') => HC.out W' (HB3.out.trans (h.mono HB3.out.size)) p1 x hx)
                    have HY := Lib.hid (fun W' (h : Below w3.heap.size w3 W') => HC.out W' (HB3.out.trans (h.mono HB3.out.size)) (p1 + 1) y hy)
                    have HZ := Lib.hid (fun W' (h : Below w3.heap.size w3 W') => vr_cells (HVC.out W' (Hb3.out.trans (h.mono Hb3.out.size))))
                    have HE := Lib.hid (fun W' => rfield_any v ⟨x.toArray⟩ ⟨y.toArray⟩ W' Hg.out (by omega) (by omega))
                    unfold viewV at HE
                    have HB0 := Lib.hid (Below.refl w3.heap.size w3)
                    have i1 : (0 : Int) ≤ (p1 : Int) := by omega
                    have i2 : (p1 : Int) < (N : Int) := by omega
                    have i3 : (0 : Int) ≤ (p1 : Int) + 1 := by omega
                    have i4 : (p1 : Int) + 1 < (N : Int) := by omega
                    clear hkh hx hy
                    go_upto_region 27 with fail
                    go_region_held3 (fun W' => W'.cell? ⟨b1, o1 + p1, none⟩ = some (strV x) ∧ W'.cell? ⟨b1, o1 + (p1 + 1), none⟩ = some (strV y) ∧ W'.cell? ⟨W.heap.size, 0, none⟩ = some (.int .i64 v.seq) ∧ W'.cell? ⟨W.heap.size, 1, none⟩ = some (.int .i64 v.uid) ∧ W'.cell? ⟨W.heap.size, 2, none⟩ = some (.int .i64 v.flags) ∧ W'.cell? ⟨W.heap.size, 3, none⟩ = some (.int .i64 v.size) ∧
    W'.cell? ⟨W.heap.size, 4, none⟩ = some (strV v.text) ∧ W'.cell? ⟨W.heap.size, 5, none⟩ = some (.int .i64 v.seqs) ∧ W'.cell? ⟨W.heap.size, 6, none⟩ = some (.int .i64 v.uids))
                      (first | exact ⟨HX.out _ HB0.out, HY.out _ HB0.out, HZ.out _ HB0.out⟩ | exact ⟨HX.out _ HB0.out.drew, HY.out _ HB0.out.drew, HZ.out _ HB0.out.drew⟩ | go_keep)
                      (first
                        | (go_simp; go_at_call 15; refine (HE.out _).mono ?_; rintro e w6 ⟨⟨b, rfl⟩, hb6⟩; replace HB0 := Lib.hid (HB0.out.drew.trans (hb6.mono (HB0.out.drew (a := w3)).size)); clear hb6))
                    all_goals
                      have HB6 := Lib.hid (HB3.out.trans (HB0.out.mono HB3.out.size))
                      clear HB0
                      go_wp2
                      go_ret2
                      rw [Hp.out]
                      exact ⟨⟨_, by have := Hp1.out; subst this; rw [succ_cast, Int.add_assoc]; rfl⟩, HB6.out⟩
                  · have Hp := Lib.hid (pos_header_no (n := n) Hsp.out hkh (by rw [HN.out]; have := Hp1.out; omega))
                    clear hkh
                    go_wp2
                    go_ret2
                    rw [Hp.out]
                    exact ⟨⟨_, rfl⟩, HB3.out⟩
                | false =>
                  have F6 := Lib.hid (of_decide_eq_false hq)
                  clear hq
                  by_cases hpN : p1 = N
                  · have hbq : ((p1 : Int) == (N : Int)) = true := by rw [beq_iff_eq]; omega
                    have Hp := Lib.hid (pos_short (n := n) Hsp.out (by rw [HN.out]; have := Hp1.out; omega) Hu.out F5.out F0.out F1.out F2.out F3.out F4.out)
                    clear hpN
                    go_wp2
                    go_ret2
                    rw [Hp.out]
                    exact ⟨⟨_, rfl⟩, HB3.out⟩
                  · have hbq : ((p1 : Int) == (N : Int)) = false := by rw [beq_eq_false_iff_ne]; omega
                    have hp1l : p1 < N := by omega
                    obtain ⟨t, htp⟩ : ∃ t, L[p1]? = some t := ⟨_, List.getElem?_eq_getElem (by rw [HN.out]; exact hp1l)⟩
                    have htl := Hs.out.2 t (List.mem_of_getElem? htp)
                    have q3 := HC.out _ HB3.out p1 t htp
                    have Htp := Lib.hid (show L[p + 1]? = some t by rw [Hp1.out]; exact htp)
                    have hTs : (⟨t.toArray⟩ : ByteArray).size = t.length := rfl
                    have HW := Lib.hid (blk_new w3 (.cells (fdW.map strV).toArray 9))
                    have HW3 := Lib.hid ((Below.refl w3.heap.size w3).alloc (Nat.le_refl _) (.cells (fdW.map strV).toArray 9))
                    clear hpN htp
                    go_wp2_with fail
                    go_loopw [158] (fun iv wr => ∃ k : Nat, k ≤ 3 ∧ iv = .int .i64 (k : Int) ∧ Hid (Below (w3.alloc (.cells (fdW.map strV).toArray 9)).heap.size (w3.alloc (.cells (fdW.map strV).toArray 9)) wr) ∧ Hid (∀ w ∈ fdW.take k, ¬ u = w)) (fun iv _ => 3 - (intOf iv).toNat)
                    case atStart => exact ⟨0, by decide, rfl, Lib.hid (Below.refl _ _), Lib.hid (by simp)⟩
                    case round =>
                      obtain ⟨k, hk, rfl, hb, hno⟩ := hrel
                      have Hb4 := Lib.hid (Hb3.out.trans ((HW3.out.trans (hb.out.mono HW3.out.size)).mono Hb3.out.size))
                      have HB4 := Lib.hid (HB3.out.trans ((HW3.out.trans (hb.out.mono HW3.out.size)).mono HB3.out.size))
                      by_cases hlt : k < 3
                      · obtain ⟨x, hx⟩ : ∃ x, fdW[k]? = some x := ⟨_, List.getElem?_eq_getElem hlt⟩
                        have hxl := fd_short x (List.mem_of_getElem? hx)
                        have q4 : wr.cell? ⟨w3.heap.size, k, none⟩ = some (strV x) := (cell_blk (blk_below HW.out hb.out (blk_lt HW.out)) k).trans (by simp [hx])
                        have hXs : (⟨x.toArray⟩ : ByteArray).size = x.length := rfl
                        have Hx := Lib.hid hx
                        clear hx
                        go_wp2_with fail
                        refine (HSame.out _ _ (by omega)).mono ?_
                        rintro e wq ⟨rfl, rfl⟩
                        rw [show (⟨x.toArray⟩ : ByteArray).data.toList = x from rfl]
                        cases hq : decide (u = x) with
                        | true =>
                          obtain ⟨nm, hkf⟩ := k_field x (List.mem_of_getElem? Hx.out)
                          have Hp := Lib.hid (pos_field (n := n) Hsp.out Htp.out (by rw [Hu.out, of_decide_eq_true hq]; exact hkf))
                          obtain ⟨d0, d1, d2, d3, d4, d5, d6⟩ := vr_cells (HVC.out _ Hb4.out)
                          have E := rfield_any v ⟨x.toArray⟩ ⟨t.toArray⟩ wr Hg.out (by omega) (by omega)
                          unfold viewV at E
                          have E1 := Lib.hid E
                          clear hq hkf E
                          go_wp2_with fail
                          refine E1.out.mono ?_
                          rintro e w5 ⟨⟨b, rfl⟩, hb5⟩
                          have HB5 := Lib.hid (HB4.out.trans (hb5.mono HB4.out.size))
                          clear hb5 d0 d1 d2 d3 d4 d5 d6
                          go_wp2
                          go_ret2
                          rw [Hp.out]
                          exact ⟨⟨_, by have := Hp1.out; subst this; rw [succ_cast, Int.add_assoc]; rfl⟩, HB5.out⟩
                        | false =>
                          have F7 := Lib.hid (of_decide_eq_false hq)
                          clear hq
                          go_wp2
                          go_roundw
                          case rel =>
                            refine ⟨k + 1, by omega, by go_num, hb, Lib.hid (fun y hy => ?_)⟩
                            rw [List.take_add_one, Hx.out] at hy
                            rcases List.mem_append.1 hy with hy | hy
                            · exact hno.out y hy
                            · simp at hy; subst hy; exact F7.out
                          case measure => first | (simp [intOf]; done) | (simp [intOf]; omega)
                      · have F7 := Lib.hid (show ∀ w ∈ fdW, ¬ u = w by have := hno.out; rw [List.take_of_length_le (by show 3 ≤ k; omega)] at this; exact this)
                        clear hno
                        have hTx : (⟨v.text.toArray⟩ : ByteArray).size = v.text.length := rfl
                        have htx := Hg.out.txt
                        go_wp2_with fail
                        refine (HSame.out _ _ (by decide)).mono ?_
                        rintro e wq ⟨rfl, rfl⟩
                        cases hq : decide (u = ([84, 69, 88, 84] : Bs)) with
                        | true =>
                          have Hp := Lib.hid (pos_text (n := n) Hsp.out Htp.out (by rw [Hu.out, of_decide_eq_true hq]; exact k_text))
                          obtain ⟨d0, d1, d2, d3, d4, d5, d6⟩ := vr_cells (HVC.out _ Hb4.out)
                          clear hq
                          go_wp2_with fail
                          refine (rhas_any ⟨v.text.toArray⟩ ⟨t.toArray⟩ _ (by omega) (by omega)).mono ?_
                          rintro e w5 ⟨rfl, hb5⟩
                          have HB5 := Lib.hid (HB4.out.trans (hb5.mono HB4.out.size))
                          clear hb5 d0 d1 d2 d3 d4 d5 d6
                          go_wp2
                          go_ret2
                          rw [Hp.out]
                          exact ⟨⟨_, by have := Hp1.out; subst this; rw [succ_cast, Int.add_assoc]; rfl⟩, HB5.out⟩
                        | false =>
                          have F8 := Lib.hid (of_decide_eq_false hq)
                          clear hq
                          go_wp2_with fail
                          refine (HSame.out _ _ (by decide)).mono ?_
                          rintro e wq ⟨rfl, rfl⟩
                          cases hq : decide (u = ([66, 79, 68, 89] : Bs)) with
                          | true =>
                            have Hp := Lib.hid (pos_text (n := n) Hsp.out Htp.out (by rw [Hu.out, of_decide_eq_true hq]; exact k_body))
                            have hle : splitN v.text ≤ v.text.length := splitN_le _
                            have HSp := Lib.hid (fun W' => rsplit_any ⟨v.text.toArray⟩ W' (by omega))
                            have HHas := Lib.hid (fun W' => rhas_any ((⟨v.text.toArray⟩ : ByteArray).extract (splitN v.text) v.text.length) ⟨t.toArray⟩ W' (by have := ex_size (⟨v.text.toArray⟩ : ByteArray) (splitN v.text) v.text.length; omega) (by omega))
                            have HZ := Lib.hid (fun W' (h : Below wr.heap.size wr W') => cell_blk (HVC.out W' (Hb4.out.trans (h.mono Hb4.out.size))) 4)
                            clear hq
                            go_upto_region 40 with fail
                            refine RG.wp_region_det (fun W' => Hid (Below wr.heap.size wr W')) (by kernel_rfl) (by kernel_rfl) (Lib.hid (Below.refl _ _).drew) ?_
                            iterate 4
                              apply RG.wpDet_cons
                              · intro w9 hw9
                                have k4 : w9.cell? ⟨W.heap.size, 4, none⟩ = some (strV v.text) := HZ.out w9 hw9.out
                                repeat go_step
                                with_reducible refine RG.only_mk ?_
                                exact hw9
                              · rfl
                            apply RG.wpDet_cons
                            · intro w9 hw9
                              repeat go_step
                              refine (HSp.out w9).mono ?_
                              rintro e w10 ⟨rfl, rfl⟩
                              simp only []
                              repeat go_step
                              with_reducible refine RG.only_mk ?_
                              exact hw9
                            · rfl
                            iterate 2
                              apply RG.wpDet_cons
                              · intro w9 hw9
                                repeat go_step
                                with_reducible refine RG.only_mk ?_
                                exact hw9
                              · rfl
                            apply RG.wpDet_cons
                            · intro w9 hw9
                              repeat go_step
                              refine (HHas.out w9).mono ?_
                              rintro e w10 ⟨rfl, hb10⟩
                              simp only []
                              repeat go_step
                              with_reducible refine RG.only_mk ?_
                              exact Lib.hid (hw9.out.trans (hb10.mono hw9.out.size))
                            · rfl
                            iterate 4
                              apply RG.wpDet_cons
                              · intro w9 hw9
                                repeat go_step
                                with_reducible refine RG.only_mk ?_
                                exact hw9
                              · rfl
                            refine RG.wpDet_nil (fun w9 hw9 => ?_)
                            have HB9 := Lib.hid (HB4.out.trans (hw9.out.mono HB4.out.size))
                            clear hw9
                            go_wp2
                            go_ret2
                            rw [Hp.out]
                            exact ⟨⟨_, by have := Hp1.out; subst this; rw [succ_cast, Int.add_assoc]; rfl⟩, HB9.out⟩
                          | false =>
                            have F9 := Lib.hid (of_decide_eq_false hq)
                            clear hq
                            obtain ⟨kv, hkv, hnum⟩ : ∃ kv : Int, (numQ t).getD (-1) = kv ∧ ((0 ≤ kv ∧ numQ t = some kv) ∨ (kv = -1 ∧ numQ t = none)) := numQ_cases t
                            go_wp2_with fail
                            refine (rnumber_any ⟨t.toArray⟩ _ (by omega)).mono ?_
                            rw [show (⟨t.toArray⟩ : ByteArray).data.toList = t from rfl, hkv]
                            rintro e wq ⟨rfl, rfl⟩
                            have Hnum := Lib.hid hnum
                            clear hkv hnum
                            go_wp2_with fail
                            refine (HSame.out _ _ (by decide)).mono ?_
                            rintro e wq ⟨rfl, rfl⟩
                            have hcase : ((decide (u = ([76, 65, 82, 71, 69, 82] : Bs)) = true) ∧ 0 ≤ kv ∧ numQ t = some kv) ∨ ((decide (u = ([76, 65, 82, 71, 69, 82] : Bs)) = true) ∧ kv = -1 ∧ numQ t = none) ∨ (decide (u = ([76, 65, 82, 71, 69, 82] : Bs)) = false) := by
                              cases hq : decide (u = ([76, 65, 82, 71, 69, 82] : Bs)) with
                              | true => rcases Hnum.out with h | h
                                        · exact .inl ⟨rfl, h.1, h.2⟩
                                        · exact .inr (.inl ⟨rfl, h.1, h.2⟩)
                              | false => exact .inr (.inr rfl)
                            rcases hcase with ⟨hq, h0, hn⟩ | ⟨hq, h0, hn⟩ | hq
                            · have Hp := Lib.hid (pos_size (n := n) Hsp.out Htp.out (by rw [Hu.out, of_decide_eq_true hq]; exact k_larger) hn)
                              obtain ⟨d0, d1, d2, d3, d4, d5, d6⟩ := vr_cells (HVC.out _ Hb4.out)
                              rw [hq]
                              clear hq hn
                              go_wp2
                              go_ret2
                              rw [Hp.out]
                              exact ⟨⟨_, by have := Hp1.out; subst this; rw [succ_cast, Int.add_assoc]; rfl⟩, HB4.out⟩
                            · have F10 := Lib.hid (show u = [76, 65, 82, 71, 69, 82] → numQ t = none from fun _ => hn)
                              rw [hq]
                              subst h0
                              clear hq hn
                              go_wp2_with fail
                              refine (HSame.out _ _ (by decide)).mono ?_
                              rintro e wq ⟨rfl, rfl⟩
                              have hcase : ((decide (u = ([83, 77, 65, 76, 76, 69, 82] : Bs)) = true) ∧ 0 ≤ (-1 : Int) ∧ numQ t = some (-1 : Int)) ∨ ((decide (u = ([83, 77, 65, 76, 76, 69, 82] : Bs)) = true) ∧ numQ t = none) ∨ (decide (u = ([83, 77, 65, 76, 76, 69, 82] : Bs)) = false) := by
                                cases hq : decide (u = ([83, 77, 65, 76, 76, 69, 82] : Bs)) with
                                | true => rcases Hnum.out with h | h
                                          · exact .inl ⟨rfl, h.1, h.2⟩
                                          · exact .inr (.inl ⟨rfl, h.2⟩)
                                | false => exact .inr (.inr rfl)
                              rcases hcase with ⟨hq, h0, hn⟩ | ⟨hq, hn⟩ | hq
                              · exact absurd h0 (by decide)
                              · have F11 := Lib.hid (show u = [83, 77, 65, 76, 76, 69, 82] → numQ t = none from fun _ => hn)
                                rw [hq]
                                clear hq hn
                                have E := refParse_any ⟨t.toArray⟩ wr (by omega)
                                rw [show (⟨t.toArray⟩ : ByteArray).data.toList = t from rfl] at E
                                cases hpt : parseS t with
                                | none =>
                                  rw [hpt] at E
                                  have Hp := Lib.hid (pos_final (n := n) Hsp.out Htp.out Hu.out F5.out F0.out F1.out F2.out F3.out F4.out F6.out F7.out F8.out F9.out F10.out F11.out (fun _ => hpt))
                                  have E1 := Lib.hid E
                                  clear hpt E
                                  go_wp2_with fail
                                  refine E1.out.mono ?_
                                  rintro e w5 ⟨rfl, hb5⟩
                                  have HB5 := Lib.hid (HB4.out.trans (hb5.mono HB4.out.size))
                                  clear hb5
                                  go_wp2_with fail
                                  refine (HSame.out _ _ (by decide)).mono ?_
                                  rintro e wq ⟨rfl, rfl⟩
                                  cases hq : decide (u = ([85, 73, 68] : Bs))
                                  all_goals
                                    clear hq
                                    go_wp2
                                    go_ret2
                                    rw [Hp.out]
                                    exact ⟨⟨_, rfl⟩, HB5.out⟩
                                | some R =>
                                  rw [hpt] at E
                                  have hRl := parse_len hpt
                                  have Hpt := Lib.hid hpt
                                  have E1 := Lib.hid E
                                  clear hpt E
                                  go_wp2_with fail
                                  refine E1.out.mono ?_
                                  rintro e w5 ⟨sv, rfl, hown, hb5⟩
                                  obtain ⟨d0, d1, d2, d3, d4, d5, d6⟩ := vr_cells (HVC.out _ (Hb4.out.trans (hb5.mono Hb4.out.size)))
                                  have HB5 := Lib.hid (HB4.out.trans (hb5.mono HB4.out.size))
                                  have Hr := Lib.hid (refHas_any _ R v.uid v.uids w5 hown.rd (by omega))
                                  obtain ⟨A5, c5, rfl, _⟩ := hown.form
                                  clear hown hb5 E1
                                  go_wp2_with fail
                                  refine (HSame.out _ _ (by decide)).mono ?_
                                  rintro e wq ⟨rfl, rfl⟩
                                  cases hq : decide (u = ([85, 73, 68] : Bs)) with
                                  | true =>
                                    have Hp := Lib.hid (pos_uid (n := n) Hsp.out Htp.out (by rw [Hu.out, of_decide_eq_true hq]; exact k_uid) Hpt.out)
                                    clear hq
                                    go_wp2_with fail
                                    refine Hr.out.mono ?_
                                    rintro e w6 ⟨rfl, hb6⟩
                                    have HB6 := Lib.hid (HB5.out.trans (hb6.mono HB5.out.size))
                                    clear hb6 d0 d1 d2 d3 d4 d5 d6
                                    go_wp2
                                    go_ret2
                                    rw [Hp.out]
                                    exact ⟨⟨_, by have := Hp1.out; subst this; rw [succ_cast, Int.add_assoc]; rfl⟩, HB6.out⟩
                                  | false =>
                                    have Hp := Lib.hid (pos_final (n := n) Hsp.out Htp.out Hu.out F5.out F0.out F1.out F2.out F3.out F4.out F6.out F7.out F8.out F9.out F10.out F11.out (fun e => absurd e (of_decide_eq_false hq)))
                                    clear hq
                                    go_wp2
                                    go_ret2
                                    rw [Hp.out]
                                    exact ⟨⟨_, rfl⟩, HB5.out⟩
                              · have F11 := Lib.hid (show u = [83, 77, 65, 76, 76, 69, 82] → numQ t = none from fun e => absurd e (of_decide_eq_false hq))
                                rw [hq]
                                clear hq
                                have E := refParse_any ⟨t.toArray⟩ wr (by omega)
                                rw [show (⟨t.toArray⟩ : ByteArray).data.toList = t from rfl] at E
                                cases hpt : parseS t with
                                | none =>
                                  rw [hpt] at E
                                  have Hp := Lib.hid (pos_final (n := n) Hsp.out Htp.out Hu.out F5.out F0.out F1.out F2.out F3.out F4.out F6.out F7.out F8.out F9.out F10.out F11.out (fun _ => hpt))
                                  have E1 := Lib.hid E
                                  clear hpt E
                                  go_wp2_with fail
                                  refine E1.out.mono ?_
                                  rintro e w5 ⟨rfl, hb5⟩
                                  have HB5 := Lib.hid (HB4.out.trans (hb5.mono HB4.out.size))
                                  clear hb5
                                  go_wp2_with fail
                                  refine (HSame.out _ _ (by decide)).mono ?_
                                  rintro e wq ⟨rfl, rfl⟩
                                  cases hq : decide (u = ([85, 73, 68] : Bs))
                                  all_goals
                                    clear hq
                                    go_wp2
                                    go_ret2
                                    rw [Hp.out]
                                    exact ⟨⟨_, rfl⟩, HB5.out⟩
                                | some R =>
                                  rw [hpt] at E
                                  have hRl := parse_len hpt
                                  have Hpt := Lib.hid hpt
                                  have E1 := Lib.hid E
                                  clear hpt E
                                  go_wp2_with fail
                                  refine E1.out.mono ?_
                                  rintro e w5 ⟨sv, rfl, hown, hb5⟩
                                  obtain ⟨d0, d1, d2, d3, d4, d5, d6⟩ := vr_cells (HVC.out _ (Hb4.out.trans (hb5.mono Hb4.out.size)))
                                  have HB5 := Lib.hid (HB4.out.trans (hb5.mono HB4.out.size))
                                  have Hr := Lib.hid (refHas_any _ R v.uid v.uids w5 hown.rd (by omega))
                                  obtain ⟨A5, c5, rfl, _⟩ := hown.form
                                  clear hown hb5 E1
                                  go_wp2_with fail
                                  refine (HSame.out _ _ (by decide)).mono ?_
                                  rintro e wq ⟨rfl, rfl⟩
                                  cases hq : decide (u = ([85, 73, 68] : Bs)) with
                                  | true =>
                                    have Hp := Lib.hid (pos_uid (n := n) Hsp.out Htp.out (by rw [Hu.out, of_decide_eq_true hq]; exact k_uid) Hpt.out)
                                    clear hq
                                    go_wp2_with fail
                                    refine Hr.out.mono ?_
                                    rintro e w6 ⟨rfl, hb6⟩
                                    have HB6 := Lib.hid (HB5.out.trans (hb6.mono HB5.out.size))
                                    clear hb6 d0 d1 d2 d3 d4 d5 d6
                                    go_wp2
                                    go_ret2
                                    rw [Hp.out]
                                    exact ⟨⟨_, by have := Hp1.out; subst this; rw [succ_cast, Int.add_assoc]; rfl⟩, HB6.out⟩
                                  | false =>
                                    have Hp := Lib.hid (pos_final (n := n) Hsp.out Htp.out Hu.out F5.out F0.out F1.out F2.out F3.out F4.out F6.out F7.out F8.out F9.out F10.out F11.out (fun e => absurd e (of_decide_eq_false hq)))
                                    clear hq
                                    go_wp2
                                    go_ret2
                                    rw [Hp.out]
                                    exact ⟨⟨_, rfl⟩, HB5.out⟩
                            · have F10 := Lib.hid (show u = [76, 65, 82, 71, 69, 82] → numQ t = none from fun e => absurd e (of_decide_eq_false hq))
                              rw [hq]
                              clear hq
                              go_wp2_with fail
                              refine (HSame.out _ _ (by decide)).mono ?_
                              rintro e wq ⟨rfl, rfl⟩
                              have hcase : ((decide (u = ([83, 77, 65, 76, 76, 69, 82] : Bs)) = true) ∧ 0 ≤ kv ∧ numQ t = some kv) ∨ ((decide (u = ([83, 77, 65, 76, 76, 69, 82] : Bs)) = true) ∧ numQ t = none) ∨ (decide (u = ([83, 77, 65, 76, 76, 69, 82] : Bs)) = false) := by
                                cases hq : decide (u = ([83, 77, 65, 76, 76, 69, 82] : Bs)) with
                                | true => rcases Hnum.out with h | h
                                          · exact .inl ⟨rfl, h.1, h.2⟩
                                          · exact .inr (.inl ⟨rfl, h.2⟩)
                                | false => exact .inr (.inr rfl)
                              rcases hcase with ⟨hq, h0, hn⟩ | ⟨hq, hn⟩ | hq
                              · have Hp := Lib.hid (pos_size (n := n) Hsp.out Htp.out (by rw [Hu.out, of_decide_eq_true hq]; exact k_smaller) hn)
                                obtain ⟨d0, d1, d2, d3, d4, d5, d6⟩ := vr_cells (HVC.out _ Hb4.out)
                                rw [hq]
                                clear hq hn
                                go_wp2
                                go_ret2
                                rw [Hp.out]
                                exact ⟨⟨_, by have := Hp1.out; subst this; rw [succ_cast, Int.add_assoc]; rfl⟩, HB4.out⟩
                              · have F11 := Lib.hid (show u = [83, 77, 65, 76, 76, 69, 82] → numQ t = none from fun _ => hn)
                                have hkn : kv = -1 := by
                                  rcases Hnum.out with h | h
                                  · rw [hn] at h; cases h.2
                                  · exact h.1
                                rw [hq]
                                subst hkn
                                clear hq hn
                                have E := refParse_any ⟨t.toArray⟩ wr (by omega)
                                rw [show (⟨t.toArray⟩ : ByteArray).data.toList = t from rfl] at E
                                cases hpt : parseS t with
                                | none =>
                                  rw [hpt] at E
                                  have Hp := Lib.hid (pos_final (n := n) Hsp.out Htp.out Hu.out F5.out F0.out F1.out F2.out F3.out F4.out F6.out F7.out F8.out F9.out F10.out F11.out (fun _ => hpt))
                                  have E1 := Lib.hid E
                                  clear hpt E
                                  go_wp2_with fail
                                  refine E1.out.mono ?_
                                  rintro e w5 ⟨rfl, hb5⟩
                                  have HB5 := Lib.hid (HB4.out.trans (hb5.mono HB4.out.size))
                                  clear hb5
                                  go_wp2_with fail
                                  refine (HSame.out _ _ (by decide)).mono ?_
                                  rintro e wq ⟨rfl, rfl⟩
                                  cases hq : decide (u = ([85, 73, 68] : Bs))
                                  all_goals
                                    clear hq
                                    go_wp2
                                    go_ret2
                                    rw [Hp.out]
                                    exact ⟨⟨_, rfl⟩, HB5.out⟩
                                | some R =>
                                  rw [hpt] at E
                                  have hRl := parse_len hpt
                                  have Hpt := Lib.hid hpt
                                  have E1 := Lib.hid E
                                  clear hpt E
                                  go_wp2_with fail
                                  refine E1.out.mono ?_
                                  rintro e w5 ⟨sv, rfl, hown, hb5⟩
                                  obtain ⟨d0, d1, d2, d3, d4, d5, d6⟩ := vr_cells (HVC.out _ (Hb4.out.trans (hb5.mono Hb4.out.size)))
                                  have HB5 := Lib.hid (HB4.out.trans (hb5.mono HB4.out.size))
                                  have Hr := Lib.hid (refHas_any _ R v.uid v.uids w5 hown.rd (by omega))
                                  obtain ⟨A5, c5, rfl, _⟩ := hown.form
                                  clear hown hb5 E1
                                  go_wp2_with fail
                                  refine (HSame.out _ _ (by decide)).mono ?_
                                  rintro e wq ⟨rfl, rfl⟩
                                  cases hq : decide (u = ([85, 73, 68] : Bs)) with
                                  | true =>
                                    have Hp := Lib.hid (pos_uid (n := n) Hsp.out Htp.out (by rw [Hu.out, of_decide_eq_true hq]; exact k_uid) Hpt.out)
                                    clear hq
                                    go_wp2_with fail
                                    refine Hr.out.mono ?_
                                    rintro e w6 ⟨rfl, hb6⟩
                                    have HB6 := Lib.hid (HB5.out.trans (hb6.mono HB5.out.size))
                                    clear hb6 d0 d1 d2 d3 d4 d5 d6
                                    go_wp2
                                    go_ret2
                                    rw [Hp.out]
                                    exact ⟨⟨_, by have := Hp1.out; subst this; rw [succ_cast, Int.add_assoc]; rfl⟩, HB6.out⟩
                                  | false =>
                                    have Hp := Lib.hid (pos_final (n := n) Hsp.out Htp.out Hu.out F5.out F0.out F1.out F2.out F3.out F4.out F6.out F7.out F8.out F9.out F10.out F11.out (fun e => absurd e (of_decide_eq_false hq)))
                                    clear hq
                                    go_wp2
                                    go_ret2
                                    rw [Hp.out]
                                    exact ⟨⟨_, rfl⟩, HB5.out⟩
                              · have F11 := Lib.hid (show u = [83, 77, 65, 76, 76, 69, 82] → numQ t = none from fun e => absurd e (of_decide_eq_false hq))
                                rw [hq]
                                clear hq
                                have E := refParse_any ⟨t.toArray⟩ wr (by omega)
                                rw [show (⟨t.toArray⟩ : ByteArray).data.toList = t from rfl] at E
                                cases hpt : parseS t with
                                | none =>
                                  rw [hpt] at E
                                  have Hp := Lib.hid (pos_final (n := n) Hsp.out Htp.out Hu.out F5.out F0.out F1.out F2.out F3.out F4.out F6.out F7.out F8.out F9.out F10.out F11.out (fun _ => hpt))
                                  have E1 := Lib.hid E
                                  clear hpt E
                                  go_wp2_with fail
                                  refine E1.out.mono ?_
                                  rintro e w5 ⟨rfl, hb5⟩
                                  have HB5 := Lib.hid (HB4.out.trans (hb5.mono HB4.out.size))
                                  clear hb5
                                  go_wp2_with fail
                                  refine (HSame.out _ _ (by decide)).mono ?_
                                  rintro e wq ⟨rfl, rfl⟩
                                  cases hq : decide (u = ([85, 73, 68] : Bs))
                                  all_goals
                                    clear hq
                                    go_wp2
                                    go_ret2
                                    rw [Hp.out]
                                    exact ⟨⟨_, rfl⟩, HB5.out⟩
                                | some R =>
                                  rw [hpt] at E
                                  have hRl := parse_len hpt
                                  have Hpt := Lib.hid hpt
                                  have E1 := Lib.hid E
                                  clear hpt E
                                  go_wp2_with fail
                                  refine E1.out.mono ?_
                                  rintro e w5 ⟨sv, rfl, hown, hb5⟩
                                  obtain ⟨d0, d1, d2, d3, d4, d5, d6⟩ := vr_cells (HVC.out _ (Hb4.out.trans (hb5.mono Hb4.out.size)))
                                  have HB5 := Lib.hid (HB4.out.trans (hb5.mono HB4.out.size))
                                  have Hr := Lib.hid (refHas_any _ R v.uid v.uids w5 hown.rd (by omega))
                                  obtain ⟨A5, c5, rfl, _⟩ := hown.form
                                  clear hown hb5 E1
                                  go_wp2_with fail
                                  refine (HSame.out _ _ (by decide)).mono ?_
                                  rintro e wq ⟨rfl, rfl⟩
                                  cases hq : decide (u = ([85, 73, 68] : Bs)) with
                                  | true =>
                                    have Hp := Lib.hid (pos_uid (n := n) Hsp.out Htp.out (by rw [Hu.out, of_decide_eq_true hq]; exact k_uid) Hpt.out)
                                    clear hq
                                    go_wp2_with fail
                                    refine Hr.out.mono ?_
                                    rintro e w6 ⟨rfl, hb6⟩
                                    have HB6 := Lib.hid (HB5.out.trans (hb6.mono HB5.out.size))
                                    clear hb6 d0 d1 d2 d3 d4 d5 d6
                                    go_wp2
                                    go_ret2
                                    rw [Hp.out]
                                    exact ⟨⟨_, by have := Hp1.out; subst this; rw [succ_cast, Int.add_assoc]; rfl⟩, HB6.out⟩
                                  | false =>
                                    have Hp := Lib.hid (pos_final (n := n) Hsp.out Htp.out Hu.out F5.out F0.out F1.out F2.out F3.out F4.out F6.out F7.out F8.out F9.out F10.out F11.out (fun e => absurd e (of_decide_eq_false hq)))
                                    clear hq
                                    go_wp2
                                    go_ret2
                                    rw [Hp.out]
                                    exact ⟨⟨_, rfl⟩, HB5.out⟩

  · have Hp := Lib.hid (posP_end (n := n + 1) (show L.length ≤ p by rw [HN.out]; omega))
    unfold viewV
    go_enter Tryz.func8, Tryz.ntmps8
    go_wp2
    go_ret2
    rw [Hp.out]
    exact ⟨⟨_, rfl⟩, HB1.out⟩
end Go.Proofs.YtkgngahmpafdhaaGreatDoor.QN

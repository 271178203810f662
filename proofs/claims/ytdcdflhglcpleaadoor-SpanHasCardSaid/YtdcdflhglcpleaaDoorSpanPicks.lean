/- The law SpanPicks: it returns true. Conditions: that the slices read as ranges and numbers, that the cell of the library's MaxLen holds some int, and its table of powers lies as its text lays it. -/
import Derived.Test.YtdcdflhglcpleaaDoorSpanTurns
namespace Go.Proofs.YtdcdflhglcpleaaDoor.SP
open Go.RowKit Mailsack MM BU

/-- what is left of a list that is picked of another one can be found behind a place -/
def LeftIn (P ns : List Int) : Prop := P.Sublist ns
theorem left_skip {P ns : List Int} {x y : Int} (h : (x :: P).Sublist (y :: ns)) (hne : y ≠ x) : (x :: P).Sublist ns := by
  cases h with
  | cons _ h => exact h
  | cons_cons _ h => exact absurd rfl hne
theorem left_take {P ns : List Int} {x : Int} (h : (x :: P).Sublist (x :: ns)) : P.Sublist ns := by
  cases h with
  | cons _ h => exact (List.sublist_cons_self x P).trans h
  | cons_cons _ h => exact h
theorem left_none {P : List Int} {x : Int} (h : (x :: P).Sublist []) : False := by cases h
theorem pick_sub (L : List (Int × Int)) (ns : List Int) : (pickS L ns).Sublist ns := List.filter_sublist
theorem hasS_star (n g : Int) : hasS [(0, 0)] n g = decide (n = g) := by
  unfold hasS
  simp only [List.any_cons, List.any_nil, Bool.or_false]
  unfold hasR
  rw [decide_eq_decide]
  show min (endG g 0) (endG g 0) ≤ n ∧ n ≤ max (endG g 0) (endG g 0) ↔ n = g
  rw [show endG g 0 = g from rfl]
  omega
theorem pick_star_last (ns : List Int) (h : 0 < ns.length) : ∃ Q, pickS [(0, 0)] ns = Q ++ [lastI ns] := by
  obtain ⟨l, hl⟩ : ∃ l, ns = l ++ [lastI ns] := by
    have hne : ns ≠ [] := fun e => by rw [e] at h; exact absurd h (by decide)
    refine ⟨ns.dropLast, ?_⟩
    have : lastI ns = ns.getLast hne := by unfold lastI; rw [List.getLastD_eq_getLast?, List.getLast?_eq_some_getLast hne]; rfl
    rw [this, List.dropLast_concat_getLast]
  refine ⟨(l.filter fun n => hasS [(0, 0)] n (lastI ns)), ?_⟩
  unfold pickS
  conv => lhs; rw [hl]
  rw [List.filter_append]
  congr 1
  · congr 1
    funext n
    rw [← hl]
  · simp [hasS_star, ← hl]
theorem pick_nil (L : List (Int × Int)) : pickS L [] = [] := rfl

theorem awake_in {m : Int} {w W : World} (h : Lib2 m w) (hb : Below w.heap.size w W) :
    Calls Tryd.prog 8 #[] W fun e w' => e = .returned (.bool true) ∧ Below W.heap.size W w' :=
  awake_any m W (h.at hb).max (h.at hb).tab
set_option maxHeartbeats 4000000 in
set_option maxRecDepth 100000 in
theorem picks_any (v u : Value) (L : List (Int × Int)) (ns : List Int) (m : Int) (w : World) (hv : RdR w w.heap.size v L) (hu : RdI w w.heap.size u ns) (hlen : L.length ≤ 9223372036854775807) (hnl : ns.length ≤ 9223372036854775807) (htab : Tab w) (hm : w.cell? ⟨0, 0, none⟩ = some (.int .i64 m)) :
    Calls Tryd.prog 7 #[v, u] w fun e w' => e = .returned (.bool true) ∧ Below w.heap.size w w' := by
  have HL : Hid (Lib2 m w) := Lib.hid ⟨hm, htab⟩
  clear htab hm
  have HV := Lib.hid hv
  have HU := Lib.hid hu
  obtain ⟨A, c, rfl, hc, _⟩ := hv
  obtain ⟨A1, c1, rfl, hc1, hcell⟩ := hu
  have Hcell := Lib.hid hcell
  clear hcell
  by_cases hbig : 100 < L.length
  · go_enter Tryd.func7, Tryd.ntmps7
    go_wp2_with fail
    refine (awake_at HL.out (Below.refl _ _)).mono ?_
    rintro e w2 ⟨rfl, hb2⟩
    go_wp2
    go_ret
    exact ⟨rfl, hb2⟩
  have hb1 : L.length ≤ 100 := by omega
  clear hbig
  by_cases hbig : 100 < ns.length
  · go_enter Tryd.func7, Tryd.ntmps7
    go_wp2_with fail
    refine (awake_at HL.out (Below.refl _ _)).mono ?_
    rintro e w2 ⟨rfl, hb2⟩
    go_wp2
    go_ret
    exact ⟨rfl, hb2⟩
  · have hb2 : ns.length ≤ 100 := by omega
    clear hbig
    have HP := Lib.hid (pick_any _ _ L ns w HV.out HU.out (by omega) (by omega))
    have Hsub := Lib.hid (pick_sub L ns)
    have hpl : (pickS L ns).length ≤ ns.length := Hsub.out.length_le
    generalize pickS L ns = P at *
    go_enter Tryd.func7, Tryd.ntmps7
    go_wp2_with fail
    refine HP.out.mono ?_
    rintro e w2 ⟨r, rfl, hown, hbw⟩
    obtain ⟨A2, c2, rfl, _⟩ := hown.form
    have HR := Lib.hid hown.rd
    have HB := Lib.hid hbw
    clear hown hbw HP
    go_wp2_with fail
    go_loop [6, 24] (fun av iv => ∃ (a i : Nat), a ≤ ns.length ∧ i ≤ P.length ∧ av = .int .i64 (a : Int) ∧ iv = .int .i64 (i : Int) ∧ Hid ((P.drop i).Sublist (ns.drop a))) (fun _ i => P.length - (intOf i).toNat)
    case atStart => exact ⟨0, 0, Nat.zero_le _, Nat.zero_le _, rfl, rfl, Lib.hid (by simpa using Hsub.out)⟩
    case round =>
      obtain ⟨a, i, ha, hi, rfl, rfl, hs⟩ := hrel
      by_cases hlt : i < P.length
      · obtain ⟨x, hx⟩ : ∃ x, P[i]? = some x := ⟨_, List.getElem?_eq_getElem hlt⟩
        obtain ⟨A', c', e9, _, hcx⟩ := HR.out
        obtain ⟨b2, o2, rfl, hbb2, hcs2⟩ := hcx (by omega)
        injection e9 with e9 _ _
        subst e9
        have d1 := hcs2 i x hx
        have hs1 := hs.out
        rw [drop_cons' hx] at hs1
        have hnp : 0 < ns.length := by
          have := hs1.length_le
          simp at this
          omega
        obtain ⟨b, off, rfl, hbB, hcs⟩ := Hcell.out hnp
        have Hcs := Lib.hid (fun j r (hr : ns[j]? = some r) => (HB.out.cell (p := ⟨b, off + j, none⟩) hbB).trans (hcs j r hr))
        have Hs1 := Lib.hid hs1
        clear hs hs1 hcs hcx hcs2 hx
        go_wp2
        go_loop [6] (fun av => ∃ a : Nat, a ≤ ns.length ∧ av = .int .i64 (a : Int) ∧ Hid ((x :: P.drop (i + 1)).Sublist (ns.drop a))) (fun av => ns.length - (intOf av).toNat)
        case atStart => exact ⟨a, ha, rfl, Hs1⟩
        case round =>
          obtain ⟨a', ha', rfl, hs'⟩ := hrel
          clear Hs1
          have hal : a' < ns.length := by
            have := hs'.out.length_le
            simp at this
            omega
          obtain ⟨y, hy⟩ : ∃ y, ns[a']? = some y := ⟨_, List.getElem?_eq_getElem hal⟩
          have d2 := Hcs.out a' y hy
          have hs2 := hs'.out
          rw [drop_cons' hy] at hs2
          have haeq : ((a' : Int) == (ns.length : Int)) = false := by rw [beq_eq_false_iff_ne]; omega
          cases hyx : (y == x)
          · have Hs3 := Lib.hid (left_skip hs2 (by rw [beq_eq_false_iff_ne] at hyx; exact hyx))
            clear hs2 hy
            go_wp2
            go_round
            case rel => exact ⟨a' + 1, by omega, by go_num, Hs3⟩
            case measure => simp [intOf]; omega
          · rw [beq_iff_eq] at hyx
            rw [hyx] at hs2 d2
            have Hs3 := Lib.hid (left_take hs2)
            clear hs2 hy hyx
            go_wp2
            exact ⟨⟨_, _, _, _, ⟨a' + 1, by omega, i + 1, by omega, rfl, rfl, Hs3⟩, rfl, by go_num, rfl, by go_num⟩, by simp [intOf]; omega⟩
      · have HBa := Lib.hid (HB.out.alloc HB.out.size (.cells #[.int .i64 0, .int .i64 0] 34))
        have HU2 := Lib.hid ((HU.out.below HBa.out (Nat.le_refl _)).more HBa.out.size)
        have HP2 := Lib.hid (pick_any _ _ [(0, 0)] ns _ (rdr_one w2 0 0 34) HU2.out (by decide) (by omega))
        by_cases h0 : ns.length = 0
        · obtain rfl : ns = [] := List.length_eq_zero_iff.1 h0
          have hP0 : P.length = 0 := by simpa using hpl
          obtain rfl : P = [] := List.length_eq_zero_iff.1 hP0
          rw [pick_nil] at HP2
          clear hs Hsub hpl
          go_wp2_with fail
          refine HP2.out.mono ?_
          rintro e w3 ⟨r, rfl, hown3, hb3⟩
          obtain ⟨A3, c3, rfl, _⟩ := hown3.form
          have HB3 := Lib.hid (HBa.out.trans (hb3.mono HBa.out.size))
          clear hb3 hown3
          go_wp2_with fail
          refine (awake_at HL.out HB3.out).mono ?_
          rintro e w4 ⟨rfl, hb4⟩
          go_wp2
          go_ret
          exact ⟨rfl, hb4⟩
        · have hpos : 0 < ns.length := by omega
          have h0b : ((ns.length : Int) == 0) = false := by rw [beq_eq_false_iff_ne]; omega
          obtain ⟨Q, hQ⟩ := pick_star_last ns hpos
          rw [hQ] at HP2
          have hlast := last_get hpos
          have hQl : Q.length < ns.length := by
            have := (pick_sub [(0, 0)] ns).length_le
            rw [hQ] at this
            simp at this
            omega
          generalize lastI ns = g at *
          obtain ⟨b, off, rfl, hbB, hcs⟩ := Hcell.out hpos
          have Hd := Lib.hid (hcs _ _ hlast)
          clear hs Hsub hpl h0 hQ hlast hcs Hcell
          go_wp2_with fail
          refine HP2.out.mono ?_
          rintro e w3 ⟨r, rfl, hown3, hb3⟩
          have hrd := hown3.rd
          obtain ⟨A3, c3, rfl, hc3, hcq⟩ := hrd
          obtain ⟨b3, o3, rfl, hbb3, hcs3⟩ := hcq (by simp)
          have HB3 := Lib.hid (HBa.out.trans (hb3.mono HBa.out.size))
          have e3 := Lib.hid (hcs3 Q.length g (by simp))
          have e4 := Lib.hid ((HB3.out.cell (p := ⟨b, off + (ns.length - 1), none⟩) hbB).trans Hd.out)
          have hlq : (Q ++ [g]).length = Q.length + 1 := by simp
          rw [hlq] at hc3 ⊢
          have HBB := Lib.hid (Nat.lt_of_lt_of_le hbB HB3.out.size)
          have HB5 := Lib.hid hbb3
          clear hb3 hown3 hcq hcs3 hlq hbb3
          go_upto_region 17 with fail
          refine RG.wp_region_det (fun W => Hid (Below w3.heap.size w3 W)) (by kernel_rfl) (by kernel_rfl) (Lib.hid (Below.refl _ _).drew) ?_
          iterate 19
            apply RG.wpDet_cons
            · intro w9 hw9
              have k0 := (hw9.out.cell (p := ⟨b, off + (ns.length - 1), none⟩) HBB.out).trans e4.out
              have k1 := (hw9.out.cell (p := ⟨b3, o3 + Q.length, none⟩) HB5.out).trans e3.out
              repeat go_step
              with_reducible refine RG.only_mk ?_
              exact hw9
            · rfl
          apply RG.wpDet_cons
          · intro w9 hw9
            repeat go_step
            refine (awake_in HL.out (HB3.out.trans (hw9.out.mono HB3.out.size))).mono ?_
            rintro e w10 ⟨rfl, hb10⟩
            simp only []
            repeat go_step
            with_reducible refine RG.only_mk ?_
            exact Lib.hid (hw9.out.trans (hb10.mono hw9.out.size))
          · rfl
          iterate 2
            apply RG.wpDet_cons
            · intro w9 hw9
              repeat go_step
              with_reducible refine RG.only_mk ?_
              exact hw9
            · rfl
          refine RG.wpDet_nil (fun w9 hw9 => ?_)
          have hb9 := Lib.hid (HB3.out.trans (hw9.out.mono HB3.out.size))
          clear hw9
          go_wp2
          go_ret
          exact ⟨rfl, hb9.out⟩
end Go.Proofs.YtdcdflhglcpleaaDoor.SP

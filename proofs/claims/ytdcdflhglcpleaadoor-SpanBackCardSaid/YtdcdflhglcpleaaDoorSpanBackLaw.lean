/- The law SpanBack: it returns true. Conditions: that the slice reads as steps, that the cell of the library's MaxLen holds some int, and its table of powers lies as its text lays it. -/
import Derived.Test.YtdcdflhglcpleaaDoorSpanParses
import Derived.Test.YtdcdflhglcpleaaDoorSpanBackPlain
import Derived.Test.YtdcdflhglcpleaaDoorOpenR
namespace Go.Proofs.YtdcdflhglcpleaaDoor.SP
open Go.RowKit Mailsack MM BU

set_option maxHeartbeats 4000000 in
set_option maxRecDepth 100000 in
theorem back_any (v : Value) (zs : List Int) (n gr : Int) (m : Int) (w : World) (hv : RdK .u8 w w.heap.size v zs) (hz : ∀ z ∈ zs, 0 ≤ z ∧ z ≤ 255) (hlen : zs.length ≤ 9223372036854775807) (htab : Tab w) (hm : w.cell? ⟨0, 0, none⟩ = some (.int .i64 m)) :
    Calls Tryd.prog 6 #[v, .int .i64 n, .int .i64 gr] w fun e w' => e = .returned (.bool true) ∧ Below w.heap.size w w' := by
  have HL : Hid (Lib2 m w) := Lib.hid ⟨hm, htab⟩
  clear htab hm
  obtain ⟨i0, hi0, hz0, hz1, hz2⟩ := info_parts infoI
  obtain ⟨A, c, rfl, hc, hcell⟩ := hv
  have Hcell := Lib.hid hcell
  have Hz := Lib.hid hz
  clear hcell hz
  by_cases hbig : 100 < zs.length
  · go_enter Tryd.func6, Tryd.ntmps6
    go_wp2_with fail
    refine (awake_at HL.out (Below.refl _ _)).mono ?_
    rintro e w2 ⟨rfl, hb2⟩
    go_wp2
    go_ret
    exact ⟨rfl, hb2⟩
  have hb1 : zs.length ≤ 100 := by omega
  clear hbig
  by_cases h0 : zs.length = 0
  · obtain rfl : zs = [] := List.length_eq_zero_iff.1 h0
    go_enter Tryd.func6, Tryd.ntmps6
    go_wp2_with fail
    refine (awake_at HL.out (Below.refl _ _)).mono ?_
    rintro e w2 ⟨rfl, hb2⟩
    go_wp2
    go_ret
    exact ⟨rfl, hb2⟩
  have hpos : 0 < zs.length := by omega
  have h0b : ((zs.length : Int) == 0) = false := by rw [beq_eq_false_iff_ne]; omega
  clear h0
  obtain ⟨b, off, rfl, hbB, hcs⟩ := Hcell.out hpos
  have Hcs := Lib.hid hcs
  clear hcs Hcell
  go_enter Tryd.func6, Tryd.ntmps6
  go_wp2
  go_loopw [7, 8, 9, 26] (fun lv av nv iv wr => ∃ k : Nat, k ≤ zs.length ∧ av = .int .i64 (atK zs k) ∧ nv = .bool (decide (n ∈ lK zs k)) ∧ iv = .int .i64 (k : Int) ∧ Hid (Below w.heap.size w wr) ∧ Hid (OwnI wr w.heap.size lv (lK zs k))) (fun _ _ _ i _ => zs.length - (intOf i).toNat)
  case atStart => exact ⟨0, Nat.zero_le _, rfl, by simp [lK], rfl, Lib.hid (Below.refl _ _), Lib.hid (OwnI.nil _ _)⟩
  case round =>
    obtain ⟨k, hk, rfl, rfl, rfl, hb, ho⟩ := hrel
    obtain ⟨A', c', rfl, _⟩ := ho.out.form
    have hll := lK_len zs k
    by_cases hlt : k < zs.length
    · obtain ⟨z, hx⟩ : ∃ x, zs[k]? = some x := ⟨_, List.getElem?_eq_getElem hlt⟩
      have d1 : wr.cell? ⟨b, off + k, none⟩ = some (.int .u8 z) := (hb.out.cell (p := ⟨b, off + k, none⟩) hbB).trans (Hcs.out k z hx)
      have hzr := Hz.out z (List.mem_of_getElem? hx)
      have Hat := Lib.hid (atK_succ hx)
      have hal := atK_le zs k hk
      have Hin := Lib.hid (in_succ zs k n)
      have Hls := Lib.hid (lK_succ zs k)
      have hsz := hb.out.size
      have Ho := Lib.hid (show wr.ownsRow w.heap.size 3 1 (.slice A' k c') k ((lK zs k).map intV) by have := ho.out; unfold OwnI at this; rw [hll] at this; exact this)
      rw [hll]
      generalize atK zs k = a at *
      generalize hq : decide (n ∈ lK zs k) = q at *
      clear hx ho hq hll
      cases q
      · cases he : (a + (1 + z % 4) == n)
        · have Hin : Hid (decide (n ∈ lK zs (k + 1)) = false) := Lib.hid (by rw [Hin.out, Hat.out, he]; rfl)
          go_wp2_with (at_builtin; refine wpList_append_lies _ rfl _ _ 37 rfl w.heap.size 3 i0 (.int .i64 0) 1 8 Tryd.underlying37 hi0 hz0 hz1 hz2 rfl (by decide) _ _ _ rfl (World.ownsRow.alloc Ho.out _) ⟨wr.heap.size, 0, none⟩ 1 1 [intV (a + (1 + z % 4))] rfl rfl (cell_one_new _ _ _) (one_int _) (by decide) (by unfold maxLen; omega) (by omega) (by simp; omega) (wr.heap.size + 1) (by simp) ?_; intro g2 cap w2 hown2 hgrow hat hlt2; have Hown2 := Lib.hid hown2; have Hb3 := Lib.hid ((hb.out.alloc hsz _).grown hgrow (by simp; omega) (fun k hk => (World.ownsRow.lt Ho.out k hk).1)); clear hown2 hgrow)
          refine ⟨⟨k + 1, by omega, by rw [Hat.out], by rw [Hin.out], by go_num, Hb3, Lib.hid ?_⟩, by simp [intOf]; omega⟩
          rw [Hls.out, Hat.out]
          refine OwnI.push ?_
          rw [lK_len]
          exact Hown2.out
        · have Hin : Hid (decide (n ∈ lK zs (k + 1)) = true) := Lib.hid (by rw [Hin.out, Hat.out, he]; rfl)
          go_wp2_with (at_builtin; refine wpList_append_lies _ rfl _ _ 37 rfl w.heap.size 3 i0 (.int .i64 0) 1 8 Tryd.underlying37 hi0 hz0 hz1 hz2 rfl (by decide) _ _ _ rfl (World.ownsRow.alloc Ho.out _) ⟨wr.heap.size, 0, none⟩ 1 1 [intV (a + (1 + z % 4))] rfl rfl (cell_one_new _ _ _) (one_int _) (by decide) (by unfold maxLen; omega) (by omega) (by simp; omega) (wr.heap.size + 1) (by simp) ?_; intro g2 cap w2 hown2 hgrow hat hlt2; have Hown2 := Lib.hid hown2; have Hb3 := Lib.hid ((hb.out.alloc hsz _).grown hgrow (by simp; omega) (fun k hk => (World.ownsRow.lt Ho.out k hk).1)); clear hown2 hgrow)
          refine ⟨⟨k + 1, by omega, by rw [Hat.out], by rw [Hin.out], by go_num, Hb3, Lib.hid ?_⟩, by simp [intOf]; omega⟩
          rw [Hls.out, Hat.out]
          refine OwnI.push ?_
          rw [lK_len]
          exact Hown2.out
      · have Hin : Hid (decide (n ∈ lK zs (k + 1)) = true) := Lib.hid (by rw [Hin.out]; rfl)
        go_wp2_with (at_builtin; refine wpList_append_lies _ rfl _ _ 37 rfl w.heap.size 3 i0 (.int .i64 0) 1 8 Tryd.underlying37 hi0 hz0 hz1 hz2 rfl (by decide) _ _ _ rfl (World.ownsRow.alloc Ho.out _) ⟨wr.heap.size, 0, none⟩ 1 1 [intV (a + (1 + z % 4))] rfl rfl (cell_one_new _ _ _) (one_int _) (by decide) (by unfold maxLen; omega) (by omega) (by simp; omega) (wr.heap.size + 1) (by simp) ?_; intro g2 cap w2 hown2 hgrow hat hlt2; have Hown2 := Lib.hid hown2; have Hb3 := Lib.hid ((hb.out.alloc hsz _).grown hgrow (by simp; omega) (fun k hk => (World.ownsRow.lt Ho.out k hk).1)); clear hown2 hgrow)
        refine ⟨⟨k + 1, by omega, by rw [Hat.out], by rw [Hin.out], by go_num, Hb3, Lib.hid ?_⟩, by simp [intOf]; omega⟩
        rw [Hls.out, Hat.out]
        refine OwnI.push ?_
        rw [lK_len]
        exact Hown2.out
    · obtain rfl : k = zs.length := by omega
      have hin := lK_in (zs := zs) (k := zs.length) (Nat.le_refl _) hb1
      have hne : lK zs zs.length ≠ [] := fun e => by rw [e] at hll; simp at hll; omega
      have Hpar := Lib.hid (text_parse hne hin)
      have hsz : (textS (lK zs zs.length)).length ≤ 2200 := by
        have := textR_len (lK zs zs.length).length true (lK zs zs.length) hin
        unfold textS
        rw [hll] at this ⊢
        omega
      have Hpick := Lib.hid (pick_runs hin)
      have Hhas := Lib.hid (hasS_runs _ _ (Nat.le_refl _) hin n gr)
      have hlr : (runsR (lK zs zs.length).length (lK zs zs.length)).length ≤ 100 := Nat.le_trans (runsR_len _ _ (Nat.le_refl _)) (by omega)
      have Hrd := Lib.hid ho.out.rd
      have HT := Lib.hid (text_any _ (lK zs zs.length) wr ho.out.rd (by omega) (fun y hy => by have := hin y hy; omega) (HL.out.at hb.out).tab)
      generalize runsR (lK zs zs.length).length (lK zs zs.length) = R at *
      generalize decide (n ∈ lK zs zs.length) = q at *
      generalize lK zs zs.length = l at *
      have Hll := Lib.hid hll
      clear hin hne hll ho
      go_wp2_with fail
      refine HT.out.mono ?_
      rintro e w2 ⟨rfl, hb2⟩
      have HB2 := Lib.hid (hb.out.trans (hb2.mono hb.out.size))
      have Hrd2 := Lib.hid ((Hrd.out.below hb2 (Nat.le_refl _)).more hb2.size)
      have HP := Lib.hid (parse_any ⟨(textS l).toArray⟩ m w2 (by show (textS l).length ≤ _; omega) (HL.out.at HB2.out).max)
      rw [show (⟨(textS l).toArray⟩ : ByteArray).data.toList = textS l from rfl, Hpar.out] at HP
      clear hb2 HT Hrd Hpar hsz
      generalize textS l = T at *
      go_wp2_with fail
      refine HP.out.mono ?_
      rintro e w3 ⟨v, rfl, hown, hb3⟩
      obtain ⟨A3, c3, rfl, _⟩ := OwnE.form (E := 34) hown
      have HB3 := Lib.hid (HB2.out.trans (hb3.mono HB2.out.size))
      have Hrd3 := Lib.hid ((Hrd2.out.below hb3 (Nat.le_refl _)).more hb3.size)
      have Hv := Lib.hid hown.rd
      clear hb3 hown HP Hrd2
      go_wp2_with fail
      refine (has_any _ R n gr _ Hv.out (by omega)).mono ?_
      rw [Hhas.out]
      rintro e w4 ⟨rfl, hb4⟩
      have HB4 := Lib.hid (HB3.out.trans (hb4.mono HB3.out.size))
      have Hv4 := Lib.hid ((Hv.out.below hb4 (Nat.le_refl _)).more hb4.size)
      have Hrd4 := Lib.hid ((Hrd3.out.below hb4 (Nat.le_refl _)).more hb4.size)
      clear hb4 Hv Hrd3
      go_wp2_with fail
      refine (pick_any _ _ R l _ Hv4.out Hrd4.out (by omega) (by have := Hll.out; omega)).mono ?_
      rw [Hpick.out]
      rintro e w5 ⟨r5, rfl, hown5, hb5⟩
      obtain ⟨A5, c5, rfl, _⟩ := hown5.form
      have HB5 := Lib.hid (HB4.out.trans (hb5.mono HB4.out.size))
      clear hb5 hown5
      go_wp2_with fail
      refine (awake_at HL.out HB5.out).mono ?_
      rintro e w6 ⟨rfl, hb6⟩
      go_wp2
      go_ret
      exact ⟨rfl, hb6⟩
end Go.Proofs.YtdcdflhglcpleaaDoor.SP

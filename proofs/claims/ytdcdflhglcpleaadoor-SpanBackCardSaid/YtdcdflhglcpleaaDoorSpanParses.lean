/- The law SpanParses: it returns true. Conditions: that the cell of the library's MaxLen holds some int, and its table of powers lies as its text lays it. -/
import Derived.Test.YtdcdflhglcpleaaDoorSpanAwake
import Derived.Test.YtdcdflhglcpleaaDoorSpanRefParse
namespace Go.Proofs.YtdcdflhglcpleaaDoor.SP
open Go.RowKit Mailsack MM BU

/-- the world in which the library's two variables lie as they should -/
structure Lib2 (m : Int) (w : World) : Prop where
  max : w.cell? ⟨0, 0, none⟩ = some (.int .i64 m)
  tab : Tab w
theorem Lib2.at {m : Int} {w W : World} (h : Lib2 m w) (hb : Below w.heap.size w W) : Lib2 m W :=
  ⟨(hb.cell (World.block_lt_of_cell? w _ h.max)).trans h.max, Lib.tabBelow_of_tabIs h.tab W hb⟩
theorem awake_at {m : Int} {w W : World} (h : Lib2 m w) (hb : Below w.heap.size w W) :
    Calls Tryd.prog 8 #[] W fun e w' => e = .returned (.bool true) ∧ Below w.heap.size w w' :=
  (awake_any m W (h.at hb).max (h.at hb).tab).mono fun _ _ k => ⟨k.1, hb.trans (k.2.mono hb.size)⟩

set_option maxHeartbeats 2000000 in
set_option maxRecDepth 100000 in
theorem parses_any (s : ByteArray) (m : Int) (w : World) (htab : Tab w) (hs : s.size ≤ 9223372036854775807) (hm : w.cell? ⟨0, 0, none⟩ = some (.int .i64 m)) :
    Calls Tryd.prog 3 #[.string s] w fun e w' => e = .returned (.bool true) ∧ Below w.heap.size w w' := by
  have HL : Hid (Lib2 m w) := Lib.hid ⟨hm, htab⟩
  by_cases hbig : 1024 < s.size
  · clear htab hm
    go_enter Tryd.func3, Tryd.ntmps3
    go_wp2_with fail
    refine (awake_at HL.out (Below.refl _ _)).mono ?_
    rintro e w2 ⟨rfl, hb2⟩
    go_wp2
    go_ret
    exact ⟨rfl, hb2⟩
  · have HP := Lib.hid (parse_any s m w (by omega) hm)
    have HR := Lib.hid (fun W => refParse_any s W (by omega))
    clear htab hm
    cases hp : parseS s.data.toList with
    | none =>
      rw [hp] at HP HR
      clear hp
      go_enter Tryd.func3, Tryd.ntmps3
      go_wp2_with fail
      refine HP.out.mono ?_
      rintro e w2 ⟨rfl, hb2⟩
      have HB2 := Lib.hid hb2
      clear hb2
      go_wp2_with fail
      refine (HR.out _).mono ?_
      rintro e w3 ⟨rfl, hb3⟩
      have HB3 := Lib.hid (HB2.out.trans (hb3.mono HB2.out.size))
      clear hb3
      go_wp2_with fail
      refine (awake_at HL.out HB3.out).mono ?_
      rintro e w4 ⟨rfl, hb4⟩
      go_wp2
      go_ret
      exact ⟨rfl, hb4⟩
    | some L =>
      have hL : L.length ≤ 1025 := by
        unfold parseS at hp
        split at hp
        · injection hp with hp
          rw [← hp, List.length_map]
          have := splitC_len 44 s.data.toList
          rw [size_list] at this
          omega
        · cases hp
      rw [hp] at HP HR
      clear hp
      go_enter Tryd.func3, Tryd.ntmps3
      go_wp2_with fail
      refine HP.out.mono ?_
      rintro e w2 ⟨v, rfl, hown, hb2⟩
      obtain ⟨A, c, rfl, _⟩ := OwnE.form (E := 34) hown
      have HB2 := Lib.hid hb2
      have Hv := Lib.hid hown.rd
      clear hb2 hown HP
      go_wp2_with fail
      refine (HR.out _).mono ?_
      rintro e w3 ⟨u, rfl, hown3, hb3⟩
      obtain ⟨A3, c3, rfl, _⟩ := hown3.form
      have HB3 := Lib.hid (HB2.out.trans (hb3.mono HB2.out.size))
      have Hu := Lib.hid hown3.rd
      have Hv3 := Lib.hid ((Hv.out.below hb3 (Nat.le_refl _)).more hb3.size)
      clear hb3 hown3 HR Hv
      go_wp2_with fail
      refine (refs_any _ L _ Hv3.out (by omega)).mono ?_
      rintro e w4 ⟨x, rfl, hown4, hb4⟩
      obtain ⟨A4, c4, rfl, _⟩ := hown4.form
      have HB4 := Lib.hid (HB3.out.trans (hb4.mono HB3.out.size))
      have Hx := Lib.hid hown4.rd
      have Hu4 := Lib.hid ((Hu.out.below hb4 (Nat.le_refl _)).more hb4.size)
      clear hb4 hown4 Hv3 Hu
      go_wp2_with fail
      go_loopw [48] (fun i wr => ∃ k : Nat, k ≤ L.length ∧ i = .int .i64 k ∧ Hid (Below w4.heap.size w4 wr)) (fun i _ => L.length - (intOf i).toNat)
      case atStart => exact ⟨0, Nat.zero_le _, rfl, Lib.hid (Below.refl _ _)⟩
      case round =>
        obtain ⟨k, hk, rfl, hb⟩ := hrel
        by_cases hlt : k < L.length
        · obtain ⟨r, hr⟩ : ∃ r, L[k]? = some r := ⟨_, List.getElem?_eq_getElem hlt⟩
          obtain ⟨x, y⟩ := r
          obtain ⟨A', c', e9, _, hcx⟩ := Hx.out
          obtain ⟨b1, o1, rfl, hb1, hc1⟩ := hcx (by omega)
          injection e9 with e9 _ _
          subst e9
          obtain ⟨A', c', e9, _, hcu⟩ := Hu4.out
          obtain ⟨b2, o2, rfl, hb2, hc2⟩ := hcu (by omega)
          injection e9 with e9 _ _
          subst e9
          have d1 := Lib.hid ((hb.out.cell (p := ⟨b1, o1 + k * 2, none⟩) hb1).trans (hc1 k _ hr).1)
          have d2 := Lib.hid ((hb.out.cell (p := ⟨b1, o1 + k * 2 + 1, none⟩) hb1).trans (hc1 k _ hr).2)
          have d3 := Lib.hid ((hb.out.cell (p := ⟨b2, o2 + k * 2, none⟩) hb2).trans (hc2 k _ hr).1)
          have d4 := Lib.hid ((hb.out.cell (p := ⟨b2, o2 + k * 2 + 1, none⟩) hb2).trans (hc2 k _ hr).2)
          have HB1 := Lib.hid (Nat.lt_of_lt_of_le hb1 hb.out.size)
          have HB2' := Lib.hid (Nat.lt_of_lt_of_le hb2 hb.out.size)
          clear hcx hcu hc1 hc2 hr hb1 hb2
          go_upto_region 13 with fail
          refine RG.wp_region_det (fun W => Hid (Below wr.heap.size wr W)) (by kernel_rfl) (by kernel_rfl) (Lib.hid (Below.refl _ _).drew) ?_
          iterate 9
            apply RG.wpDet_cons
            · intro w9 hw9
              have k0 := (hw9.out.cell (p := ⟨b1, o1 + k * 2, none⟩) HB1.out).trans d1.out
              have k1 := (hw9.out.cell (p := ⟨b1, o1 + k * 2 + 1, none⟩) HB1.out).trans d2.out
              have k2 := (hw9.out.cell (p := ⟨b2, o2 + k * 2, none⟩) HB2'.out).trans d3.out
              have k3 := (hw9.out.cell (p := ⟨b2, o2 + k * 2 + 1, none⟩) HB2'.out).trans d4.out
              repeat go_step
              with_reducible refine RG.only_mk ?_
              exact hw9
            · rfl
          refine RG.wpDet_nil (fun w9 hw9 => ?_)
          have hb9 := Lib.hid (hb.out.trans (hw9.out.mono hb.out.size))
          clear hw9 d1 d2 d3 d4
          go_wp2
          exact ⟨⟨k + 1, by omega, by go_num, hb9⟩, by simp [intOf]; omega⟩
        · have hb9 := Lib.hid (HB4.out.trans (hb.out.mono HB4.out.size))
          go_wp2_with fail
          refine (awake_at HL.out hb9.out).mono ?_
          rintro e w5 ⟨rfl, hb5⟩
          go_wp2
          go_ret
          exact ⟨rfl, hb5⟩
end Go.Proofs.YtdcdflhglcpleaaDoor.SP

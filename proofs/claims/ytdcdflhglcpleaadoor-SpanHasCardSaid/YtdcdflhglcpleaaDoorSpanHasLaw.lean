/- The law SpanHas: it returns true. Conditions: that the slices read as ranges and numbers, that the cell of the library's MaxLen holds some int, and its table of powers lies as its text lays it. -/
import Derived.Test.YtdcdflhglcpleaaDoorSpanPicks
import Derived.Deep.RegionHeld3
import Derived.Deep.Cut
import Derived.Deep.DeepCutAuto
namespace Go.Proofs.YtdcdflhglcpleaaDoor.SP
open Go.RowKit Mailsack MM BU

structure HCut (wr : World) (q : Bool) (v : Value) (wx : World) : Prop where
  val : v = .bool q
  bel : Below wr.heap.size wr wx
theorem filt_snoc {ns : List Int} {f : Int → Bool} {k : Nat} {x : Int} (h : ns[k]? = some x) : (ns.take (k + 1)).filter f = (ns.take k).filter f ++ if f x then [x] else [] := by
  rw [take_snoc' h, List.filter_append]; congr 1; simp [List.filter_cons]
theorem filt_at {ns : List Int} {f : Int → Bool} {k : Nat} {x : Int} (h : ns[k]? = some x) (hf : f x = true) : (ns.filter f)[((ns.take k).filter f).length]? = some x := by
  have e : ns.filter f = (ns.take (k + 1)).filter f ++ (ns.drop (k + 1)).filter f := by rw [← List.filter_append, List.take_append_drop]
  rw [e, filt_snoc h, if_pos hf, List.append_assoc, List.getElem?_append_right (Nat.le_refl _)]
  simp
theorem filt_le (ns : List Int) (f : Int → Bool) (k : Nat) : ((ns.take k).filter f).length ≤ k := Nat.le_trans (List.length_filter_le _ _) (by rw [List.length_take]; omega)

set_option maxHeartbeats 4000000 in
set_option maxRecDepth 100000 in
theorem hasLaw_any (v u : Value) (L : List (Int × Int)) (ns : List Int) (n gr : Int) (m : Int) (w : World) (hv : RdR w w.heap.size v L) (hu : RdI w w.heap.size u ns) (hlen : L.length ≤ 9223372036854775807) (hnl : ns.length ≤ 9223372036854775807) (htab : Tab w) (hm : w.cell? ⟨0, 0, none⟩ = some (.int .i64 m)) :
    Calls Tryd.prog 5 #[v, .int .i64 n, .int .i64 gr, u] w fun e w' => e = .returned (.bool true) ∧ Below w.heap.size w w' := by
  have HL : Hid (Lib2 m w) := Lib.hid ⟨hm, htab⟩
  clear htab hm
  have HV := Lib.hid hv
  have HU := Lib.hid hu
  obtain ⟨A, c, rfl, hc, _⟩ := hv
  obtain ⟨A1, c1, rfl, hc1, hcell⟩ := hu
  have Hcell := Lib.hid hcell
  clear hcell
  by_cases hbig : 100 < L.length
  · go_enter Tryd.func5, Tryd.ntmps5
    go_wp2_with fail
    refine (awake_at HL.out (Below.refl _ _)).mono ?_
    rintro e w2 ⟨rfl, hb2⟩
    go_wp2
    go_ret
    exact ⟨rfl, hb2⟩
  have hb1 : L.length ≤ 100 := by omega
  clear hbig
  by_cases hbig : 100 < ns.length
  · go_enter Tryd.func5, Tryd.ntmps5
    go_wp2_with fail
    refine (awake_at HL.out (Below.refl _ _)).mono ?_
    rintro e w2 ⟨rfl, hb2⟩
    go_wp2
    go_ret
    exact ⟨rfl, hb2⟩
  · have hb2 : ns.length ≤ 100 := by omega
    clear hbig
    have HP := Lib.hid (fun W (hW : Below w.heap.size w W) => pick_any _ _ L ns W ((HV.out.below hW (Nat.le_refl _)).more hW.size) ((HU.out.below hW (Nat.le_refl _)).more hW.size) (by omega) (by omega))
    go_enter Tryd.func5, Tryd.ntmps5
    go_wp2_with fail
    refine (has_any _ L n gr _ HV.out (by omega)).mono ?_
    rintro e w2 ⟨rfl, hbw2⟩
    have HB2 := Lib.hid hbw2
    clear hbw2
    go_wp2_with fail
    refine (refs_any _ L _ ((HV.out.below HB2.out (Nat.le_refl _)).more HB2.out.size) (by omega)).mono ?_
    rintro e w3 ⟨r3, rfl, hown3, hb3⟩
    have HR3 := Lib.hid hown3.rd
    have HB3 := Lib.hid (HB2.out.trans (hb3.mono HB2.out.size))
    obtain ⟨A3, c3, rfl, _⟩ := hown3.form
    clear hb3 hown3
    go_wp2_with fail
    refine (refHas_any _ L n gr _ HR3.out (by omega)).mono ?_
    rintro e w4 ⟨rfl, hb4⟩
    have HB4 := Lib.hid (HB3.out.trans (hb4.mono HB3.out.size))
    clear hb4 HR3
    go_wp2_with fail
    refine (HP.out _ HB4.out).mono ?_
    rintro e w5 ⟨r5, rfl, hown5, hb5⟩
    have HR5 := Lib.hid hown5.rd
    have HB5 := Lib.hid (HB4.out.trans (hb5.mono HB4.out.size))
    obtain ⟨A5, c5, rfl, _⟩ := hown5.form
    clear hb5 hown5 HP
    have hpl : (pickS L ns).length ≤ ns.length := (pick_sub L ns).length_le
    generalize hf : (fun n => hasS L n (lastI ns)) = f at *
    have hpf : pickS L ns = ns.filter f := by unfold pickS; rw [hf]
    have Hfx := Lib.hid (show ∀ x, hasS L x (lastI ns) = f x from fun x => by rw [← hf])
    rw [hpf] at hpl HR5 ⊢
    clear hpf hf
    go_wp2_with fail
    go_loopw [10, 37] (fun av iv wr => ∃ k : Nat, k ≤ ns.length ∧ av = .int .i64 (((ns.take k).filter f).length : Int) ∧ iv = .int .i64 (k : Int) ∧ Hid (Below w5.heap.size w5 wr)) (fun _ i _ => ns.length - (intOf i).toNat)
    case atStart => exact ⟨0, Nat.zero_le _, rfl, rfl, Lib.hid (Below.refl _ _)⟩
    case round =>
      obtain ⟨k, hk, rfl, rfl, hb⟩ := hrel
      have hfl := filt_le ns f k
      by_cases hlt : k < ns.length
      · obtain ⟨x, hx⟩ : ∃ x, ns[k]? = some x := ⟨_, List.getElem?_eq_getElem hlt⟩
        obtain ⟨b, off, rfl, hbB, hcs⟩ := Hcell.out (by omega)
        have HBr := Lib.hid (HB5.out.trans (hb.out.mono HB5.out.size))
        have q0 : wr.cell? ⟨b, off + k, none⟩ = some (.int .i64 x) := (HBr.out.cell (p := ⟨b, off + k, none⟩) hbB).trans (hcs k x hx)
        have hq1 := (HBr.out.cell (p := ⟨b, off + (ns.length - 1), none⟩) hbB).trans (hcs _ _ (last_get (by omega)))
        have Hsn := Lib.hid (filt_snoc (f := f) hx)
        have Hat := Lib.hid (filt_at (f := f) hx)
        have Hq := Lib.hid (Hfx.out x)
        have HC := Lib.hid (show ∀ W, Below wr.heap.size wr W → W.cell? ⟨b, off + (ns.length - 1), none⟩ = some (.int .i64 (lastI ns)) from fun W hW => (hW.cell (World.block_lt_of_cell? wr _ hq1)).trans hq1)
        have HRf := Lib.hid (show ∀ W, Below wr.heap.size wr W → Calls Tryd.prog 11 #[.slice A L.length c] W fun e w' => ∃ u, e = .returned u ∧ OwnE 32 w' W.heap.size u L ∧ Below wr.heap.size wr w' from fun W hW => by
          have h1 := HBr.out.trans (hW.mono HBr.out.size)
          exact (refs_any _ L W ((HV.out.below h1 (Nat.le_refl _)).more h1.size) (by omega)).mono fun e w' ⟨u, h2, h3, h4⟩ => ⟨u, h2, h3, hW.trans (h4.mono hW.size)⟩)
        generalize lastI ns = g at *
        obtain ⟨jl, hjl⟩ : ∃ jl, jl = ns.length - 1 := ⟨_, rfl⟩
        rw [← hjl] at HC
        have hji : (ns.length : Int) - 1 = (jl : Int) := by omega
        have hjb : (jl : Int) < (ns.length : Int) := by omega
        have hj0 : (0 : Int) ≤ (jl : Int) := by omega
        have hwr : IntKind.i64.wrap ((ns.length : Int) - 1) = (jl : Int) := by rw [hji]; simp [IntKind.wrap, IntKind.bits, IntKind.signed]; omega
        clear hjl hji
        have HB0 := Lib.hid (Below.refl wr.heap.size wr)
        clear hcs hx hq1
        go_upto_region 10 with fail
        go_cut [51] (fun v51 wx => Hid (HCut wr (!f x) v51 wx))
        case first =>
          go_region_held3 (fun W => W.cell? ⟨b, off + jl, none⟩ = some (.int .i64 g))
            (first | with_reducible exact HC.out _ HB0.out | with_reducible exact HC.out _ HB0.out.drew | go_keep)
            (first
              | (go_simp; go_at_call 11; refine (HRf.out _ HB0.out.drew).mono ?_; rintro e w6 ⟨u6, rfl, ho6, hb6⟩; obtain ⟨A6, c6, e6, _⟩ := ho6.form; subst e6; replace HB0 := Lib.hid hb6; have HO6 := Lib.hid ho6.rd; clear hb6 ho6)
              | (go_simp; go_at_call 13; refine (refHas_any _ L x g _ HO6.out (by omega)).mono ?_; rintro e w7 ⟨rfl, hb7⟩; rw [Hq.out]; replace HB0 := Lib.hid (HB0.out.trans (hb7.mono HB0.out.size)); clear hb7))
          all_goals (go_wp2_with fail; go_meet)
          all_goals exact Lib.hid ⟨rfl, HB0.out⟩
        case rest =>
          obtain ⟨rfl, hbel⟩ := hcut.out
          have HB9 := Lib.hid (hb.out.trans (hbel.mono hb.out.size))
          clear hcut hbel HB0 HRf HC q0 hwr
          cases hfx : f x
          · rw [hfx] at Hsn
            simp only [Bool.not_false]
            clear hfx
            go_wp2
            refine ⟨⟨k + 1, by omega, ?_, by go_num, HB9⟩, by simp [intOf]; omega⟩
            rw [Hsn.out]
            simp
          · rw [hfx] at Hsn
            have hat := Hat.out hfx
            have hal := (List.getElem?_eq_some_iff.1 hat).1
            obtain ⟨A', c', e9, _, hcx⟩ := HR5.out
            obtain ⟨b2, o2, rfl, hbb2, hcs2⟩ := hcx (by omega)
            injection e9 with e9 _ _
            subst e9
            have d1 := (HB9.out.cell (p := ⟨b2, o2 + ((ns.take k).filter f).length, none⟩) hbb2).trans (hcs2 _ x hat)
            have Hlen : Hid (((ns.take (k + 1)).filter f).length = ((ns.take k).filter f).length + 1) := Lib.hid (by rw [Hsn.out]; simp)
            simp only [Bool.not_true]
            clear hfx hcx hcs2 hat Hsn Hat
            generalize ((ns.take k).filter f).length = a at *
            go_wp2
            exact ⟨⟨_, _, _, _, ⟨k + 1, by omega, rfl, rfl⟩, rfl, by rw [Hlen.out]; simp, rfl, by go_num⟩, by simp [intOf]; omega⟩
      · obtain rfl : k = ns.length := by omega
        rw [List.take_length]
        have hb9 := Lib.hid (HB5.out.trans (hb.out.mono HB5.out.size))
        go_wp2_with fail
        refine (awake_at HL.out hb9.out).mono ?_
        rintro e w6 ⟨rfl, hb6⟩
        go_wp2
        go_ret
        exact ⟨rfl, hb6⟩
end Go.Proofs.YtdcdflhglcpleaaDoor.SP

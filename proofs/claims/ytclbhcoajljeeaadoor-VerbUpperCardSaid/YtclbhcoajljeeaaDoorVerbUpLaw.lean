/- The law VerbUpper: it returns true. Conditions: the text's length. -/
import Derived.Test.YtclbhcoajljeeaaDoorVerbLaws
import Derived.Test.YtclbhcoajljeeaaDoorReg
import Derived.Deep.Cut
namespace Go.Proofs.YtclbhcoajljeeaaDoor.VB
open Go.RowKit Mailsack MM BU

theorem up_get (s : ByteArray) (k : Nat) (h : k < s.size) (h' : k < (⟨(upP s.data.toList).toArray⟩ : ByteArray).size) : (⟨(upP s.data.toList).toArray⟩ : ByteArray)[k] = up s[k] := by
  show (upP s.data.toList).toArray[k]'h' = _
  simp [upP]
  rfl

set_option maxHeartbeats 400000 in
set_option maxRecDepth 100000 in
theorem upper_law (s : ByteArray) (w : World) (hs : s.size ≤ 9223372036854775807) :
    Calls Tryd.prog 4 #[.string s] w fun e w' => e = .returned (.bool true) ∧ Below w.heap.size w w' := by
  by_cases h800 : 1024 < s.size
  · go_enter Tryd.func4, Tryd.ntmps4
    go_wp2_with fail
    refine (awake_any _).mono ?_
    rintro e w2 ⟨rfl, hb2⟩
    go_wp2
    go_ret
    exact ⟨rfl, hb2⟩
  · have E1 := fun W => upper_any s W (by omega)
    have E2 := fun W => upper_any ⟨(upP s.data.toList).toArray⟩ W (by show (upP s.data.toList).length < _; rw [upP_length, size_list]; omega)
    rw [show (⟨(upP s.data.toList).toArray⟩ : ByteArray).data.toList = upP s.data.toList from rfl, upP_upP] at E2
    have hz : (⟨(upP s.data.toList).toArray⟩ : ByteArray).size = s.size := by show (upP s.data.toList).length = _; rw [upP_length, size_list]
    have hg := fun k (h : k < s.size) => up_get s k h
    dsimp only [strV] at E1 E2
    generalize (⟨(upP s.data.toList).toArray⟩ : ByteArray) = u at E1 E2 hz hg
    have F1 := Lib.hid E1
    have F2 := Lib.hid E2
    have Hg := Lib.hid hg
    have e2 : (u.toList == u.toList) = true := beq_self_eq_true _
    have e2' : (u.toList != u.toList) = false := by simp
    have ez : ((u.size : Int) == (s.size : Int)) = true := by rw [hz]; simp
    have ez' : ((u.size : Int) != (s.size : Int)) = false := by rw [hz]; simp
    have Hz := Lib.hid hz
    clear E1 E2 hg hz
    go_enter Tryd.func4, Tryd.ntmps4
    go_wp2_with fail
    refine (F1.out _).mono ?_
    rintro e w2 ⟨rfl, hb2⟩
    have HB2 := Lib.hid hb2
    clear hb2
    go_wp2_with fail
    refine (F2.out _).mono ?_
    rintro e w3 ⟨rfl, hb3⟩
    have HB3 := Lib.hid (HB2.out.trans (hb3.mono HB2.out.size))
    clear hb3
    go_wp2_with fail
    go_loopw [24] (fun iv wr => ∃ k n : Nat, k ≤ s.size ∧ iv = .int .i64 k ∧ Hid (wr = w3.drewN n)) (fun iv _ => s.size - (intOf iv).toNat)
    case atStart => exact ⟨0, 0, Nat.zero_le _, rfl, Lib.hid rfl⟩
    case round =>
      obtain ⟨k, n, hk, rfl, hw⟩ := hrel
      have hw := hw.out
      subst hw
      by_cases hlt : k < s.size
      · have hlt2 : k < u.size := by rw [Hz.out]; exact hlt
        have hgk := Hg.out k hlt hlt2
        have h256 : s[k].toNat < 256 := UInt8.toNat_lt _
        by_cases hc : 97 ≤ s[k].toNat ∧ s[k].toNat ≤ 122
        · have hv : u[k].toNat = s[k].toNat - 32 := by rw [hgk]; exact up_small hc.1 hc.2
          obtain ⟨h1, h2⟩ := hc
          have g1 : u[k].toNat < 97 := by omega
          have g2 : ((u[k].toNat : Int) != (s[k].toNat : Int)) = true := by simp; omega
          have g2' : ((u[k].toNat : Int) == (s[k].toNat : Int)) = false := by simp; omega
          have g3 : ((u[k].toNat : Int) + 32 != (s[k].toNat : Int)) = false := by simp; omega
          have g3' : ((u[k].toNat : Int) + 32 == (s[k].toNat : Int)) = true := by simp; omega
          have g4 : (u[k].toNat : Int) + 32 < 256 := by omega
          have d1 : decide ((97 : Int) ≤ (u[k].toNat : Int)) = false := by simp; omega
          clear hgk hv
          go_upto_region 9 with fail
          refine RG.wp_region_det (fun W => Hid (W = w3.drewN (n + 1))) (by kernel_rfl) (by kernel_rfl) (Lib.hid rfl) ?_
          iterate 29
            apply RG.wpDet_cons
            · intro w9 hw9
              repeat go_step
              with_reducible refine RG.only_mk ?_
              exact hw9
            · rfl
          refine RG.wpDet_nil (fun w9 hw9 => ?_)
          have hw9 := hw9.out
          subst hw9
          go_wp2
          go_roundw
          case rel => exact ⟨k + 1, _, by omega, by go_num, Lib.hid rfl⟩
          case measure => simp [intOf]; omega
        · have hv : u[k].toNat = s[k].toNat := by rw [hgk, up_other hc]
          have g2 : ((u[k].toNat : Int) != (s[k].toNat : Int)) = false := by simp; omega
          have g2' : ((u[k].toNat : Int) == (s[k].toNat : Int)) = true := by simp; omega
          have hc' : u[k].toNat < 97 ∨ 122 < u[k].toNat := by omega
          clear hgk hv hc
          rcases hc' with hc' | hc'
          · have d1 : decide ((97 : Int) ≤ (u[k].toNat : Int)) = false := by simp; omega
            go_upto_region 9 with fail
            refine RG.wp_region_det (fun W => Hid (W = w3.drewN (n + 1))) (by kernel_rfl) (by kernel_rfl) (Lib.hid rfl) ?_
            iterate 29
              apply RG.wpDet_cons
              · intro w9 hw9
                repeat go_step
                with_reducible refine RG.only_mk ?_
                exact hw9
              · rfl
            refine RG.wpDet_nil (fun w9 hw9 => ?_)
            have hw9 := hw9.out
            subst hw9
            go_wp2
            go_roundw
            case rel => exact ⟨k + 1, _, by omega, by go_num, Lib.hid rfl⟩
            case measure => simp [intOf]; omega
          · have d1 : decide ((97 : Int) ≤ (u[k].toNat : Int)) = true := by simp; omega
            have d2 : decide ((u[k].toNat : Int) ≤ 122) = false := by simp; omega
            go_upto_region 9 with fail
            refine RG.wp_region_det (fun W => Hid (W = w3.drewN (n + 1))) (by kernel_rfl) (by kernel_rfl) (Lib.hid rfl) ?_
            iterate 29
              apply RG.wpDet_cons
              · intro w9 hw9
                repeat go_step
                with_reducible refine RG.only_mk ?_
                exact hw9
              · rfl
            refine RG.wpDet_nil (fun w9 hw9 => ?_)
            have hw9 := hw9.out
            subst hw9
            go_wp2
            go_roundw
            case rel => exact ⟨k + 1, _, by omega, by go_num, Lib.hid rfl⟩
            case measure => simp [intOf]; omega
      · have hlt2 : ¬ k < u.size := by rw [Hz.out]; exact hlt
        go_wp2_with fail
        refine (awake_any _).mono ?_
        rintro e w6 ⟨rfl, hb6⟩
        go_wp2
        go_ret
        exact ⟨rfl, (below_drewN HB3.out n).trans (hb6.mono HB3.out.size)⟩
end Go.Proofs.YtclbhcoajljeeaaDoor.VB

/- The walk of the statement PartOne: the answer is true. Conditions: the cell of the library's MaxLen holds some int; lengths. -/
import Derived.Test.YtgdhddkhnpcdmaaDoorPartOnePlain
import Derived.Test.YtgdhddkhnpcdmaaDoorPartWhole2
namespace Go.Proofs.YtgdhddkhnpcdmaaDoor.PT
open Go.RowKit Mailsack MM

set_option maxHeartbeats 4000000 in
set_option maxRecDepth 100000 in
theorem one_law (n v o : ByteArray) (hn : n.size ≤ 9223372036854775807) (hv : v.size ≤ 9223372036854775807) (ho : o.size ≤ 9223372036854775807) (m : Int) (w : World) (hm : w.cell? ⟨0, 0, none⟩ = some (.int .i64 m)) :
    Calls Tryd.prog 7 #[.string n, .string v, .string o] w fun e w' => e = .returned (.bool true) ∧ Below w.heap.size w w' := by
  have hw0 : 0 < w.heap.size := World.block_lt_of_cell? w _ hm
  have Hm := Lib.hid hm
  clear hm
  by_cases l1 : 512 < n.size
  · go_enter Tryd.func7, Tryd.ntmps7
    go_wp2_with fail
    refine (awake_any m _ Hm.out).mono ?_
    rintro e w2 ⟨rfl, hb2⟩
    go_wp2
    go_ret
    exact ⟨rfl, hb2⟩
  by_cases l2 : 512 < v.size
  · go_enter Tryd.func7, Tryd.ntmps7
    go_wp2_with fail
    refine (awake_any m _ Hm.out).mono ?_
    rintro e w2 ⟨rfl, hb2⟩
    go_wp2
    go_ret
    exact ⟨rfl, hb2⟩
  by_cases l3 : 512 < o.size
  · go_enter Tryd.func7, Tryd.ntmps7
    go_wp2_with fail
    refine (awake_any m _ Hm.out).mono ?_
    rintro e w2 ⟨rfl, hb2⟩
    go_wp2
    go_ret
    exact ⟨rfl, hb2⟩
  have k1 : n.size ≤ 512 := by omega
  have k2 : v.size ≤ 512 := by omega
  have k3 : o.size ≤ 512 := by omega
  clear l1 l2 l3 hn hv ho
  by_cases hn0 : n.size = 0
  · have d1 : n.toList.isEmpty = true := by rw [ByteArray.toList_eq, List.isEmpty_iff, ← List.length_eq_zero_iff, size_list]; exact hn0
    clear hn0
    go_enter Tryd.func7, Tryd.ntmps7
    go_wp2_with fail
    refine (awake_any m _ Hm.out).mono ?_
    rintro e w2 ⟨rfl, hb2⟩
    go_wp2
    go_ret
    exact ⟨rfl, hb2⟩
  have hn0' : 0 < n.size := by omega
  have d1 := some_bytes n hn0'
  clear hn0
  go_enter Tryd.func7, Tryd.ntmps7
  go_wp2_with fail
  go_loop [36] (fun iv => ∃ k : Nat, k ≤ n.size ∧ iv = .int .i64 k ∧ Hid (∀ j x, j < k → n.data.toList[j]? = some x → 97 ≤ x.toNat ∧ x.toNat ≤ 122)) (fun iv => n.size - (intOf iv).toNat)
  case atStart => exact ⟨0, Nat.zero_le _, rfl, Lib.hid (fun j _ hj => absurd hj (Nat.not_lt_zero _))⟩
  case round =>
    obtain ⟨k, hk, rfl, hl⟩ := hrel
    by_cases hlt : k < n.size
    · have h256 : n[k].toNat < 256 := UInt8.toNat_lt _
      by_cases hc : 97 ≤ n[k].toNat ∧ n[k].toNat ≤ 122
      · have hl2 : Hid (∀ j x, j < k + 1 → n.data.toList[j]? = some x → 97 ≤ x.toNat ∧ x.toNat ≤ 122) := Lib.hid (fun j x hj hx => by
          by_cases e : j = k
          · subst e; rw [get_data n j hlt] at hx; injection hx with hx; rw [← hx]; exact hc
          · exact hl.out j x (by omega) hx)
        obtain ⟨hc1, hc2⟩ := hc
        go_wp2
        go_round
        case rel => exact ⟨k + 1, by omega, by go_num, hl2⟩
        case measure => simp [intOf]; omega
      · have hc' : n[k].toNat < 97 ∨ 122 < n[k].toNat := by omega
        clear hc
        rcases hc' with hc' | hc'
        all_goals
          go_wp2_with fail
          refine (awake_any m _ Hm.out).mono ?_
          rintro e w2 ⟨rfl, hb2⟩
          go_wp2
          go_ret
          exact ⟨rfl, hb2⟩
    · have hks : k = n.size := by omega
      have HL : Hid (letters n.data.toList) := Lib.hid (all_upto (fun j x hj hx => hl.out j x (by omega) hx))
      clear hks hl
      go_wp2_with fail
      go_loop [53] (fun iv => ∃ k : Nat, k ≤ v.size ∧ iv = .int .i64 k ∧ Hid (∀ j x, j < k → v.data.toList[j]? = some x → x ≠ 13)) (fun iv => v.size - (intOf iv).toNat)
      case atStart => exact ⟨0, Nat.zero_le _, rfl, Lib.hid (fun j _ hj => absurd hj (Nat.not_lt_zero _))⟩
      case round =>
        obtain ⟨k', hk', rfl, hv⟩ := hrel
        by_cases hlt' : k' < v.size
        · by_cases hc : v[k'] = 13
          · have b1 : ((v[k'].toNat : Int) == 13) = true := by rw [hc]; rfl
            clear hc
            go_wp2_with fail
            refine (awake_any m _ Hm.out).mono ?_
            rintro e w2 ⟨rfl, hb2⟩
            go_wp2
            go_ret
            exact ⟨rfl, hb2⟩
          · have b1 : ((v[k'].toNat : Int) == 13) = false := by rw [beq_eq_false_iff_ne]; intro e; exact hc ((byte_eq (by decide)).1 e)
            have hv2 : Hid (∀ j x, j < k' + 1 → v.data.toList[j]? = some x → x ≠ 13) := Lib.hid (fun j x hj hx => by
              by_cases e : j = k'
              · subst e; rw [get_data v j hlt'] at hx; injection hx with hx; rw [← hx]; exact hc
              · exact hv.out j x (by omega) hx)
            clear hc
            go_wp2
            go_round
            case rel => exact ⟨k' + 1, by omega, by go_num, hv2⟩
            case measure => simp [intOf]; omega
        · have HV : Hid (∀ x ∈ v.data.toList, x ≠ 13) := Lib.hid (all_upto (fun j x hj hx => hv.out j x (by omega) hx))
          clear hv
          have HH : Hid ((n ++ (⟨#[58]⟩ : ByteArray) ++ v ++ (⟨#[13, 10, 13, 10]⟩ : ByteArray)).data.toList = oneHead n.data.toList v.data.toList) := Lib.hid (by rw [data_app, data_app, data_app]; rfl)
          have hz : (n ++ (⟨#[58]⟩ : ByteArray) ++ v ++ (⟨#[13, 10, 13, 10]⟩ : ByteArray)).size = n.size + 1 + v.size + 4 := by rw [ByteArray.size_append, ByteArray.size_append, ByteArray.size_append]; rfl
          have hne : n.data.toList ≠ [] := by intro e; have := size_list n; rw [e] at this; simp at this; omega
          have E1 := fun w => field_any (n ++ (⟨#[58]⟩ : ByteArray) ++ v ++ (⟨#[13, 10, 13, 10]⟩ : ByteArray)) n m w (by rw [hz]; omega) (by omega)
          rw [HH.out, field_same HL.out hne HV.out] at E1
          have E2 := fun w => field_any (n ++ (⟨#[58]⟩ : ByteArray) ++ v ++ (⟨#[13, 10, 13, 10]⟩ : ByteArray)) o m w (by rw [hz]; omega) (by omega)
          rw [HH.out, field_other HL.out hne HV.out] at E2
          generalize (fieldP (fieldsP (linesP (oneHead n.data.toList v.data.toList))) o.data.toList).1 = ov at E2
          have b5 : (lowP o.data.toList == n.toList) = decide (lowP o.data.toList = n.data.toList) := by rw [ByteArray.toList_eq]; rw [Bool.eq_iff_iff]; simp
          generalize decide (lowP o.data.toList = n.data.toList) = q at E2 b5
          have E3 := Lib.hid (small_any o)
          have E4 := fun w => names_any (n ++ (⟨#[58]⟩ : ByteArray) ++ v ++ (⟨#[13, 10, 13, 10]⟩ : ByteArray)) m w (by rw [hz]; omega)
          rw [HH.out, fields_one HL.out hne HV.out] at E4
          replace E1 := Lib.hid E1
          replace E2 := Lib.hid E2
          replace E4 := Lib.hid E4
          have Hz := Lib.hid hz
          have big1 : ¬ 9223372036854775807 < n.size + 1 := by omega
          have big2 : ¬ 9223372036854775807 < n.size + 1 + v.size := by omega
          have big3 : ¬ 9223372036854775807 < n.size + 1 + v.size + 4 := by omega
          clear hz hne
          go_wp2_with fail
          refine (E1.out _ Hm.out).mono ?_
          rintro e w3 ⟨rfl, hb3⟩
          have HB3 := Lib.hid hb3
          clear hb3
          go_wp2_with fail
          refine (E2.out _ ((HB3.out.cell hw0).trans Hm.out)).mono ?_
          rintro e w4 ⟨rfl, hb4⟩
          have HB4 := Lib.hid (HB3.out.trans (hb4.mono HB3.out.size))
          clear hb4 HB3
          go_wp2_with fail
          go_loop [14] (fun av => ∃ a : Nat, a ≤ v.size ∧ av = .int .i64 a ∧ Hid (∀ j x, j < a → v.data.toList[j]? = some x → blk x = true)) (fun av => v.size - (intOf av).toNat)
          case atStart => exact ⟨0, Nat.zero_le _, rfl, Lib.hid (fun j _ hj => absurd hj (Nat.not_lt_zero _))⟩
          case round =>
            obtain ⟨a, hav, rfl, ha⟩ := hrel
            by_cases hlt3 : a < v.size
            · have hbk := blk_get v a hlt3
              cases hc : blk (v[a])
              · have h2 : Hid (∀ x, v.data.toList[a]? = some x → blk x = true → False) := Lib.hid (fun x hx hb => by
                  rw [get_data v a hlt3] at hx; injection hx with hx; rw [← hx, hc] at hb; cases hb)
                rw [hc] at hbk
                have hq : ((v[a].toNat : Int) == 32) = false ∧ ((v[a].toNat : Int) == 9) = false := by
                  have := hbk.symm
                  rwa [Bool.or_eq_false_iff] at this
                obtain ⟨q1, q2⟩ := hq
                clear hc hbk
                go_wp2_with fail
                go_loop [15] (fun bv => ∃ b : Nat, a ≤ b ∧ b ≤ v.size ∧ bv = .int .i64 b ∧ Hid (∀ j x, b ≤ j → v.data.toList[j]? = some x → blk x = true)) (fun bv => (intOf bv).toNat)
                case atStart => exact ⟨v.size, hav, Nat.le_refl _, rfl, Lib.hid (fun j x hj hx => absurd (List.getElem?_eq_some_iff.1 hx).1 (by rw [size_list]; omega))⟩
                case round =>
                  obtain ⟨b, hab, hbv, rfl, hb3⟩ := hrel
                  by_cases hlt4 : a < b
                  · have g1 : b - 1 < v.size := by omega
                    have hbk := blk_get v (b - 1) g1
                    have g2 : (0 : Int) ≤ (b : Int) - 1 := by omega
                    have g3 : (1 : Int) ≤ (b : Int) := by omega
                    have g4 : 1 ≤ b := by omega
                    cases hc : blk (v[b - 1])
                    · have Hc := Lib.hid hc
                      rw [hc] at hbk
                      have hq : ((v[b - 1].toNat : Int) == 32) = false ∧ ((v[b - 1].toNat : Int) == 9) = false := by
                        have := hbk.symm
                        rwa [Bool.or_eq_false_iff] at this
                      obtain ⟨q1, q2⟩ := hq
                      clear hc hbk
                      have hT := trim_places (v := v.data.toList) (a := a) (b := b) hab (by rw [size_list]; exact hbv) ha.out h2.out hb3.out (fun _ x hx => by rw [get_data v (b - 1) g1] at hx; injection hx with hx; rw [← hx]; exact Hc.out)
                      have b6 : (Lib.trimS v.data.toList [32, 9] == (v.extract a b).toList) = true := by
                        rw [ByteArray.toList_eq, ext_any, hT]; simp
                      have aI : (a : Int) ≤ (b : Int) := by omega
                      have bI : (b : Int) ≤ (v.size : Int) := by omega
                      clear hT
                      go_wp2_with fail
                      refine (E3.out _ (by omega)).mono ?_
                      rintro e w5 ⟨rfl, hb5⟩
                      have HB5 := Lib.hid (HB4.out.trans (hb5.mono HB4.out.size))
                      clear hb5
                      go_wp2_with fail
                      refine (E4.out _ ((HB5.out.cell hw0).trans Hm.out)).mono ?_
                      rintro e w6 ⟨A6, c6, rfl, hb6⟩
                      have HB6 := Lib.hid (HB5.out.trans (hb6.mono HB5.out.size))
                      clear hb6 HB5
                      go_wp2_with fail
                      refine (awake_any m _ ((HB6.out.cell hw0).trans Hm.out)).mono ?_
                      rintro e w7 ⟨rfl, hb7⟩
                      go_wp2
                      go_ret
                      exact ⟨rfl, HB6.out.trans (hb7.mono HB6.out.size)⟩
                    · have hb32 : Hid (∀ j x, b - 1 ≤ j → v.data.toList[j]? = some x → blk x = true) := Lib.hid (fun j x hj hx => by
                        by_cases e : j = b - 1
                        · subst e; rw [get_data v _ g1] at hx; injection hx with hx; rw [← hx]; exact hc
                        · exact hb3.out j x (by omega) hx)
                      rw [hc] at hbk
                      clear hc
                      cases q1 : ((v[b - 1].toNat : Int) == 32)
                      · have q2 : ((v[b - 1].toNat : Int) == 9) = true := by rw [q1] at hbk; exact hbk.symm
                        clear hbk
                        go_wp2
                        go_round
                        case rel => exact ⟨b - 1, by omega, by omega, by go_num, hb32⟩
                        case measure => simp [intOf]; omega
                      · clear hbk
                        go_wp2
                        go_round
                        case rel => exact ⟨b - 1, by omega, by omega, by go_num, hb32⟩
                        case measure => simp [intOf]; omega
                  · have hT := trim_places (v := v.data.toList) (a := a) (b := b) hab (by rw [size_list]; exact hbv) ha.out h2.out hb3.out (fun h => absurd h hlt4)
                    have b6 : (Lib.trimS v.data.toList [32, 9] == (v.extract a b).toList) = true := by
                      rw [ByteArray.toList_eq, ext_any, hT]; simp
                    have aI : (a : Int) ≤ (b : Int) := by omega
                    have bI : (b : Int) ≤ (v.size : Int) := by omega
                    clear hT
                    go_wp2_with fail
                    refine (E3.out _ (by omega)).mono ?_
                    rintro e w5 ⟨rfl, hb5⟩
                    have HB5 := Lib.hid (HB4.out.trans (hb5.mono HB4.out.size))
                    clear hb5
                    go_wp2_with fail
                    refine (E4.out _ ((HB5.out.cell hw0).trans Hm.out)).mono ?_
                    rintro e w6 ⟨A6, c6, rfl, hb6⟩
                    have HB6 := Lib.hid (HB5.out.trans (hb6.mono HB5.out.size))
                    clear hb6 HB5
                    go_wp2_with fail
                    refine (awake_any m _ ((HB6.out.cell hw0).trans Hm.out)).mono ?_
                    rintro e w7 ⟨rfl, hb7⟩
                    go_wp2
                    go_ret
                    exact ⟨rfl, HB6.out.trans (hb7.mono HB6.out.size)⟩
              · have ha2 : Hid (∀ j x, j < a + 1 → v.data.toList[j]? = some x → blk x = true) := Lib.hid (fun j x hj hx => by
                  by_cases e : j = a
                  · subst e; rw [get_data v _ hlt3] at hx; injection hx with hx; rw [← hx]; exact hc
                  · exact ha.out j x (by omega) hx)
                rw [hc] at hbk
                clear hc
                cases q1 : ((v[a].toNat : Int) == 32)
                · have q2 : ((v[a].toNat : Int) == 9) = true := by rw [q1] at hbk; exact hbk.symm
                  clear hbk
                  go_wp2
                  go_round
                  case rel => exact ⟨a + 1, by omega, by go_num, ha2⟩
                  case measure => simp [intOf]; omega
                · clear hbk
                  go_wp2
                  go_round
                  case rel => exact ⟨a + 1, by omega, by go_num, ha2⟩
                  case measure => simp [intOf]; omega
            · have h2 : Hid (∀ x, v.data.toList[a]? = some x → blk x = true → False) := Lib.hid (fun x hx _ => absurd (List.getElem?_eq_some_iff.1 hx).1 (by rw [size_list]; exact hlt3))
              go_wp2_with fail
              go_loop [15] (fun bv => ∃ b : Nat, a ≤ b ∧ b ≤ v.size ∧ bv = .int .i64 b ∧ Hid (∀ j x, b ≤ j → v.data.toList[j]? = some x → blk x = true)) (fun bv => (intOf bv).toNat)
              case atStart => exact ⟨v.size, hav, Nat.le_refl _, rfl, Lib.hid (fun j x hj hx => absurd (List.getElem?_eq_some_iff.1 hx).1 (by rw [size_list]; omega))⟩
              case round =>
                obtain ⟨b, hab, hbv, rfl, hb3⟩ := hrel
                by_cases hlt4 : a < b
                · exact absurd hlt4 (by omega)
                · have hT := trim_places (v := v.data.toList) (a := a) (b := b) hab (by rw [size_list]; exact hbv) ha.out h2.out hb3.out (fun h => absurd h hlt4)
                  have b6 : (Lib.trimS v.data.toList [32, 9] == (v.extract a b).toList) = true := by
                    rw [ByteArray.toList_eq, ext_any, hT]; simp
                  have aI : (a : Int) ≤ (b : Int) := by omega
                  have bI : (b : Int) ≤ (v.size : Int) := by omega
                  clear hT
                  go_wp2_with fail
                  refine (E3.out _ (by omega)).mono ?_
                  rintro e w5 ⟨rfl, hb5⟩
                  have HB5 := Lib.hid (HB4.out.trans (hb5.mono HB4.out.size))
                  clear hb5
                  go_wp2_with fail
                  refine (E4.out _ ((HB5.out.cell hw0).trans Hm.out)).mono ?_
                  rintro e w6 ⟨A6, c6, rfl, hb6⟩
                  have HB6 := Lib.hid (HB5.out.trans (hb6.mono HB5.out.size))
                  clear hb6 HB5
                  go_wp2_with fail
                  refine (awake_any m _ ((HB6.out.cell hw0).trans Hm.out)).mono ?_
                  rintro e w7 ⟨rfl, hb7⟩
                  go_wp2
                  go_ret
                  exact ⟨rfl, HB6.out.trans (hb7.mono HB6.out.size)⟩
end Go.Proofs.YtgdhddkhnpcdmaaDoor.PT

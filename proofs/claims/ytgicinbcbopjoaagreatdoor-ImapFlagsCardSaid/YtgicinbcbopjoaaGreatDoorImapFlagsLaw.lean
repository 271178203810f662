/- The law ImapFlags: it returns true. Conditions: a row of texts that a machine can count. -/
import Derived.Test.YtgicinbcbopjoaaGreatDoorImapAwake
import Derived.Test.YtgicinbcbopjoaaGreatDoorImapFlags4
namespace Go.Proofs.YtgicinbcbopjoaaGreatDoor.IM
open Go.RowKit MM BU Mailsack

set_option maxHeartbeats 4000000 in
set_option maxRecDepth 100000 in
theorem imapFlags_law (n : Int) (lv : Value) (L : List Bs) (w : World) (hl : RdS w w.heap.size lv L) (hs : L.length ≤ 9223372036854775807) (hL : ∀ x ∈ L, x.length ≤ 9223372036854775807) :
    Calls Tryz.prog 3 #[.int .i64 n, lv] w fun e w' => e = .returned (.bool true) ∧ Below w.heap.size w w' := by
  have HR := Lib.hid hl
  obtain ⟨A, c, rfl, hc, hcell⟩ := hl
  have Hc := Lib.hid hcell
  have HLs := Lib.hid hL
  have HAW := Lib.hid (fun W => awake_any W)
  clear hcell hL
  by_cases h20 : 20 < L.length
  · go_enter Tryz.func3, Tryz.ntmps3
    go_wp2_with fail
    refine (HAW.out _).mono ?_
    rintro e w1 ⟨rfl, hb1⟩
    go_wp2
    go_ret
    exact ⟨rfl, hb1⟩
  · go_enter Tryz.func3, Tryz.ntmps3
    go_wp2
    go_loop [17] (fun iv => ∃ k : Nat, k ≤ L.length ∧ iv = .int .i64 k ∧ Hid (∀ (j : Nat) x, j < k → L[j]? = some x → x.length ≤ 100)) (fun iv => L.length - (intOf iv).toNat)
    case atStart => exact ⟨0, Nat.zero_le _, rfl, Lib.hid (fun j x hj _ => by omega)⟩
    case round =>
      obtain ⟨k, hk, rfl, hr⟩ := hrel
      by_cases hlt : k < L.length
      · obtain ⟨b, off, rfl, hb, hcl⟩ := Hc.out (by omega)
        obtain ⟨x, hx⟩ : ∃ x, L[k]? = some x := ⟨_, List.getElem?_eq_getElem hlt⟩
        obtain ⟨xb, hxb⟩ : ∃ xb : ByteArray, (⟨x.toArray⟩ : ByteArray) = xb := ⟨_, rfl⟩
        have q : w.cell? ⟨b, off + k, none⟩ = some (.string xb) := by rw [← hxb]; exact hcl k x hx
        have hxm : xb.size ≤ 9223372036854775807 := by rw [← hxb]; exact HLs.out x (List.mem_of_getElem? hx)
        have hxl : x.length = xb.size := by rw [← hxb]; rfl
        clear hxb
        by_cases h100 : 100 < xb.size
        · clear hcl hx hxl
          go_wp2_with fail
          refine (HAW.out _).mono ?_
          rintro e w1 ⟨rfl, hb1⟩
          go_wp2
          go_ret
          exact ⟨rfl, hb1⟩
        · have hx100 : Hid (∀ (j : Nat) y, j < k + 1 → L[j]? = some y → y.length ≤ 100) := Lib.hid (fun j y hj hy => by
            by_cases e : j = k
            · subst e
              rw [hx] at hy
              injection hy with hy
              subst hy
              omega
            · exact hr.out j y (by omega) hy)
          clear hcl hx hxl
          go_wp2
          exact ⟨⟨k + 1, by omega, by go_num, hx100⟩, by simp [intOf]; omega⟩
      · have hall : ∀ x ∈ L, x.length ≤ 1000000 := fun x hx => by
          obtain ⟨j, hj⟩ := List.mem_iff_getElem?.1 hx
          have := hr.out j x (by have := (List.getElem?_eq_some_iff.1 hj).1; omega) hj
          omega
        have HF := Lib.hid (flagsOf_any (.slice A L.length c) L w HR.out hall (by omega))
        have HG := Lib.hid (fun (W : World) (h : Below w.heap.size w W) => rflagsOf_any (.slice A L.length c) L W ((HR.out.below h (Nat.le_refl _)).more h.size) hall (by omega))
        have H1 := Lib.hid (fun W => flags_any n W)
        have H2 := Lib.hid (fun W => rflags_any n W)
        clear hall
        obtain ⟨fb, hfb⟩ : ∃ fb : ByteArray, (⟨(flagsP n).toArray⟩ : ByteArray) = fb := ⟨_, rfl⟩
        unfold strV at H1 H2
        rw [hfb] at H1 H2
        have e1 : (fb.toList == fb.toList) = true := beq_self_eq_true _
        clear hfb
        obtain ⟨a1, a2, ha⟩ : ∃ (a1 : Int) (a2 : Bool), flOut (flagsOfP L 0) = .tuple #[.int .i64 a1, .bool a2] := by
          cases flagsOfP L 0 with
          | none => exact ⟨0, false, rfl⟩
          | some m => exact ⟨m, true, rfl⟩
        rw [ha] at HF HG
        have e2 : (a2 == a2) = true := beq_self_eq_true _
        have e3 : (a1 == a1) = true := beq_self_eq_true _
        clear ha
        go_wp2_with fail
        refine HF.out.mono ?_
        rintro e w1 ⟨rfl, hb1⟩
        have HB1 := Lib.hid hb1
        clear hb1
        go_wp2_with fail
        refine (HG.out _ HB1.out).mono ?_
        rintro e w2 ⟨rfl, hb2⟩
        have HB2 := Lib.hid (HB1.out.trans (hb2.mono HB1.out.size))
        clear hb2
        go_wp2_with fail
        refine (H1.out _).mono ?_
        rintro e w3 ⟨rfl, hb3⟩
        have HB3 := Lib.hid (HB2.out.trans (hb3.mono HB2.out.size))
        clear hb3
        go_wp2_with fail
        refine (H2.out _).mono ?_
        rintro e w4 ⟨rfl, hb4⟩
        have HB4 := Lib.hid (HB3.out.trans (hb4.mono HB3.out.size))
        clear hb4
        go_wp2_with fail
        refine (HAW.out _).mono ?_
        rintro e w5 ⟨rfl, hb5⟩
        have HB5 := Lib.hid (HB4.out.trans (hb5.mono HB4.out.size))
        clear hb5
        go_wp2
        go_ret
        exact ⟨rfl, HB5.out⟩
end Go.Proofs.YtgicinbcbopjoaaGreatDoor.IM

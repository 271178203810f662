/- A key of layer 20, read at a level. Conditions: lengths, and that the library's MaxLen holds some int. -/
import Derived.Test.YtkgngahmpafdhaaGreatDoorQueryKey2
import Derived.Deep.RegionHeld3
import Derived.Deep.DeepCutAuto
import Derived.Laws.EntriesVeiled
namespace Go.Proofs.YtkgngahmpafdhaaGreatDoor.QU
open Go.RowKit Mailsack MM PT

/-- what is said of key at a level: n levels are left -/
def KeyOK (q : Rg) (rb mb hi : Nat) (m : Int) (tab : List (Bs × Value)) (n : Nat) : Prop := ∀ (W : World) (ws : List Bs) (lv : Nat), lv + n = 17 → Env q rb mb hi m tab W → RdrAt rb mb W ws → Short ws →
  Calls Tryz.prog 10 #[.pointer (some ⟨rb, 0, none⟩), .int .i64 (lv : Int)] W (KPost q rb mb W (keyP n ws))
theorem keyP_short : ∀ (n : Nat) (l : List Bs) (k : QKey) (r : List Bs), keyP n l = some (k, r) → Short l → Short r := by
  intro n l k r h hs
  obtain ⟨x, hx⟩ : ∃ x, l = x ++ r := keyP_suffix n l k r h
  subst hx
  exact ⟨by have := hs.1; simp at this; omega, fun y hy => hs.2 y (List.mem_append_right _ hy)⟩
set_option maxHeartbeats 1000000 in
set_option maxRecDepth 100000 in
theorem not_any (q : Rg) (rb mb hi : Nat) (m : Int) (tab : List (Bs × Value)) (n : Nat) (IH : KeyOK q rb mb hi m tab n) (W : World) (r : List Bs) (lv : Nat) (hl : lv + (n + 1) = 17) (hE : Env q rb mb hi m tab W) (hr : RdrAt rb mb W r) (hs : Short r) :
    Calls Tryz.prog 29 #[.pointer (some ⟨rb, 0, none⟩), .int .i64 (lv : Int)] W (KPost q rb mb W ((keyP n r).map fun p => (.not p.1, p.2))) := by
  have E := IH W r (lv + 1) (by omega) hE hr hs
  rw [show ((lv + 1 : Nat) : Int) = (lv : Int) + 1 by simp] at E
  have E1 := Lib.hid E
  have hlt := hE.lt
  have hlv : lv ≤ 17 := by omega
  clear E IH hE hr
  cases hk : keyP n r with
  | none =>
    rw [hk] at E1
    clear hk
    go_enter Tryz.func29, Tryz.ntmps29
    go_wp2_with fail
    refine E1.out.mono ?_
    rintro e w2 ⟨hk2, v, hv, rfl⟩
    have HK := Lib.hid (hk2.trans (Kp.below ((Below.refl w2.heap.size w2).alloc (Nat.le_refl _) (.cells #[v] 44))))
    clear hk2
    rcases hv with rfl | ⟨id, caps, rfl⟩
    · go_wp2
      go_ret2
      exact ⟨HK.out, _, .inl rfl, rfl⟩
    · go_wp2
      go_ret2
      exact ⟨HK.out, _, .inl rfl, rfl⟩
  | some p =>
    obtain ⟨k, r2⟩ := p
    rw [hk] at E1
    clear hk
    go_enter Tryz.func29, Tryz.ntmps29
    go_wp2_with fail
    refine E1.out.mono ?_
    rintro e w2 ⟨hk2, v, rfl, hkey, hr2⟩
    obtain ⟨id, caps, rfl, hfn⟩ := hkey
    have HB := Lib.hid ((Below.refl w2.heap.size w2).alloc (Nat.le_refl _) (.cells #[.func (.func id) #[] caps] 44))
    have HK := Lib.hid (hk2.trans (Kp.below HB.out))
    have HR := Lib.hid (hr2.kept HB.out)
    have B2 := Lib.hid (blk_new w2 (.cells #[.func (.func id) #[] caps] 44))
    have HF := Lib.hid hfn
    have hz := hk2.size
    clear hr2 hk2 hfn
    go_wp2
    go_ret2
    refine ⟨HK.out, _, rfl, ⟨_, _, rfl, enters_of Tryz.func50 (by kernel_rfl) rfl, fun X hX v hg => ?_⟩, HR.out⟩
    exact not1_any _ q id caps (semQ k) w2 HF.out v X hg ((Kp.below HB.out).trans hX) (bx_kept B2.out hX (fun h => by unfold Rg.has at h; omega))

def orP (n : Nat) (r : List Bs) : Option (QKey × List Bs) := match keyP n r with
  | none => none
  | some (a, r1) => (keyP n r1).map fun p => (.or a p.1, p.2)
set_option maxHeartbeats 2000000 in
set_option maxRecDepth 100000 in
theorem or_any (q : Rg) (rb mb hi : Nat) (m : Int) (tab : List (Bs × Value)) (n : Nat) (IH : KeyOK q rb mb hi m tab n) (W : World) (r : List Bs) (lv : Nat) (hl : lv + (n + 1) = 17) (hE : Env q rb mb hi m tab W) (hr : RdrAt rb mb W r) (hs : Short r) :
    Calls Tryz.prog 30 #[.pointer (some ⟨rb, 0, none⟩), .int .i64 (lv : Int)] W (KPost q rb mb W (orP n r)) := by
  unfold orP
  have ec : ((lv + 1 : Nat) : Int) = (lv : Int) + 1 := by simp
  have E := IH W r (lv + 1) (by omega) hE hr hs
  rw [ec] at E
  have E1 := Lib.hid E
  have hlt := hE.lt
  have hlv : lv ≤ 17 := by omega
  have HE := Lib.hid hE
  have Hl := Lib.hid hl
  clear E hE hr hl
  cases hk : keyP n r with
  | none =>
    rw [hk] at E1
    clear hk ec
    go_enter Tryz.func30, Tryz.ntmps30
    go_wp2_with fail
    refine E1.out.mono ?_
    rintro e w2 ⟨hk2, v, hv, rfl⟩
    have HK := Lib.hid (hk2.trans (Kp.below ((Below.refl w2.heap.size w2).alloc (Nat.le_refl _) (.cells #[v] 44))))
    clear hk2
    rcases hv with rfl | ⟨id, caps, rfl⟩
    · go_wp2
      go_ret2
      exact ⟨HK.out, _, .inl rfl, rfl⟩
    · go_wp2
      go_ret2
      exact ⟨HK.out, _, .inl rfl, rfl⟩
  | some p =>
    obtain ⟨k, r1⟩ := p
    have hs1 := keyP_short n r k r1 hk hs
    rw [hk] at E1
    have Hec := Lib.hid ec
    clear hk ec
    simp only
    cases hk2 : keyP n r1 with
    | none =>
      have Hk2 := Lib.hid hk2
      clear hk2
      go_enter Tryz.func30, Tryz.ntmps30
      go_wp2_with fail
      refine E1.out.mono ?_
      rintro e w2 ⟨hk2, v, rfl, hkey, hr2⟩
      obtain ⟨id, caps, rfl, hfn⟩ := hkey
      have HB := Lib.hid ((Below.refl w2.heap.size w2).alloc (Nat.le_refl _) (.cells #[.func (.func id) #[] caps] 44))
      have HK := Lib.hid (hk2.trans (Kp.below HB.out))
      have E := IH _ r1 (lv + 1) (by have := Hl.out; omega) (HE.out.kept (HK.out.widen (.inr HE.out.inr))) (hr2.kept HB.out) hs1
      rw [Hec.out, Hk2.out] at E
      have E2 := Lib.hid E
      clear hr2 hk2 hfn E
      go_wp2_with fail
      refine E2.out.mono ?_
      rintro e w3 ⟨hk3, v, hv, rfl⟩
      have HK3 := Lib.hid ((HK.out.trans hk3).trans (Kp.below ((Below.refl w3.heap.size w3).alloc (Nat.le_refl _) (.cells #[v] 44))))
      clear hk3
      rcases hv with rfl | ⟨id3, caps3, rfl⟩
      · go_wp2
        go_ret2
        exact ⟨HK3.out, _, .inl rfl, rfl⟩
      · go_wp2
        go_ret2
        exact ⟨HK3.out, _, .inl rfl, rfl⟩
    | some p =>
      obtain ⟨j, r2⟩ := p
      have Hk2 := Lib.hid hk2
      clear hk2
      go_enter Tryz.func30, Tryz.ntmps30
      go_wp2_with fail
      refine E1.out.mono ?_
      rintro e w2 ⟨hk2, v, rfl, hkey, hr2⟩
      obtain ⟨id, caps, rfl, hfn⟩ := hkey
      have HB := Lib.hid ((Below.refl w2.heap.size w2).alloc (Nat.le_refl _) (.cells #[.func (.func id) #[] caps] 44))
      have HK := Lib.hid (hk2.trans (Kp.below HB.out))
      have E := IH _ r1 (lv + 1) (by have := Hl.out; omega) (HE.out.kept (HK.out.widen (.inr HE.out.inr))) (hr2.kept HB.out) hs1
      rw [Hec.out, Hk2.out] at E
      have E2 := Lib.hid E
      have B2 := Lib.hid (blk_new w2 (.cells #[.func (.func id) #[] caps] 44))
      have HF := Lib.hid hfn
      have hz := hk2.size
      clear hr2 hk2 hfn E
      go_wp2_with fail
      refine E2.out.mono ?_
      rintro e w3 ⟨hk3, v, rfl, hkey, hr3⟩
      obtain ⟨id3, caps3, rfl, hfn3⟩ := hkey
      have HB3 := Lib.hid ((Below.refl w3.heap.size w3).alloc (Nat.le_refl _) (.cells #[.func (.func id3) #[] caps3] 44))
      have HK3 := Lib.hid (hk3.trans (Kp.below HB3.out))
      have HR3 := Lib.hid (hr3.kept HB3.out)
      have B1 := Lib.hid (bx_kept B2.out (HK3.out.widen (.inr HE.out.inr)) (fun h => by unfold Rg.has at h; omega))
      have B3 := Lib.hid (blk_new w3 (.cells #[.func (.func id3) #[] caps3] 44))
      have HF3 := Lib.hid hfn3
      have hz3 := Nat.le_trans (show w2.heap.size + 1 ≤ (w2.alloc (.cells #[.func (.func id) #[] caps] 44)).heap.size by simp) hk3.size
      have HKK := Lib.hid (HK.out.trans HK3.out)
      have HF2 := Lib.hid (KeyFn.mk HF.out.ent (fun X hX => HF.out.run X (((Kp.below HB.out).trans (HK3.out.widen (.inr HE.out.inr))).trans hX)) : KeyFn q (w3.alloc (.cells #[.func (.func id3) #[] caps3] 44)) id caps (semQ k))
      have HF4 := Lib.hid (KeyFn.mk HF3.out.ent (fun X hX => HF3.out.run X ((Kp.below HB3.out).trans hX)) : KeyFn q (w3.alloc (.cells #[.func (.func id3) #[] caps3] 44)) id3 caps3 (semQ j))
      clear hr3 hk3 hfn3
      go_wp2
      go_ret2
      refine ⟨HKK.out, _, rfl, ⟨_, _, rfl, enters_of Tryz.func51 (by kernel_rfl) rfl, fun X hX v hg => ?_⟩, HR3.out⟩
      exact or1_any _ _ q id id3 caps caps3 (semQ k) (semQ j) _ HF2.out HF4.out v X hg hX (bx_kept B1.out hX (fun h => by unfold Rg.has at h; omega)) (bx_kept B3.out hX (fun h => by unfold Rg.has at h; omega))
end Go.Proofs.YtkgngahmpafdhaaGreatDoor.QU

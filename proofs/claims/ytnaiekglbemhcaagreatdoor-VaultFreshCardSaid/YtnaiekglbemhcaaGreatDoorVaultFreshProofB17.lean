/- Contracts of functions of the program. Conditions: those that each theorem states. -/
import Derived.Test.YtnaiekglbemhcaaGreatDoorVaultFreshProofB16
import Derived.Test.YtnaiekglbemhcaaGreatDoorVaultFreshProofB13
set_option maxHeartbeats 8000000
set_option maxRecDepth 100000
namespace Mailsack
theorem or_i64 (a b : Nat) (ha : a < 256) (hb : b < 256) : Go.bits .or .i64 (a : Int) ((b : Int) * 256) = (a : Int) + 256 * b := by
 have hx : b * 256 ||| a = b * 256 + a := by
  have := Nat.two_pow_add_eq_or_of_lt (i := 8) (b := a) (by omega) b
  rw [show 2 ^ 8 * b = b * 256 by omega] at this
  exact this.symm
 have h1 : (BitVec.ofInt 64 (a : Int)).toNat = a := by
  rw [BitVec.ofInt_natCast,BitVec.toNat_ofNat]; exact Nat.mod_eq_of_lt (by omega)
 have h2 : (BitVec.ofInt 64 ((b : Int) * 256)).toNat = b * 256 := by
  rw [show (b : Int) * 256 = ((b * 256 : Nat) : Int) by omega,BitVec.ofInt_natCast,BitVec.toNat_ofNat]; exact Nat.mod_eq_of_lt (by omega)
 show Go.IntKind.i64.wrap ((BitVec.ofInt 64 (a : Int) ||| BitVec.ofInt 64 ((b : Int) * 256)).toNat : Int) = _
 rw [BitVec.toNat_or,h1,h2,Nat.or_comm,hx,Go.IntKind.wrap_i64]
 omega
theorem xQ2 (s : ByteArray) (i : Nat) : yZ s i = (bN s.data.toList i : Int) := rfl
end Mailsack
namespace Go.Proofs.ST
open Go.RowKit Mailsack MM BB SH SV RK DS
structure DcM (w : World) (g : Nat) (t : Slot) (W : World) : Prop where
 o : W.heap[w.heap.size]? = some (wU noSlot)
 s : W.heap[g]? = some (wU t)
 bel : Below w.heap.size w W
 lt : w.heap.size < g
theorem xRr (s : ByteArray) (w : World) (hs : s.size = 64) :
  Calls Tryz.prog 94 #[.string s] w fun e w' => e = .returned (xGz (decP s.data.toList)) ∧ Below w.heap.size w w' := by
 have i0 := fun w => zU (P := Tryz.prog) Tryz.underlying9 s (0 : Int) 0 rfl (by omega) w
 have i1 := fun w => zU (P := Tryz.prog) Tryz.underlying9 s (1 : Int) 1 rfl (by omega) w
 have i2 := fun w => zU (P := Tryz.prog) Tryz.underlying9 s (2 : Int) 2 rfl (by omega) w
 have i3 := fun w => zU (P := Tryz.prog) Tryz.underlying9 s (3 : Int) 3 rfl (by omega) w
 have i4 := fun w => zU (P := Tryz.prog) Tryz.underlying9 s (4 : Int) 4 rfl (by omega) w
 have i5 := fun w => zU (P := Tryz.prog) Tryz.underlying9 s (5 : Int) 5 rfl (by omega) w
 rw [xQ2] at i0 i1 i2 i3 i4 i5
 have l0 := xS1 s.data.toList 0
 have l1 := xS1 s.data.toList 1
 have l2 := xS1 s.data.toList 2
 have l3 := xS1 s.data.toList 3
 have l4 := xS1 s.data.toList 4
 have l5 := xS1 s.data.toList 5
 have xO6 : Hid (decP s.data.toList = if xI1 s.data.toList = true then (if s.data.toList = kI (kQ s.data.toList) then kQ s.data.toList else noSlot) else noSlot) := hI' rfl
 have HOK : Hid (xI1 s.data.toList = (decide (bN s.data.toList 0 = 1) && decide (bN s.data.toList 1 ≤ 1) && decide (bN s.data.toList 2 < uH (bN s.data.toList 1)) && decide (bN s.data.toList 3 + 256 * bN s.data.toList 4 ≤ qA (bN s.data.toList 1)) && decide (1 ≤ bN s.data.toList 5) && decide (bN s.data.toList 5 ≤ 24))) := hI' rfl
 have HSL : Hid (kQ s.data.toList = ⟨true,bN s.data.toList 1,bN s.data.toList 2,bN s.data.toList 3 + 256 * bN s.data.toList 4,(s.data.toList.drop 6).take (bN s.data.toList 5)⟩) := hI' rfl
 have HOR := hI' (or_i64 _ _ l3 l4)
 generalize bN s.data.toList 0 = b0 at *
 generalize bN s.data.toList 1 = b1 at *
 generalize bN s.data.toList 2 = b2 at *
 generalize bN s.data.toList 3 = b3 at *
 generalize bN s.data.toList 4 = b4 at *
 generalize bN s.data.toList 5 = b5 at *
 obtain ⟨dv,hdv⟩ : ∃ dv,decP s.data.toList = dv := ⟨_,rfl⟩
 rw [hdv] at xO6 ⊢
 have HSZ := hI' hs
 clear hdv hs
 have HO0 := hI' (And.intro (xM w (wU noSlot)) ((Below.refl w.heap.size w).alloc (Nat.le_refl _) (wU noSlot)))
 go_enter Tryz.func94,Tryz.ntmps94
 go_upto_region 1 with fail
 generalize hw1 : w.alloc (.cells #[.bool false,.int .i64 0,.int .i64 0,.int .i64 0,.string ⟨#[]⟩] 140) = w1
 have HO1 : Hid (w1.heap[w.heap.size]? = some (wU noSlot) ∧ Below w.heap.size w w1) := hI' (by rw [← hw1]; exact HO0.out)
 clear hw1 HO0
 have hor := HOR.out
 obtain ⟨sz,hsz⟩ : ∃ sz : Nat,b3 + 256 * b4 = sz := ⟨_,rfl⟩
 rw [show (b3 : Int) + 256 * b4 = (sz : Int) by omega] at hor
 rw [hsz] at HOK HSL
 have HSB : Hid (sz ≤ 65535) := hI' (by omega)
 clear HOR hsz
 have hTT : qI ⟨true,b1,b2,sz,[]⟩ = [.bool true,.int .i64 b1,.int .i64 b2,.int .i64 sz,.string ⟨#[]⟩] := rfl
 have HTT := hI' hTT
 clear hTT
 refine RG.uU [16] [15] (fun L α W => Hid (W.heap[w.heap.size]? = some (wU noSlot) ∧ Below w.heap.size w W ∧ (L 15 = true → ∃ g,α 15 = .pointer (some ⟨g,0,none⟩) ∧ w.heap.size < g ∧ (L 16 = false → W.heap[g]? = some (wU noSlot)) ∧ (L 16 = true → W.heap[g]? = some (wU ⟨true,b1,b2,sz,[]⟩)))))
  (fun L L' α α' W hl ha h => hI' ⟨h.out.1,h.out.2.1,fun e15 => by
   have f15 : L 15 = true := by rw [hl 15 (by simp)]; exact e15
   rw [← ha 15 (by simp) f15,← hl 16 (by simp)]
   exact h.out.2.2 f15⟩) (by kernel_rfl) (by kernel_rfl) (by kernel_rfl) (hI' ⟨HO1.out.1,HO1.out.2.drew,fun e => (by cases e)⟩) ?_
 iterate 15
  apply RG.yL
  ·rfl
  ·rfl
  ·intro α L w9 h0 hcl xH hw9
   repeat go_step
   with_reducible exact RG.xB hw9
  ·intro α; rfl
 apply RG.kN
 ·rfl
 ·intro α L w9 h0 hcl xH hw9
  have h16 : L 16 = false := hcl.not 8 (i := 16) h0 (by kernel_rfl)
  refine ⟨.pointer (some ⟨w9.heap.size,0,none⟩),fun bv hbv => ?_⟩
  repeat go_step
  rw [← hbv]
  with_reducible refine RG.xB ?_
  exact hI' ⟨xP hw9.out.1 _,hw9.out.2.1.alloc hw9.out.2.1.size _,fun _ => ⟨w9.heap.size,by
   rw [show RG.xH0 α (0 + 1 + 1 + 1 + 1 + 1 + 1 + 1 + 1 + 1 + 1 + 1 + 1 + 1 + 1 + 1) bv 15 = bv from RG.uM _ _ _,hbv],xI hw9.out.1,fun _ => xM _ _,fun e => by
    have : L 16 = true := by simpa using e
    rw [h16] at this; cases this⟩⟩
 ·intro b α; rfl
 apply RG.xCj (v := undef)
 ·rfl
 ·rfl
 ·intro α L w9 h0 hcl xH hw9
  have h15 : L 15 = true := by
   have := xH.yes 8 (i := 16) (j := 15) (by simp) (by kernel_rfl)
   simpa using this
  obtain ⟨g,hg,hlt,hb,_⟩ := hw9.out.2.2 h15
  have hbg := hb h0
  rw [show α (0 + 1 + 1 + 1 + 1 + 1 + 1 + 1 + 1 + 1 + 1 + 1 + 1 + 1 + 1 + 1) = _ from hg]
  obtain ⟨o0,y0,f0,o1,y1,f1,o2,y2,f2,o3,y3,f3,o4,y4,f4,HB⟩ := xYp hbg hw9.out.2.1 (by omega) (.bool true) (.int .i64 b1) (.int .i64 b2) (.int .i64 sz) (.string ⟨#[]⟩) _ rfl
  have HSS := hI' (And.intro (uS (b := g) (l := [.bool true,.int .i64 b1,.int .i64 b2,.int .i64 sz,.string ⟨#[]⟩]) hbg rfl) (yQ (b := g) (g := w.heap.size) (by omega) [.bool true,.int .i64 b1,.int .i64 b2,.int .i64 sz,.string ⟨#[]⟩] 0 _ hw9.out.1))
  have HG := hI' (And.intro hg hlt)
  clear hg hlt hb hbg
  repeat go_step
  rw [← show α (0 + 1 + 1 + 1 + 1 + 1 + 1 + 1 + 1 + 1 + 1 + 1 + 1 + 1 + 1 + 1) = _ from HG.out.1]
  with_reducible refine RG.xB ?_
  exact hI' ⟨HSS.out.2,HB.out,fun _ => ⟨g,HG.out.1,HG.out.2,fun e => by simp at e,fun _ => HSS.out.1⟩⟩
 ·intro α; rfl
 refine RG.rY (fun α w9 hw9 => ?_)
 obtain ⟨g,hg,hlt,_,hb⟩ := hw9.out.2.2 rfl
 rw [show α (0 + 1 + 1 + 1 + 1 + 1 + 1 + 1 + 1 + 1 + 1 + 1 + 1 + 1 + 1 + 1) = _ from hg]
 have HD := hI' (show DcM w g ⟨true,b1,b2,sz,[]⟩ w9 from ⟨hw9.out.1,hb rfl,hw9.out.2.1,hlt⟩)
 clear hg hlt hb hw9 HO1 hor HTT
 go_wp2_with fail
 have HBL := hI' (fun W => xBn b1 W)
 have HCP := hI' (fun W => pW b1 W)
 have HCL : Hid (qA b1 ≤ 1024 ∧ uH b1 ≤ 24) := hI' ⟨xK0 _,xEn _⟩
 generalize uH b1 = bl at HBL HOK HCL
 generalize qA b1 = cp at HCP HOK HCL
 by_cases t0 : b0 = 1
 rotate_left
 ·have e0 : ¬ ((b0 : Int) = 1) := by omega
  have e9 : ((b0 : Int) != 1) = true := by simpa using e0
  have HDV : Hid (dv = noSlot) := hI' (by rw [xO6.out,if_neg]; rw [HOK.out]; simp; omega)
  clear xO6 HOK HSL
  go_upto_region 3 with fail
  refine RG.xR (fun W => Hid (DcM w g ⟨true,b1,b2,sz,[]⟩ W)) (by kernel_rfl) (by kernel_rfl) (hI' ⟨HD.out.o,HD.out.s,HD.out.bel.drew,HD.out.lt⟩) ?_
  iterate 4
   apply RG.xC
   ·intro w9 hw9
    repeat go_step
    with_reducible exact RG.xB hw9
   ·rfl
  iterate 3
   apply RG.xC
   ·intro w9 hw9
    exact RG.vJ (by rfl) rfl hw9
   ·rfl
  iterate 2
   apply RG.xC
   ·intro w9 hw9
    repeat go_step
    with_reducible exact RG.xB hw9
   ·rfl
  iterate 6
   apply RG.xC
   ·intro w9 hw9
    exact RG.vJ (by rfl) rfl hw9
   ·rfl
  iterate 2
   apply RG.xC
   ·intro w9 hw9
    repeat go_step
    with_reducible exact RG.xB hw9
   ·rfl
  iterate 6
   apply RG.xC
   ·intro w9 hw9
    exact RG.vJ (by rfl) rfl hw9
   ·rfl
  iterate 2
   apply RG.xC
   ·intro w9 hw9
    repeat go_step
    with_reducible exact RG.xB hw9
   ·rfl
  iterate 2
   apply RG.xC
   ·intro w9 hw9
    exact RG.vJ (by rfl) rfl hw9
   ·rfl
  iterate 2
   apply RG.xC
   ·intro w9 hw9
    repeat go_step
    with_reducible exact RG.xB hw9
   ·rfl
  iterate 2
   apply RG.xC
   ·intro w9 hw9
    exact RG.vJ (by rfl) rfl hw9
   ·rfl
  apply RG.xC
  ·intro w9 hw9
   repeat go_step
   with_reducible exact RG.xB hw9
  ·rfl
  refine RG.xW (fun w3 hw3 => ?_)
  obtain ⟨o0,y0,f0,o1,y1,f1,o2,y2,f2,o3,y3,f3,o4,y4,f4,HB⟩ := xYp hw3.out.o hw3.out.bel (by omega) (.bool false) (.int .i64 0) (.int .i64 0) (.int .i64 0) (.string ⟨#[]⟩) _ rfl
  clear hw3 HD
  go_wp2
  refine bodyPost_ret (v := xGz noSlot) (by simp [results,Tryz.results94,go_sem,f0,f1,f2,f3,f4,noSlot]) rfl ?_
  exact ⟨by rw [HDV.out],HB.out⟩
 have g0 : (b0 : Int) = 1 := by omega
 have g9 : ((b0 : Int) != 1) = false := by simp [g0]
 by_cases t1 : b1 ≤ 1
 rotate_left
 ·have e0 : 1 < (b1 : Int) := by omega
  have HDV : Hid (dv = noSlot) := hI' (by rw [xO6.out,if_neg]; rw [HOK.out]; simp; omega)
  clear xO6 HOK HSL
  go_upto_region 3 with fail
  refine RG.xR (fun W => Hid (DcM w g ⟨true,b1,b2,sz,[]⟩ W)) (by kernel_rfl) (by kernel_rfl) (hI' ⟨HD.out.o,HD.out.s,HD.out.bel.drew,HD.out.lt⟩) ?_
  iterate 4
   apply RG.xC
   ·intro w9 hw9
    repeat go_step
    with_reducible exact RG.xB hw9
   ·rfl
  iterate 3
   apply RG.xC
   ·intro w9 hw9
    have hb := hw9.out.s
    have c1 := xA hb 1
    have c2 := xA hb 2
    have c3 := xA hb 3
    simp only [gA,gB,gC] at c1 c2 c3
    repeat go_step
    with_reducible exact RG.xB hw9
   ·rfl
  iterate 2
   apply RG.xC
   ·intro w9 hw9
    repeat go_step
    with_reducible exact RG.xB hw9
   ·rfl
  iterate 6
   apply RG.xC
   ·intro w9 hw9
    exact RG.vJ (by rfl) rfl hw9
   ·rfl
  iterate 2
   apply RG.xC
   ·intro w9 hw9
    repeat go_step
    with_reducible exact RG.xB hw9
   ·rfl
  iterate 6
   apply RG.xC
   ·intro w9 hw9
    exact RG.vJ (by rfl) rfl hw9
   ·rfl
  iterate 2
   apply RG.xC
   ·intro w9 hw9
    repeat go_step
    with_reducible exact RG.xB hw9
   ·rfl
  iterate 2
   apply RG.xC
   ·intro w9 hw9
    exact RG.vJ (by rfl) rfl hw9
   ·rfl
  iterate 2
   apply RG.xC
   ·intro w9 hw9
    repeat go_step
    with_reducible exact RG.xB hw9
   ·rfl
  iterate 2
   apply RG.xC
   ·intro w9 hw9
    exact RG.vJ (by rfl) rfl hw9
   ·rfl
  apply RG.xC
  ·intro w9 hw9
   repeat go_step
   with_reducible exact RG.xB hw9
  ·rfl
  refine RG.xW (fun w3 hw3 => ?_)
  obtain ⟨o0,y0,f0,o1,y1,f1,o2,y2,f2,o3,y3,f3,o4,y4,f4,HB⟩ := xYp hw3.out.o hw3.out.bel (by omega) (.bool false) (.int .i64 0) (.int .i64 0) (.int .i64 0) (.string ⟨#[]⟩) _ rfl
  clear hw3 HD
  go_wp2
  refine bodyPost_ret (v := xGz noSlot) (by simp [results,Tryz.results94,go_sem,f0,f1,f2,f3,f4,noSlot]) rfl ?_
  exact ⟨by rw [HDV.out],HB.out⟩
 have g1 : ¬ (1 < (b1 : Int)) := by omega
 by_cases t2 : b2 < bl
 rotate_left
 ·have e0 : (bl : Int) ≤ (b2 : Int) := by omega
  have HDV : Hid (dv = noSlot) := hI' (by rw [xO6.out,if_neg]; rw [HOK.out]; simp; omega)
  clear xO6 HOK HSL
  go_upto_region 3 with fail
  refine RG.xR (fun W => Hid (DcM w g ⟨true,b1,b2,sz,[]⟩ W)) (by kernel_rfl) (by kernel_rfl) (hI' ⟨HD.out.o,HD.out.s,HD.out.bel.drew,HD.out.lt⟩) ?_
  iterate 4
   apply RG.xC
   ·intro w9 hw9
    repeat go_step
    with_reducible exact RG.xB hw9
   ·rfl
  iterate 3
   apply RG.xC
   ·intro w9 hw9
    have hb := hw9.out.s
    have c1 := xA hb 1
    have c2 := xA hb 2
    have c3 := xA hb 3
    simp only [gA,gB,gC] at c1 c2 c3
    repeat go_step
    with_reducible exact RG.xB hw9
   ·rfl
  iterate 2
   apply RG.xC
   ·intro w9 hw9
    repeat go_step
    with_reducible exact RG.xB hw9
   ·rfl
  iterate 4
   apply RG.xC
   ·intro w9 hw9
    have hb := hw9.out.s
    have c1 := xA hb 1
    have c2 := xA hb 2
    have c3 := xA hb 3
    simp only [gA,gB,gC] at c1 c2 c3
    repeat go_step
    with_reducible exact RG.xB hw9
   ·rfl
  apply RG.xC
  ·intro w9 hw9
   repeat go_step
   refine (HBL.out _).mono ?_
   rintro e w10 ⟨rfl,rfl⟩
   simp only []
   repeat go_step
   with_reducible exact RG.xB hw9
  ·rfl
  apply RG.xC
  ·intro w9 hw9
   have hb := hw9.out.s
   have c1 := xA hb 1
   have c2 := xA hb 2
   have c3 := xA hb 3
   simp only [gA,gB,gC] at c1 c2 c3
   repeat go_step
   with_reducible exact RG.xB hw9
  ·rfl
  iterate 2
   apply RG.xC
   ·intro w9 hw9
    repeat go_step
    with_reducible exact RG.xB hw9
   ·rfl
  iterate 6
   apply RG.xC
   ·intro w9 hw9
    exact RG.vJ (by rfl) rfl hw9
   ·rfl
  iterate 2
   apply RG.xC
   ·intro w9 hw9
    repeat go_step
    with_reducible exact RG.xB hw9
   ·rfl
  iterate 2
   apply RG.xC
   ·intro w9 hw9
    exact RG.vJ (by rfl) rfl hw9
   ·rfl
  iterate 2
   apply RG.xC
   ·intro w9 hw9
    repeat go_step
    with_reducible exact RG.xB hw9
   ·rfl
  iterate 2
   apply RG.xC
   ·intro w9 hw9
    exact RG.vJ (by rfl) rfl hw9
   ·rfl
  apply RG.xC
  ·intro w9 hw9
   repeat go_step
   with_reducible exact RG.xB hw9
  ·rfl
  refine RG.xW (fun w3 hw3 => ?_)
  obtain ⟨o0,y0,f0,o1,y1,f1,o2,y2,f2,o3,y3,f3,o4,y4,f4,HB⟩ := xYp hw3.out.o hw3.out.bel (by omega) (.bool false) (.int .i64 0) (.int .i64 0) (.int .i64 0) (.string ⟨#[]⟩) _ rfl
  clear hw3 HD
  go_wp2
  refine bodyPost_ret (v := xGz noSlot) (by simp [results,Tryz.results94,go_sem,f0,f1,f2,f3,f4,noSlot]) rfl ?_
  exact ⟨by rw [HDV.out],HB.out⟩
 have g2 : ¬ ((bl : Int) ≤ (b2 : Int)) := by omega
 by_cases t3 : sz ≤ cp
 rotate_left
 ·have e0 : (cp : Int) < (sz : Int) := by omega
  have HDV : Hid (dv = noSlot) := hI' (by rw [xO6.out,if_neg]; rw [HOK.out]; simp; omega)
  clear xO6 HOK HSL
  go_upto_region 3 with fail
  refine RG.xR (fun W => Hid (DcM w g ⟨true,b1,b2,sz,[]⟩ W)) (by kernel_rfl) (by kernel_rfl) (hI' ⟨HD.out.o,HD.out.s,HD.out.bel.drew,HD.out.lt⟩) ?_
  iterate 4
   apply RG.xC
   ·intro w9 hw9
    repeat go_step
    with_reducible exact RG.xB hw9
   ·rfl
  iterate 3
   apply RG.xC
   ·intro w9 hw9
    have hb := hw9.out.s
    have c1 := xA hb 1
    have c2 := xA hb 2
    have c3 := xA hb 3
    simp only [gA,gB,gC] at c1 c2 c3
    repeat go_step
    with_reducible exact RG.xB hw9
   ·rfl
  iterate 2
   apply RG.xC
   ·intro w9 hw9
    repeat go_step
    with_reducible exact RG.xB hw9
   ·rfl
  iterate 4
   apply RG.xC
   ·intro w9 hw9
    have hb := hw9.out.s
    have c1 := xA hb 1
    have c2 := xA hb 2
    have c3 := xA hb 3
    simp only [gA,gB,gC] at c1 c2 c3
    repeat go_step
    with_reducible exact RG.xB hw9
   ·rfl
  apply RG.xC
  ·intro w9 hw9
   repeat go_step
   refine (HBL.out _).mono ?_
   rintro e w10 ⟨rfl,rfl⟩
   simp only []
   repeat go_step
   with_reducible exact RG.xB hw9
  ·rfl
  apply RG.xC
  ·intro w9 hw9
   have hb := hw9.out.s
   have c1 := xA hb 1
   have c2 := xA hb 2
   have c3 := xA hb 3
   simp only [gA,gB,gC] at c1 c2 c3
   repeat go_step
   with_reducible exact RG.xB hw9
  ·rfl
  iterate 2
   apply RG.xC
   ·intro w9 hw9
    repeat go_step
    with_reducible exact RG.xB hw9
   ·rfl
  iterate 4
   apply RG.xC
   ·intro w9 hw9
    have hb := hw9.out.s
    have c1 := xA hb 1
    have c2 := xA hb 2
    have c3 := xA hb 3
    simp only [gA,gB,gC] at c1 c2 c3
    repeat go_step
    with_reducible exact RG.xB hw9
   ·rfl
  apply RG.xC
  ·intro w9 hw9
   repeat go_step
   refine (HCP.out _).mono ?_
   rintro e w10 ⟨rfl,rfl⟩
   simp only []
   repeat go_step
   with_reducible exact RG.xB hw9
  ·rfl
  apply RG.xC
  ·intro w9 hw9
   have hb := hw9.out.s
   have c1 := xA hb 1
   have c2 := xA hb 2
   have c3 := xA hb 3
   simp only [gA,gB,gC] at c1 c2 c3
   repeat go_step
   with_reducible exact RG.xB hw9
  ·rfl
  iterate 2
   apply RG.xC
   ·intro w9 hw9
    repeat go_step
    with_reducible exact RG.xB hw9
   ·rfl
  iterate 2
   apply RG.xC
   ·intro w9 hw9
    exact RG.vJ (by rfl) rfl hw9
   ·rfl
  iterate 2
   apply RG.xC
   ·intro w9 hw9
    repeat go_step
    with_reducible exact RG.xB hw9
   ·rfl
  iterate 2
   apply RG.xC
   ·intro w9 hw9
    exact RG.vJ (by rfl) rfl hw9
   ·rfl
  apply RG.xC
  ·intro w9 hw9
   repeat go_step
   with_reducible exact RG.xB hw9
  ·rfl
  refine RG.xW (fun w3 hw3 => ?_)
  obtain ⟨o0,y0,f0,o1,y1,f1,o2,y2,f2,o3,y3,f3,o4,y4,f4,HB⟩ := xYp hw3.out.o hw3.out.bel (by omega) (.bool false) (.int .i64 0) (.int .i64 0) (.int .i64 0) (.string ⟨#[]⟩) _ rfl
  clear hw3 HD
  go_wp2
  refine bodyPost_ret (v := xGz noSlot) (by simp [results,Tryz.results94,go_sem,f0,f1,f2,f3,f4,noSlot]) rfl ?_
  exact ⟨by rw [HDV.out],HB.out⟩
 have g3 : ¬ ((cp : Int) < (sz : Int)) := by omega
 by_cases t4 : 1 ≤ b5
 rotate_left
 ·have e0 : (b5 : Int) < 1 := by omega
  have HDV : Hid (dv = noSlot) := hI' (by rw [xO6.out,if_neg]; rw [HOK.out]; simp; omega)
  clear xO6 HOK HSL
  go_upto_region 3 with fail
  refine RG.xR (fun W => Hid (DcM w g ⟨true,b1,b2,sz,[]⟩ W)) (by kernel_rfl) (by kernel_rfl) (hI' ⟨HD.out.o,HD.out.s,HD.out.bel.drew,HD.out.lt⟩) ?_
  iterate 4
   apply RG.xC
   ·intro w9 hw9
    repeat go_step
    with_reducible exact RG.xB hw9
   ·rfl
  iterate 3
   apply RG.xC
   ·intro w9 hw9
    have hb := hw9.out.s
    have c1 := xA hb 1
    have c2 := xA hb 2
    have c3 := xA hb 3
    simp only [gA,gB,gC] at c1 c2 c3
    repeat go_step
    with_reducible exact RG.xB hw9
   ·rfl
  iterate 2
   apply RG.xC
   ·intro w9 hw9
    repeat go_step
    with_reducible exact RG.xB hw9
   ·rfl
  iterate 4
   apply RG.xC
   ·intro w9 hw9
    have hb := hw9.out.s
    have c1 := xA hb 1
    have c2 := xA hb 2
    have c3 := xA hb 3
    simp only [gA,gB,gC] at c1 c2 c3
    repeat go_step
    with_reducible exact RG.xB hw9
   ·rfl
  apply RG.xC
  ·intro w9 hw9
   repeat go_step
   refine (HBL.out _).mono ?_
   rintro e w10 ⟨rfl,rfl⟩
   simp only []
   repeat go_step
   with_reducible exact RG.xB hw9
  ·rfl
  apply RG.xC
  ·intro w9 hw9
   have hb := hw9.out.s
   have c1 := xA hb 1
   have c2 := xA hb 2
   have c3 := xA hb 3
   simp only [gA,gB,gC] at c1 c2 c3
   repeat go_step
   with_reducible exact RG.xB hw9
  ·rfl
  iterate 2
   apply RG.xC
   ·intro w9 hw9
    repeat go_step
    with_reducible exact RG.xB hw9
   ·rfl
  iterate 4
   apply RG.xC
   ·intro w9 hw9
    have hb := hw9.out.s
    have c1 := xA hb 1
    have c2 := xA hb 2
    have c3 := xA hb 3
    simp only [gA,gB,gC] at c1 c2 c3
    repeat go_step
    with_reducible exact RG.xB hw9
   ·rfl
  apply RG.xC
  ·intro w9 hw9
   repeat go_step
   refine (HCP.out _).mono ?_
   rintro e w10 ⟨rfl,rfl⟩
   simp only []
   repeat go_step
   with_reducible exact RG.xB hw9
  ·rfl
  apply RG.xC
  ·intro w9 hw9
   have hb := hw9.out.s
   have c1 := xA hb 1
   have c2 := xA hb 2
   have c3 := xA hb 3
   simp only [gA,gB,gC] at c1 c2 c3
   repeat go_step
   with_reducible exact RG.xB hw9
  ·rfl
  iterate 2
   apply RG.xC
   ·intro w9 hw9
    repeat go_step
    with_reducible exact RG.xB hw9
   ·rfl
  iterate 2
   apply RG.xC
   ·intro w9 hw9
    repeat go_step
    with_reducible exact RG.xB hw9
   ·rfl
  iterate 2
   apply RG.xC
   ·intro w9 hw9
    repeat go_step
    with_reducible exact RG.xB hw9
   ·rfl
  iterate 2
   apply RG.xC
   ·intro w9 hw9
    exact RG.vJ (by rfl) rfl hw9
   ·rfl
  apply RG.xC
  ·intro w9 hw9
   repeat go_step
   with_reducible exact RG.xB hw9
  ·rfl
  refine RG.xW (fun w3 hw3 => ?_)
  obtain ⟨o0,y0,f0,o1,y1,f1,o2,y2,f2,o3,y3,f3,o4,y4,f4,HB⟩ := xYp hw3.out.o hw3.out.bel (by omega) (.bool false) (.int .i64 0) (.int .i64 0) (.int .i64 0) (.string ⟨#[]⟩) _ rfl
  clear hw3 HD
  go_wp2
  refine bodyPost_ret (v := xGz noSlot) (by simp [results,Tryz.results94,go_sem,f0,f1,f2,f3,f4,noSlot]) rfl ?_
  exact ⟨by rw [HDV.out],HB.out⟩
 have g4 : ¬ ((b5 : Int) < 1) := by omega
 by_cases t5 : b5 ≤ 24
 rotate_left
 ·have e0 : 24 < (b5 : Int) := by omega
  have HDV : Hid (dv = noSlot) := hI' (by rw [xO6.out,if_neg]; rw [HOK.out]; simp; omega)
  clear xO6 HOK HSL
  go_upto_region 3 with fail
  refine RG.xR (fun W => Hid (DcM w g ⟨true,b1,b2,sz,[]⟩ W)) (by kernel_rfl) (by kernel_rfl) (hI' ⟨HD.out.o,HD.out.s,HD.out.bel.drew,HD.out.lt⟩) ?_
  iterate 4
   apply RG.xC
   ·intro w9 hw9
    repeat go_step
    with_reducible exact RG.xB hw9
   ·rfl
  iterate 3
   apply RG.xC
   ·intro w9 hw9
    have hb := hw9.out.s
    have c1 := xA hb 1
    have c2 := xA hb 2
    have c3 := xA hb 3
    simp only [gA,gB,gC] at c1 c2 c3
    repeat go_step
    with_reducible exact RG.xB hw9
   ·rfl
  iterate 2
   apply RG.xC
   ·intro w9 hw9
    repeat go_step
    with_reducible exact RG.xB hw9
   ·rfl
  iterate 4
   apply RG.xC
   ·intro w9 hw9
    have hb := hw9.out.s
    have c1 := xA hb 1
    have c2 := xA hb 2
    have c3 := xA hb 3
    simp only [gA,gB,gC] at c1 c2 c3
    repeat go_step
    with_reducible exact RG.xB hw9
   ·rfl
  apply RG.xC
  ·intro w9 hw9
   repeat go_step
   refine (HBL.out _).mono ?_
   rintro e w10 ⟨rfl,rfl⟩
   simp only []
   repeat go_step
   with_reducible exact RG.xB hw9
  ·rfl
  apply RG.xC
  ·intro w9 hw9
   have hb := hw9.out.s
   have c1 := xA hb 1
   have c2 := xA hb 2
   have c3 := xA hb 3
   simp only [gA,gB,gC] at c1 c2 c3
   repeat go_step
   with_reducible exact RG.xB hw9
  ·rfl
  iterate 2
   apply RG.xC
   ·intro w9 hw9
    repeat go_step
    with_reducible exact RG.xB hw9
   ·rfl
  iterate 4
   apply RG.xC
   ·intro w9 hw9
    have hb := hw9.out.s
    have c1 := xA hb 1
    have c2 := xA hb 2
    have c3 := xA hb 3
    simp only [gA,gB,gC] at c1 c2 c3
    repeat go_step
    with_reducible exact RG.xB hw9
   ·rfl
  apply RG.xC
  ·intro w9 hw9
   repeat go_step
   refine (HCP.out _).mono ?_
   rintro e w10 ⟨rfl,rfl⟩
   simp only []
   repeat go_step
   with_reducible exact RG.xB hw9
  ·rfl
  apply RG.xC
  ·intro w9 hw9
   have hb := hw9.out.s
   have c1 := xA hb 1
   have c2 := xA hb 2
   have c3 := xA hb 3
   simp only [gA,gB,gC] at c1 c2 c3
   repeat go_step
   with_reducible exact RG.xB hw9
  ·rfl
  iterate 2
   apply RG.xC
   ·intro w9 hw9
    repeat go_step
    with_reducible exact RG.xB hw9
   ·rfl
  iterate 2
   apply RG.xC
   ·intro w9 hw9
    repeat go_step
    with_reducible exact RG.xB hw9
   ·rfl
  iterate 2
   apply RG.xC
   ·intro w9 hw9
    repeat go_step
    with_reducible exact RG.xB hw9
   ·rfl
  iterate 2
   apply RG.xC
   ·intro w9 hw9
    repeat go_step
    with_reducible exact RG.xB hw9
   ·rfl
  apply RG.xC
  ·intro w9 hw9
   repeat go_step
   with_reducible exact RG.xB hw9
  ·rfl
  refine RG.xW (fun w3 hw3 => ?_)
  obtain ⟨o0,y0,f0,o1,y1,f1,o2,y2,f2,o3,y3,f3,o4,y4,f4,HB⟩ := xYp hw3.out.o hw3.out.bel (by omega) (.bool false) (.int .i64 0) (.int .i64 0) (.int .i64 0) (.string ⟨#[]⟩) _ rfl
  clear hw3 HD
  go_wp2
  refine bodyPost_ret (v := xGz noSlot) (by simp [results,Tryz.results94,go_sem,f0,f1,f2,f3,f4,noSlot]) rfl ?_
  exact ⟨by rw [HDV.out],HB.out⟩
 have g5 : ¬ (24 < (b5 : Int)) := by omega
 have HTR : Hid (dv = if s.data.toList = kI (kQ s.data.toList) then kQ s.data.toList else noSlot) := hI' (by rw [xO6.out,if_pos]; rw [HOK.out]; simp [t0,t1,t2,t3,t4,t5])
 clear xO6 HOK
 go_upto_region 3 with fail
 refine RG.xR (fun W => Hid (DcM w g ⟨true,b1,b2,sz,[]⟩ W)) (by kernel_rfl) (by kernel_rfl) (hI' ⟨HD.out.o,HD.out.s,HD.out.bel.drew,HD.out.lt⟩) ?_
 iterate 4
  apply RG.xC
  ·intro w9 hw9
   repeat go_step
   with_reducible exact RG.xB hw9
  ·rfl
 iterate 3
  apply RG.xC
  ·intro w9 hw9
   have hb := hw9.out.s
   have c1 := xA hb 1
   have c2 := xA hb 2
   have c3 := xA hb 3
   simp only [gA,gB,gC] at c1 c2 c3
   repeat go_step
   with_reducible exact RG.xB hw9
  ·rfl
 iterate 2
  apply RG.xC
  ·intro w9 hw9
   repeat go_step
   with_reducible exact RG.xB hw9
  ·rfl
 iterate 4
  apply RG.xC
  ·intro w9 hw9
   have hb := hw9.out.s
   have c1 := xA hb 1
   have c2 := xA hb 2
   have c3 := xA hb 3
   simp only [gA,gB,gC] at c1 c2 c3
   repeat go_step
   with_reducible exact RG.xB hw9
  ·rfl
 apply RG.xC
 ·intro w9 hw9
  repeat go_step
  refine (HBL.out _).mono ?_
  rintro e w10 ⟨rfl,rfl⟩
  simp only []
  repeat go_step
  with_reducible exact RG.xB hw9
 ·rfl
 apply RG.xC
 ·intro w9 hw9
  have hb := hw9.out.s
  have c1 := xA hb 1
  have c2 := xA hb 2
  have c3 := xA hb 3
  simp only [gA,gB,gC] at c1 c2 c3
  repeat go_step
  with_reducible exact RG.xB hw9
 ·rfl
 iterate 2
  apply RG.xC
  ·intro w9 hw9
   repeat go_step
   with_reducible exact RG.xB hw9
  ·rfl
 iterate 4
  apply RG.xC
  ·intro w9 hw9
   have hb := hw9.out.s
   have c1 := xA hb 1
   have c2 := xA hb 2
   have c3 := xA hb 3
   simp only [gA,gB,gC] at c1 c2 c3
   repeat go_step
   with_reducible exact RG.xB hw9
  ·rfl
 apply RG.xC
 ·intro w9 hw9
  repeat go_step
  refine (HCP.out _).mono ?_
  rintro e w10 ⟨rfl,rfl⟩
  simp only []
  repeat go_step
  with_reducible exact RG.xB hw9
 ·rfl
 apply RG.xC
 ·intro w9 hw9
  have hb := hw9.out.s
  have c1 := xA hb 1
  have c2 := xA hb 2
  have c3 := xA hb 3
  simp only [gA,gB,gC] at c1 c2 c3
  repeat go_step
  with_reducible exact RG.xB hw9
 ·rfl
 iterate 2
  apply RG.xC
  ·intro w9 hw9
   repeat go_step
   with_reducible exact RG.xB hw9
  ·rfl
 iterate 2
  apply RG.xC
  ·intro w9 hw9
   repeat go_step
   with_reducible exact RG.xB hw9
  ·rfl
 iterate 2
  apply RG.xC
  ·intro w9 hw9
   repeat go_step
   with_reducible exact RG.xB hw9
  ·rfl
 iterate 2
  apply RG.xC
  ·intro w9 hw9
   repeat go_step
   with_reducible exact RG.xB hw9
  ·rfl
 apply RG.xC
 ·intro w9 hw9
  repeat go_step
  with_reducible exact RG.xB hw9
 ·rfl
 refine RG.xW (fun w3 hw3 => ?_)
 have HD3 := hw3
 clear hw3 HD HBL HCP
 obtain ⟨nb,hnb⟩ : ∃ nb : ByteArray,s.extract 6 (6 + b5) = nb := ⟨_,rfl⟩
 have HNB : Hid (xU ((s.data.toList.drop 6).take b5) = .string nb ∧ nb.size = b5) := hI' (by
  have hz := HSZ.out
  have h1 : s.data.size = 64 := hz
  constructor
  ·rw [← hnb]
   show Value.string _ = Value.string _
   congr 1
   apply ByteArray.ext
   apply Array.ext'
   rw [ByteArray.data_extract,Array.toList_extract]
   simp [List.extract]
  ·rw [← hnb,ByteArray.size_extract]; omega)
 have hzi : (s.size : Int) = 64 := by have := HSZ.out; omega
 have hnbi : s.extract 6 (6 + b5) = nb := hnb
 have hb := HD3.out.s
 obtain ⟨c0,c1,c2,c3,c4⟩ := xSf hb
 have y4 := xK hb 4
 clear hb hnb
 go_upto_region 6 with fail
 have HD4 := hI' (show DcM w g ⟨true,b1,b2,sz,(s.data.toList.drop 6).take b5⟩ (w3.setCell ⟨g,4,none⟩ (.string nb)) from ⟨xZ HD3.out.o (p := ⟨g,4,none⟩) (by have := HD3.out.lt; show w.heap.size ≠ g; omega) _,by
  have := yB HD3.out.s 4 (.string nb)
  rw [this]
  show some (Obj.cells _ _ _) = some (wU _)
  simp only [wU,HNB.out.1]
  rfl,HD3.out.bel.setCell (p := ⟨g,4,none⟩) (Nat.le_of_lt HD3.out.lt) _,HD3.out.lt⟩)
 have HEN := hI' (fun W => xIb ⟨true,b1,b2,sz,(s.data.toList.drop 6).take b5⟩ W (by show b1 ≤ 255; omega) (by show b2 ≤ 255; omega) (HSB.out) (by show ((s.data.toList.drop 6).take b5).length ≤ 255; rw [List.length_take]; omega))
 rw [← HSL.out] at HEN
 rw [show xGz (kQ s.data.toList) = .agg #[.bool true,.int .i64 b1,.int .i64 b2,.int .i64 sz,.string nb] from by rw [HSL.out]; simp only [xGz,HNB.out.1]] at HEN
 clear HD3 c0 c1 c2 c3 c4 y4
 generalize w3.setCell ⟨g,4,none⟩ (.string nb) = w4 at HD4 ⊢
 rw [← HSL.out] at HD4
 have hb := HD4.out.s
 rw [HSL.out] at hb
 simp only [wU,HNB.out.1] at hb
 obtain ⟨c0,c1,c2,c3,c4⟩ := xSf hb
 clear hb
 have HSF : Hid (wU (kQ s.data.toList) = .cells #[.bool true,.int .i64 b1,.int .i64 b2,.int .i64 sz,.string nb] 140 ∧ xGz (kQ s.data.toList) = .agg #[.bool true,.int .i64 b1,.int .i64 b2,.int .i64 sz,.string nb]) := hI' (by rw [HSL.out]; simp only [wU,xGz,HNB.out.1,and_self])
 clear HSL HNB
 generalize kQ s.data.toList = so at HEN HD4 HTR HSF
 obtain ⟨ev,hev⟩ : ∃ ev,kI so = ev := ⟨_,rfl⟩
 rw [hev] at HEN HTR
 clear hev
 go_wp2_with fail
 refine (HEN.out _).mono ?_
 rintro e w5 ⟨rfl,hb5⟩
 clear c0 c1 c2 c3 c4
 have HD5 := hI' (show Below w.heap.size w w5 ∧ w5.heap[w.heap.size]? = some (wU noSlot) ∧ w5.heap[g]? = some (.cells #[.bool true,.int .i64 b1,.int .i64 b2,.int .i64 sz,.string nb] 140 (0,0)) from ⟨HD4.out.bel.trans (hb5.mono HD4.out.bel.size),xE HD4.out.o hb5 (xI HD4.out.o),by rw [← HSF.out.1]; exact xE HD4.out.s hb5 (xI HD4.out.s)⟩)
 clear hb5 HD4 HEN
 by_cases he : s.data.toList = ev
 ·have HDV : Hid (dv = so) := hI' (by rw [HTR.out,if_pos he])
  have e1 : (!s.toList == ev) = false := by rw [ByteArray.toList_eq,he]; simp
  clear HTR he hnbi
  go_upto_region 8 with fail
  have hb := HD5.out.2.2
  obtain ⟨c0,c1,c2,c3,c4⟩ := xSf hb
  clear hb
  obtain ⟨o0,y0,f0,o1,y1,f1,o2,y2,f2,o3,y3,f3,o4,y4,f4,HB⟩ := xYp HD5.out.2.1 HD5.out.1 (by omega) (.bool true) (.int .i64 b1) (.int .i64 b2) (.int .i64 sz) (.string nb) _ rfl
  clear HD5 e1
  go_wp2
  refine bodyPost_ret (v := .agg #[.bool true,.int .i64 b1,.int .i64 b2,.int .i64 sz,.string nb]) (by simp [results,Tryz.results94,go_sem,f0,f1,f2,f3,f4]) rfl ?_
  exact ⟨by rw [HDV.out,HSF.out.2],HB.out⟩
 ·have HDV : Hid (dv = noSlot) := hI' (by rw [HTR.out,if_neg he])
  have e1 : (!s.toList == ev) = true := by rw [ByteArray.toList_eq]; simpa using he
  clear HTR he hnbi
  obtain ⟨o0,y0,f0,o1,y1,f1,o2,y2,f2,o3,y3,f3,o4,y4,f4,HB⟩ := xYp HD5.out.2.1 HD5.out.1 (by omega) (.bool false) (.int .i64 0) (.int .i64 0) (.int .i64 0) (.string ⟨#[]⟩) _ rfl
  clear HD5
  go_wp2
  refine bodyPost_ret (v := xGz noSlot) (by simp [results,Tryz.results94,go_sem,f0,f1,f2,f3,f4,noSlot]) rfl ?_
  exact ⟨by rw [HDV.out],HB.out⟩
end Go.Proofs.ST
namespace Go.Proofs.RK
open Go.RowKit MM
section
variable {α : Type} {e : TypeId} {n : Nat} {f : α → List Value}
theorem xPi (hk : ∀ x,(f x).length = n) (t : α) : ∀ (L : List α) (k : Nat),k < L.length → (L.flatMap f).take (k * n) ++ f t ++ (L.flatMap f).drop (k * n + (f t).length) = (L.set k t).flatMap f
 | [],_,h => by simp at h
 | x :: L,0,_ => by
  rw [List.flatMap_cons,Nat.zero_mul,List.take_zero,List.nil_append,Nat.zero_add,hk,List.set_cons_zero,List.flatMap_cons,← hk x,List.drop_left]
 | x :: L,k + 1,h => by
  have ih := xPi hk t L k (by simpa using h)
  rw [hk t] at ih
  rw [List.flatMap_cons,List.set_cons_succ,List.flatMap_cons,← ih,hk t,show (k + 1) * n = n + k * n by rw [Nat.succ_mul]; omega,List.take_append,List.drop_append,hk x,show n + k * n - n = k * n by omega,show n + k * n + n - n = k * n + n by omega,
   List.take_of_length_le (by rw [hk]; omega),List.drop_eq_nil_of_le (by rw [hk]; omega)]
  simp
def qC (e : TypeId) (f : α → List Value) (W : World) (g : Nat) (L : List α) : Prop := W.heap[g]? = some (.cells (L.flatMap f).toArray e (0,0))
variable {W W' : World} {g : Nat} {L : List α}
theorem qC.blk (h : qC e f W g L) : W.heap[g]? = some (.cells (L.flatMap f).toArray e (0,0)) := h
theorem qC.put (hk : ∀ x,(f x).length = n) (h : qC e f W g L) {k : Nat} (hl : k < L.length) (t : α) : qC e f (SV.yR g (k * n) (f t) W) g (L.set k t) := by
 have := SV.xDv (f t) (k * n) W _ h.blk (by
  rw [hk,List.size_toArray,xJw hk]
  have := Nat.mul_le_mul_right n hl
  rw [Nat.succ_mul] at this
  exact this)
 unfold qC
 rw [this,← xPi hk t L k hl]
theorem qC.cell (hk : ∀ x,(f x).length = n) (h : qC e f W g L) {k i : Nat} {x : α} {u : Value} (hx : L[k]? = some x) (hu : (f x)[i]? = some u) : W.cell? ⟨g,k * n + i,none⟩ = some u := by
 rw [xA h.blk,List.getElem?_toArray]
 exact flat_get hk L k i x u hx hu
theorem qC.free (h : qC e f W g L) (i : Nat) : W.frozen? ⟨g,i,none⟩ = false := xK h.blk i
theorem qC.below (h : qC e f W g L) (hb : Below W.heap.size W W') : qC e f W' g L := xE h.blk hb (xI h.blk)
theorem qC.rd (hk : ∀ x,(f x).length = n) (h : qC e f W g L) {B : Nat} (hB : g < B) {c : Nat} (hc : L.length ≤ c) : RdR n f W B (.slice (some ⟨g,0,none⟩) L.length c) L :=
 ⟨_,c,rfl,hc,fun _ => ⟨g,0,rfl,hB,fun j x hx i u hu => by rw [Nat.zero_add]; exact h.cell hk hx hu⟩⟩
theorem xUe (hk : ∀ x,(f x).length = n) (h0 : 0 < n) (x0 : α) (m : Nat) : madeCells (f x0).toArray (m * n) = ((List.replicate m x0).flatMap f).toArray := by
 apply Array.ext_getElem?
 intro i
 by_cases h : i < m * n
 ·have hm : i % n < n := Nat.mod_lt _ h0
  have hd : i / n < m := Nat.div_lt_of_lt_mul (by rw [Nat.mul_comm]; exact h)
  obtain ⟨u,hu⟩ : ∃ u,(f x0)[i % n]? = some u := ⟨_,List.getElem?_eq_getElem (by rw [hk]; exact hm)⟩
  have r := flat_get hk (List.replicate m x0) (i / n) (i % n) x0 u (by simp [hd]) hu
  rw [show i / n * n + i % n = i by rw [Nat.mul_comm]; exact Nat.div_add_mod i n] at r
  have r2 : ((List.replicate m x0).flatMap f).toArray[i]? = some u := by rw [List.getElem?_toArray]; exact r
  rw [r2]
  have hu2 := hu
  rw [List.getElem?_eq_getElem (by rw [hk]; exact hm)] at hu2
  injection hu2 with hu2
  simp [madeCells,h,hk,hu2,hm]
 ·rw [Array.getElem?_eq_none (by simp [madeCells]; omega),Array.getElem?_eq_none (by rw [List.size_toArray,xJw hk]; simp; omega)]
end
end Go.Proofs.RK

/- What poly.finish returns. Conditions: five numbers of 64 bits; a text of 16 bytes. -/
import Derived.Test.YtnaiekglbemhcaaGreatDoorVaultFreshProofB23
import Derived.Laws.Externs
set_option maxHeartbeats 8000000
set_option maxRecDepth 100000
namespace Mailsack
def finA (l : List Int) : Int := Go.bits .or .u64 (Go.bits .or .u64 (l.getD 0 0) (Go.IntKind.u64.wrap (l.getD 1 0 * 67108864))) (Go.IntKind.u64.wrap (l.getD 2 0 * 4503599627370496))
def finB (l : List Int) : Int := Go.bits .or .u64 (Go.bits .or .u64 (l.getD 2 0 / 4096) (Go.IntKind.u64.wrap (l.getD 3 0 * 16384))) (Go.IntKind.u64.wrap (l.getD 4 0 * 1099511627776))
def xV6 (s : ByteArray) : Int := Go.bits .or .u64 (uL s 0) (Go.IntKind.u64.wrap (uL s 4 * 4294967296))
def halfB (s : ByteArray) : Int := Go.bits .or .u64 (uL s 8) (Go.IntKind.u64.wrap (uL s 12 * 4294967296))
def lowF (l : List Int) (s : ByteArray) : Int := (finA l + xV6 s) % 18446744073709551616
def xXj (l : List Int) (s : ByteArray) : Int := (finA l + xV6 s) / 18446744073709551616
def xV3 (l : List Int) (s : ByteArray) : Int := (finB l + halfB s + xXj l s) % 18446744073709551616
def xQy (lo hi : Int) : Nat → Bs
 | 0 => xQ 16
 | i + 1 => ((xQy lo hi i).set i (oct (lo / 2 ^ (8 * i)))).set (8 + i) (oct (hi / 2 ^ (8 * i)))
theorem xJb (lo hi : Int) : ∀ i,(xQy lo hi i).length = 16
 | 0 => yT 16
 | i + 1 => by rw [xQy,List.length_set,List.length_set,xJb lo hi i]
def finP (l : List Int) (s : ByteArray) : ByteArray := bsA (xQy (lowF l s) (xV3 l s) 8)
theorem xVj (l : List Int) (s : ByteArray) : (finP l s).size = 16 := by
 have := xJb (lowF l s) (xV3 l s) 8
 simpa [finP,bsA,ByteArray.size] using this
end Mailsack
namespace Go.Proofs.SH
open Go.RowKit Mailsack MM BB
theorem yC7 (x y c : Int) (hx : 0 ≤ x) (hy : 0 ≤ y) (hc0 : 0 ≤ c) (hc : c ≤ 1) (w : World) :
  (callFunc 195 #[.int .u64 x,.int .u64 y,.int .u64 c]).run Tryz.prog w =
   .ok (.value (.tuple #[.int .u64 ((x + y + c) % 18446744073709551616),.int .u64 ((x + y + c) / 18446744073709551616)])) w := by
 rw [run_callFunc_extern Tryz.func195 (by kernel_rfl) (by kernel_rfl) (by kernel_rfl) (e := add64Entry) (by kernel_rfl),run_add64 x y c hx hy hc0 hc]
 rfl
structure FhM (w : World) (hs : List Int) (W : World) : Prop where
 bh : uR W w.heap.size hs
 bel : Below w.heap.size w W
theorem FhM.below {w : World} {hs : List Int} {W W' : World} (h : FhM w hs W) (hb : Below W.heap.size W W') : FhM w hs W' :=
 ⟨xE h.bh hb (xI h.bh),h.bel.trans (hb.mono h.bel.size)⟩
theorem xNm (hs : List Int) (s : ByteArray) (w : World) (hl : hs.length = 5) (hu : yV hs) (h16 : s.size = 16) :
  Calls Tryz.prog 208 #[.agg (xG hs),.string s] w fun e w' => e = .returned (.string (finP hs s)) ∧ Below w.heap.size w w' := by
 have W0 : Hid (∀ W,Calls Tryz.prog 220 #[.string s,.int .i64 0] W fun e w' => e = .returned (.int .u64 (uL s 0)) ∧ Below W.heap.size W w') := hI' (fun W => tF s 0 W (by omega) (by omega))
 have W4 : Hid (∀ W,Calls Tryz.prog 220 #[.string s,.int .i64 4] W fun e w' => e = .returned (.int .u64 (uL s 4)) ∧ Below W.heap.size W w') := hI' (fun W => tF s 4 W (by omega) (by omega))
 have W8 : Hid (∀ W,Calls Tryz.prog 220 #[.string s,.int .i64 8] W fun e w' => e = .returned (.int .u64 (uL s 8)) ∧ Below W.heap.size W w') := hI' (fun W => tF s 8 W (by omega) (by omega))
 have W12 : Hid (∀ W,Calls Tryz.prog 220 #[.string s,.int .i64 12] W fun e w' => e = .returned (.int .u64 (uL s 12)) ∧ Below W.heap.size W w') := hI' (fun W => tF s 12 W (by omega) (by omega))
 have HF : Hid (∀ n,n = 8 → finP hs s = bsA (xQy (lowF hs s) (xV3 hs s) n)) := hI' (fun n hn => by rw [hn]; rfl)
 obtain ⟨lw,hlw⟩ : ∃ x,lowF hs s = x := ⟨_,rfl⟩
 obtain ⟨hw,hhw⟩ : ∃ x,xV3 hs s = x := ⟨_,rfl⟩
 obtain ⟨ov,hov⟩ : ∃ x,xXj hs s = x := ⟨_,rfl⟩
 rw [hlw,hhw] at HF
 unfold lowF finA xV6 at hlw
 unfold xXj finA xV6 at hov
 have xJs := hhw
 unfold xV3 finB halfB at xJs
 unfold xXj finA xV6 at xJs
 clear hhw
 obtain ⟨u00,u01⟩ := pY s 0
 obtain ⟨u40,u41⟩ := pY s 4
 obtain ⟨u80,u81⟩ := pY s 8
 obtain ⟨uc0,uc1⟩ := pY s 12
 obtain ⟨y0,hy0⟩ : ∃ x,uL s 0 = x := ⟨_,rfl⟩
 obtain ⟨y4,hy4⟩ : ∃ x,uL s 4 = x := ⟨_,rfl⟩
 obtain ⟨y8,hy8⟩ : ∃ x,uL s 8 = x := ⟨_,rfl⟩
 obtain ⟨y12,hy12⟩ : ∃ x,uL s 12 = x := ⟨_,rfl⟩
 rw [hy0] at W0 u00 u01 hlw hov xJs
 rw [hy4] at W4 u40 u41 hlw hov xJs
 rw [hy8] at W8 u80 u81 xJs
 rw [hy12] at W12 uc0 uc1 xJs
 have HM : Hid (FhM w hs (w.alloc (.cells (xG hs) 276))) := hI' ⟨xM _ _,(Below.refl w.heap.size w).alloc (Nat.le_refl _) _⟩
 have HM2 : Hid (FhM w hs (w.alloc (.cells (xG hs) 276)).drew) := hI' ⟨HM.out.bh,HM.out.bel.drew⟩
 obtain ⟨a,ha⟩ : ∃ x,hs.getD 0 0 = x := ⟨_,rfl⟩
 obtain ⟨b,hb⟩ : ∃ x,hs.getD 1 0 = x := ⟨_,rfl⟩
 obtain ⟨c,hc⟩ : ∃ x,hs.getD 2 0 = x := ⟨_,rfl⟩
 obtain ⟨d,hd⟩ : ∃ x,hs.getD 3 0 = x := ⟨_,rfl⟩
 obtain ⟨e,he⟩ : ∃ x,hs.getD 4 0 = x := ⟨_,rfl⟩
 obtain ⟨a0,a1⟩ := ha ▸ hu 0
 obtain ⟨b0,b1⟩ := hb ▸ hu 1
 obtain ⟨c0,c1⟩ := hc ▸ hu 2
 obtain ⟨d0,d1⟩ := hd ▸ hu 3
 obtain ⟨e0,e1⟩ := he ▸ hu 4
 have HQ : Hid (∀ W,Hid (FhM w hs W) → W.cell? ⟨w.heap.size,0,none⟩ = some (.int .u64 a) ∧ W.cell? ⟨w.heap.size,1,none⟩ = some (.int .u64 b) ∧ W.cell? ⟨w.heap.size,2,none⟩ = some (.int .u64 c) ∧ W.cell? ⟨w.heap.size,3,none⟩ = some (.int .u64 d) ∧ W.cell? ⟨w.heap.size,4,none⟩ = some (.int .u64 e)) := hI' (fun W h => by
  refine ⟨?_,?_,?_,?_,?_⟩
  ·rw [h.out.bh.cell (i := 0) (by omega),ha]
  ·rw [h.out.bh.cell (i := 1) (by omega),hb]
  ·rw [h.out.bh.cell (i := 2) (by omega),hc]
  ·rw [h.out.bh.cell (i := 3) (by omega),hd]
  ·rw [h.out.bh.cell (i := 4) (by omega),he])
 rw [ha,hb,hc] at hlw hov
 rw [hc,hd,he,ha,hb] at xJs
 have HLW := hI' hlw
 have HOV := hI' hov
 have HHW := hI' xJs
 clear hlw hov xJs
 clear hu hl h16 ha hb hc hd he hy0 hy4 hy8 hy12
 go_enter Tryz.func208,Tryz.ntmps208
 go_upto_region 1 with fail
 refine RG.xR (fun W => Hid (FhM w hs W)) (by kernel_rfl) (by kernel_rfl) HM2 ?_
 clear HM HM2
 iterate 11
  apply RG.xC
  ·intro w9 hw9
   obtain ⟨q0,q1,q2,q3,q4⟩ := HQ.out w9 hw9
   repeat go_step
   with_reducible exact RG.xB hw9
  ·rfl
 apply RG.xC
 ·intro w9 hw9
  repeat go_step
  refine (W0.out _).mono ?_
  rintro e w10 ⟨rfl,yA⟩
  simp only []
  repeat go_step
  with_reducible refine RG.xB ?_
  exact hI' (hw9.out.below yA)
 ·rfl
 apply RG.xC
 ·intro w9 hw9
  repeat go_step
  with_reducible exact RG.xB hw9
 ·rfl
 apply RG.xC
 ·intro w9 hw9
  repeat go_step
  refine (W4.out _).mono ?_
  rintro e w10 ⟨rfl,yA⟩
  simp only []
  repeat go_step
  with_reducible refine RG.xB ?_
  exact hI' (hw9.out.below yA)
 ·rfl
 iterate 2
  apply RG.xC
  ·intro w9 hw9
   repeat go_step
   with_reducible exact RG.xB hw9
  ·rfl
 obtain ⟨lo,hlo⟩ : ∃ x,bits .or .u64 (bits .or .u64 a (IntKind.u64.wrap (b * 67108864))) (IntKind.u64.wrap (c * 4503599627370496)) = x := ⟨_,rfl⟩
 obtain ⟨lo0,lo1⟩ := hlo ▸ zH .or (bits .or .u64 a (IntKind.u64.wrap (b * 67108864))) (IntKind.u64.wrap (c * 4503599627370496))
 obtain ⟨ha,hha⟩ : ∃ x,bits .or .u64 y0 (IntKind.u64.wrap (y4 * 4294967296)) = x := ⟨_,rfl⟩
 obtain ⟨ha0,ha1⟩ := hha ▸ zH .or y0 (IntKind.u64.wrap (y4 * 4294967296))
 rw [hlo,hha]
 have HLO := hI' hlo
 have HHA := hI' hha
 clear hlo hha
 have hlw := HLW.out
 have hov := HOV.out
 have xJs := HHW.out
 rw [HLO.out,HHA.out] at hlw hov xJs
 rw [hov] at xJs
 clear HLW HOV HHW HLO HHA
 have HHW := hI' xJs
 have hl0 := xE5 (lo + ha)
 rw [hlw] at hl0
 obtain ⟨l0,l1⟩ := hl0
 have ho0 : 0 ≤ ov := by omega
 have ho1 : ov ≤ 1 := by omega
 have A1 : Hid (∀ W,(callFunc 195 #[.int .u64 lo,.int .u64 ha,.int .u64 0]).run Tryz.prog W = .ok (.value (.tuple #[.int .u64 lw,.int .u64 ov])) W) := hI' (fun W => by
  have h := yC7 lo ha 0 lo0 ha0 (by decide) (by decide) W
  rw [Int.add_zero,hlw,hov] at h
  exact h)
 clear xJs hlw hov
 apply RG.xC
 ·intro w9 hw9
  have q9 := A1.out w9
  repeat go_step
  with_reducible exact RG.xB hw9
 ·rfl
 iterate 5
  apply RG.xC
  ·intro w9 hw9
   repeat go_step
   with_reducible exact RG.xB hw9
  ·rfl
 refine RG.xW (fun w9 hw9 => ?_)
 clear W0 W4 A1 lo0 lo1 ha0 ha1 a0 a1 b0 b1 u00 u01 u40 u41
 go_upto_region 2 with fail
 have HM2 : Hid (FhM w hs w9.drew) := hI' ⟨hw9.out.bh,hw9.out.bel.drew⟩
 refine RG.xR (fun W => Hid (FhM w hs W)) (by kernel_rfl) (by kernel_rfl) HM2 ?_
 clear HM2 hw9
 iterate 12
  apply RG.xC
  ·intro w9 hw9
   obtain ⟨q0,q1,q2,q3,q4⟩ := HQ.out w9 hw9
   repeat go_step
   with_reducible exact RG.xB hw9
  ·rfl
 apply RG.xC
 ·intro w9 hw9
  repeat go_step
  refine (W8.out _).mono ?_
  rintro e w10 ⟨rfl,yA⟩
  simp only []
  repeat go_step
  with_reducible refine RG.xB ?_
  exact hI' (hw9.out.below yA)
 ·rfl
 apply RG.xC
 ·intro w9 hw9
  repeat go_step
  with_reducible exact RG.xB hw9
 ·rfl
 apply RG.xC
 ·intro w9 hw9
  repeat go_step
  refine (W12.out _).mono ?_
  rintro e w10 ⟨rfl,yA⟩
  simp only []
  repeat go_step
  with_reducible refine RG.xB ?_
  exact hI' (hw9.out.below yA)
 ·rfl
 iterate 3
  apply RG.xC
  ·intro w9 hw9
   repeat go_step
   with_reducible exact RG.xB hw9
  ·rfl
 obtain ⟨lo2,hlo⟩ : ∃ x,bits .or .u64 (bits .or .u64 (c / 4096) (IntKind.u64.wrap (d * 16384))) (IntKind.u64.wrap (e * 1099511627776)) = x := ⟨_,rfl⟩
 obtain ⟨lo0,lo1⟩ := hlo ▸ zH .or (bits .or .u64 (c / 4096) (IntKind.u64.wrap (d * 16384))) (IntKind.u64.wrap (e * 1099511627776))
 obtain ⟨hb,hhb⟩ : ∃ x,bits .or .u64 y8 (IntKind.u64.wrap (y12 * 4294967296)) = x := ⟨_,rfl⟩
 obtain ⟨hb0,hb1⟩ := hhb ▸ zH .or y8 (IntKind.u64.wrap (y12 * 4294967296))
 rw [hlo,hhb]
 have xJs := HHW.out
 rw [hlo,hhb] at xJs
 clear hlo hhb HHW
 have hh0 := xE5 (lo2 + hb + ov)
 rw [xJs] at hh0
 obtain ⟨h0,h1⟩ := hh0
 obtain ⟨ov2,hov2⟩ : ∃ x,(lo2 + hb + ov) / 18446744073709551616 = x := ⟨_,rfl⟩
 have A2 : Hid (∀ W,(callFunc 195 #[.int .u64 lo2,.int .u64 hb,.int .u64 ov]).run Tryz.prog W = .ok (.value (.tuple #[.int .u64 hw,.int .u64 ov2])) W) := hI' (fun W => by
  have h := yC7 lo2 hb ov lo0 hb0 ho0 ho1 W
  rw [xJs,hov2] at h
  exact h)
 clear xJs hov2
 apply RG.xC
 ·intro w9 hw9
  have q9 := A2.out w9
  repeat go_step
  with_reducible exact RG.xB hw9
 ·rfl
 iterate 5
  apply RG.xC
  ·intro w9 hw9
   repeat go_step
   with_reducible exact RG.xB hw9
  ·rfl
 refine RG.xW (fun w9 hw9 => ?_)
 clear W8 W12 A2 lo0 lo1 hb0 hb1 c0 c1 d0 d1 e0 e1 u80 u81 uc0 uc1 HQ ho0 ho1
 have HO0 : Hid (FhM w hs (w9.alloc (.cells (yJ (xQ 16)) 292)) ∧ (w9.alloc (.cells (yJ (xQ 16)) 292)).heap[w9.heap.size]? = some (.cells (yJ (xQy lw hw 0)) 292 (0,0)) ∧ w.heap.size < w9.heap.size) := hI' ⟨⟨xP hw9.out.bh _,hw9.out.bel.alloc hw9.out.bel.size _⟩,xM _ _,xI hw9.out.bh⟩
 have HOS : Hid (∀ i,xQy lw hw (i + 1) = ((xQy lw hw i).set i (oct (lw / 2 ^ (8 * i)))).set (8 + i) (oct (hw / 2 ^ (8 * i)))) := hI' (fun i => rfl)
 have HOL := hI' (fun i => xJb lw hw i)
 go_upto_region 4 with fail
 refine (fun (h : ∀ W3,Hid (FhM w hs W3 ∧ W3.heap[w9.heap.size]? = some (.cells (yJ (xQy lw hw 0)) 292 (0,0)) ∧ w.heap.size < w9.heap.size) → Code.wp _ _ _ _ W3) => h _ HO0) ?_
 clear HO0 hw9
 generalize w9.heap.size = g
 intro w3 hw3
 go_wp2_with fail
 go_loopw [53] (fun iv W => ∃ i : Nat,i ≤ 8 ∧ iv = .int .i64 i ∧ Hid (FhM w hs W ∧ W.heap[g]? = some (.cells (yJ (xQy lw hw i)) 292 (0,0)) ∧ w.heap.size < g)) (fun iv _ => 8 - (intOf iv).toNat)
 case atStart => exact ⟨0,by decide,rfl,hw3⟩
 case round =>
  clear hw3
  rename World => wi
  obtain ⟨i,hi,rfl,hr⟩ := hrel
  by_cases hlt : i < 8
  ·have HS1 := hI' (HOS.out i)
   have hol := HOL.out i
   generalize xQy lw hw i = l at hr HS1 hol
   have hg := hr.out.2.2
   have q0 := xA hr.out.2.1 i
   rw [tL (by omega)] at q0
   have q1 := xK hr.out.2.1 i
   generalize ((l.getD i 0).toNat : Int) = old at q0
   have HA : Hid (FhM w hs (wi.setCell ⟨g,i,none⟩ (.int .u8 (lw / 2 ^ (8 * i) % 256))) ∧ (wi.setCell ⟨g,i,none⟩ (.int .u8 (lw / 2 ^ (8 * i) % 256))).heap[g]? = some (.cells (yJ (l.set i (oct (lw / 2 ^ (8 * i))))) 292 (0,0))) := hI' (by
    refine ⟨⟨hr.out.1.bh.far (p := ⟨g,i,none⟩) (by simp only []; omega) _,hr.out.1.bel.setCell (p := ⟨g,i,none⟩) (by simp only []; omega) _⟩,?_⟩
    have h := yB hr.out.2.1 i (.int .u8 (lw / 2 ^ (8 * i) % 256))
    rw [xDf] at h
    exact h)
   have HG := hI' hg
   have HL1 : Hid ((l.set i (oct (lw / 2 ^ (8 * i)))).length = 16) := hI' (by rw [List.length_set]; exact hol)
   clear hr hol hg
   generalize l.set i (oct (lw / 2 ^ (8 * i))) = l1 at HA HS1 HL1
   go_upto_region 8 with fail
   clear q0 q1
   refine (fun (h : ∀ W3,Hid (FhM w hs W3 ∧ W3.heap[g]? = some (.cells (yJ l1) 292 (0,0))) → Code.wp _ _ _ _ W3) => h _ HA) ?_
   clear HA
   intro wk hk
   have q0 := xA hk.out.2 (8 + i)
   rw [tL (by rw [HL1.out]; omega)] at q0
   have q1 := xK hk.out.2 (8 + i)
   generalize ((l1.getD (8 + i) 0).toNat : Int) = old at q0
   have HB : Hid (FhM w hs (wk.setCell ⟨g,8 + i,none⟩ (.int .u8 (hw / 2 ^ (8 * i) % 256))) ∧ (wk.setCell ⟨g,8 + i,none⟩ (.int .u8 (hw / 2 ^ (8 * i) % 256))).heap[g]? = some (.cells (yJ (xQy lw hw (i + 1))) 292 (0,0)) ∧ w.heap.size < g) := hI' (by
    have hg := HG.out
    refine ⟨⟨hk.out.1.bh.far (p := ⟨g,8 + i,none⟩) (by simp only []; omega) _,hk.out.1.bel.setCell (p := ⟨g,8 + i,none⟩) (by simp only []; omega) _⟩,?_,hg⟩
    have h := yB hk.out.2 (8 + i) (.int .u8 (hw / 2 ^ (8 * i) % 256))
    rw [xDf] at h
    rw [HS1.out]
    exact h)
   clear hk HL1
   go_wp2
   exact ⟨⟨i + 1,by omega,by go_num,HB⟩,by simp [intOf]; omega⟩
  ·have hie : i = 8 := by omega
   have HFi := hI' (HF.out i hie)
   have hneg : ¬ ((i : Int) < 8) := by omega
   have HT := xCr (t := 292) hr.out.2.1 16 16 (HOL.out i)
   clear HF HOS HOL hlt hi hie
   generalize xQy lw hw i = l at hr HFi HT
   go_wp2
   go_ret
   rw [HFi.out]
   exact ⟨rfl,hr.out.1.bel⟩
end Go.Proofs.SH

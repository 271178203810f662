/- Contracts of functions of the program. Conditions: those that each theorem states. -/
import Derived.Test.YtnaiekglbemhcaaGreatDoorVaultFreshProofB24
set_option maxHeartbeats 8000000
set_option maxRecDepth 100000
namespace Mailsack
def rX (s : ByteArray) : List Int := if s.size = 16 then (zT (qK s)).list.set 4 (Go.IntKind.u64.wrap ((zT (qK s)).e + 16777216)) else (zT (qK s)).list
def wJ (h b : List Int) : Nat → List Int
 | 0 => h
 | i + 1 => (wJ h b i).set i (Go.IntKind.u64.wrap ((wJ h b i).getD i 0 + b.getD i 0))
theorem xFr (h b : List Int) : ∀ i,(wJ h b i).length = h.length
 | 0 => rfl
 | i + 1 => by rw [wJ,List.length_set,xFr h b i]
theorem xQ4 {h : List Int} (b : List Int) (hh : yV h) : ∀ i,yV (wJ h b i)
 | 0 => hh
 | i + 1 => (xQ4 b hh i).set i (wrap_u64 _)
theorem xIm (s : ByteArray) : (rX s).length = 5 := by
 unfold rX
 split <;> simp [L5.list]
theorem xPz (s : ByteArray) : yV (rX s) := by
 unfold rX
 split
 ·exact (L5.all (xAu _)).set 4 (wrap_u64 _)
 ·exact L5.all (xAu _)
def qR (n k : Nat) : Nat := if 16 * k ≤ n then 16 * k else n
def xZ9 (n k : Nat) : Nat := if 16 ≤ n - qR n k then 16 else n - qR n k
theorem xU3 (n k : Nat) : qR n (k + 1) = qR n k + xZ9 n k := by
 unfold xZ9 qR
 repeat' split
 all_goals omega
theorem yAv (n k : Nat) : qR n k ≤ n := by
 unfold qR
 split <;> omega
def xM0 (r : List Int) (s : ByteArray) : Nat → List Int
 | 0 => List.replicate 5 0
 | k + 1 => xXt (wJ (xM0 r s k) (rX (s.extract (qR s.size k) (qR s.size k + xZ9 s.size k))) 5) r
theorem xX1 (r : List Int) (s : ByteArray) : ∀ k,(xM0 r s k).length = 5
 | 0 => by simp [xM0]
 | k + 1 => by rw [xM0,xJj]
theorem tagI_u (r : List Int) (s : ByteArray) : ∀ k,yV (xM0 r s k)
 | 0 => xC4 5
 | _ + 1 => mulP_u _ _
def tagP (key s : ByteArray) : ByteArray := finP (rQ (xM0 (jS (key.extract 0 16)).list s ((s.size + 15) / 16))) (key.extract 16 32)
theorem xT9 (key s : ByteArray) : (tagP key s).size = 16 := xVj _ _
end Mailsack
namespace Go.Proofs.SH
open Go.RowKit Mailsack MM BB
structure jJ (w : World) (g : Nat) (rs hs : List Int) (W : World) : Prop where
 br : uR W g rs
 bh : uR W (g + 1) hs
 ge : w.heap.size ≤ g
 bel : Below w.heap.size w W
theorem jJ.below {w : World} {g : Nat} {rs hs : List Int} {W W' : World} (h : jJ w g rs hs W) (hb : Below W.heap.size W W') : jJ w g rs hs W' :=
 ⟨xE h.br hb (xI h.br),xE h.bh hb (xI h.bh),h.ge,h.bel.trans (hb.mono h.bel.size)⟩
theorem jJ.put {w : World} {g : Nat} {rs hs : List Int} {W : World} (h : jJ w g rs hs W) (i : Nat) (x : Int) : jJ w g rs (hs.set i x) (W.setCell ⟨g + 1,i,none⟩ (.int .u64 x)) := by
 have hg := h.ge
 exact ⟨h.br.far (p := ⟨g + 1,i,none⟩) (by simp only []; omega) _,h.bh.put i x,hg,h.bel.setCell (p := ⟨g + 1,i,none⟩) (by simp only []; omega) _⟩
theorem yAb (key s : ByteArray) (w : World) (hk : key.size = 32) (hs : s.size ≤ 1099511627776) :
  Calls Tryz.prog 165 #[.string key,.string s] w fun e w' => e = .returned (.tuple #[.string (tagP key s),.bool true]) ∧ Below w.heap.size w w' := by
 have hki : (key.size : Int) = 32 := by omega
 have h16 : (key.extract 0 16).size = 16 := by simp; omega
 have HCL := hI' (fun W => xGt (key.extract 0 16) W h16)
 have hrl : (jS (key.extract 0 16)).list.length = 5 := rfl
 have hru := L5.all (xW1 (key.extract 0 16))
 have HA : Hid (#[Value.int .u64 (jS (key.extract 0 16)).a,Value.int .u64 (jS (key.extract 0 16)).b,Value.int .u64 (jS (key.extract 0 16)).c,Value.int .u64 (jS (key.extract 0 16)).d,Value.int .u64 (jS (key.extract 0 16)).e] = xG (jS (key.extract 0 16)).list) := hI' rfl
 have HP : Hid (∀ n,n = (s.size + 15) / 16 → tagP key s = finP (rQ (xM0 (jS (key.extract 0 16)).list s n)) (key.extract 16 32)) := hI' (fun n hn => by rw [hn]; rfl)
 rw [HA.out] at HCL
 clear HA
 generalize (jS (key.extract 0 16)).list = rs at HCL hrl hru HP
 have HIr : Hid ((Tryz.prog.info? 276).map (·.size) = some (xG rs).size) := hI' (xBt hrl)
 have HZr : Hid ((xG (List.replicate 5 0)).size = (xG rs).size) := hI' (by rw [xV,xV,hrl]; rfl)
 have HK16 := hI' h16
 clear h16 hk
 go_enter Tryz.func165,Tryz.ntmps165
 go_upto_region 3 with fail
 refine wp_region_lit ?_
 repeat go_step
 refine (HCL.out _).mono ?_
 rintro e w5 ⟨rfl,hb⟩
 simp only []
 rename ∀ (a : Act) (w : World),wpList _ _ _ _ a w → _ => hk
 refine hk _ _ ?_
 clear hk
 iterate 3 go_step
 refine wpList_store_row rfl _ _ _ rfl w5.heap.size (xG rs) rfl rfl _ (xG (List.replicate 5 0)) (xM _ _) HIr.out HZr.out (xS _) ?_
 have H6 : Hid (uR ((w5.alloc (.cells (xG (List.replicate 5 0)) 276)).setRow w5.heap.size (xG rs)) w5.heap.size rs ∧ w.heap.size ≤ w5.heap.size ∧ Below w.heap.size w ((w5.alloc (.cells (xG (List.replicate 5 0)) 276)).setRow w5.heap.size (xG rs)) ∧ ((w5.alloc (.cells (xG (List.replicate 5 0)) 276)).setRow w5.heap.size (xG rs)).heap.size = w5.heap.size + 1) := hI' ⟨setRow_heap _ _ _ _ _ _ (xM _ _),hb.size,below_setRow (hb.alloc hb.size _) hb.size _,by rw [setRow_size,vD]⟩
 refine (fun (h : ∀ W3,Hid (uR W3 w5.heap.size rs ∧ w.heap.size ≤ w5.heap.size ∧ Below w.heap.size w W3 ∧ W3.heap.size = w5.heap.size + 1) → wpList _ _ _ _ _ W3) => h _ H6) ?_
 clear H6 hb
 generalize w5.heap.size = g
 intro w6 h6
 have hsz := h6.out.2.2.2
 have H7 : Hid (jJ w g rs (xM0 rs s 0) (w6.alloc (.cells (xG (List.replicate 5 0)) 276))) := hI' ⟨xP h6.out.1 _,by have h := xM w6 (.cells (xG (List.replicate 5 0)) 276); rw [hsz] at h; exact h,h6.out.2.1,h6.out.2.2.1.alloc h6.out.2.2.1.size _⟩
 clear h6
 go_wp2_with fail
 clear hsz
 refine (fun (h : ∀ W3,Hid (jJ w g rs (xM0 rs s 0) W3) → Code.wp _ _ _ _ W3) => h _ H7) ?_
 clear H7
 intro w7 h7
 have HTS : Hid (∀ k n,n = 5 → xM0 rs s (k + 1) = xXt (wJ (xM0 rs s k) (rX (s.extract (qR s.size k) (qR s.size k + xZ9 s.size k))) n) rs) := hI' (fun k n hn => by rw [hn]; rfl)
 have HTL := hI' (fun k => xX1 rs s k)
 have HTU := hI' (fun k => tagI_u rs s k)
 go_loopw [1] (fun tv W => ∃ k : Nat,k ≤ (s.size + 15) / 16 ∧ tv = .string (s.extract (qR s.size k) s.size) ∧ Hid (jJ w g rs (xM0 rs s k) W)) (fun tv _ => lenOf tv)
 case atStart => exact ⟨0,by omega,by simp [qR],h7⟩
 case round =>
  clear h7
  rename World => wk
  obtain ⟨k,hk,rfl,hr⟩ := hrel
  have hoff := yAv s.size k
  have hts : (s.extract (qR s.size k) s.size).size = s.size - qR s.size k := by simp
  by_cases hlt : qR s.size k < s.size
  ·have hz : xZ9 s.size k = 16 ∧ 16 ≤ s.size - qR s.size k ∨ xZ9 s.size k = s.size - qR s.size k ∧ s.size - qR s.size k < 16 := by unfold xZ9; split <;> omega
   have hoz := xU3 s.size k
   have HSK := hI' (HTS.out k)
   have HKB : Hid (k + 1 ≤ (s.size + 15) / 16) := hI' (by unfold qR at hlt; split at hlt <;> omega)
   generalize qR s.size k = o at hoff hts hlt hz hoz HSK ⊢
   generalize xZ9 s.size k = z at hz hoz HSK
   obtain ⟨m,hm⟩ : ∃ m,s.size - o = m := ⟨_,rfl⟩
   rw [hm] at hts hz
   have h1 : (s.extract o s.size).extract 0 z = s.extract o (o + z) := by
    rw [ByteArray.extract_extract]
    congr 1
    omega
   have h2 : (s.extract o s.size).extract z m = s.extract (o + z) s.size := by
    rw [ByteArray.extract_extract]
    congr 1
    omega
   have hcz : (s.extract o (o + z)).size = z := by simp; omega
   have hzm : Hid (min (16 : Int) m = z) := hI' (by omega)
   have hz16 : z ≤ 16 := by omega
   have hzm2 : z ≤ m := by omega
   have hm0 : (0 : Int) < m := by omega
   have HNX : Hid (s.extract (qR s.size (k + 1)) s.size = s.extract (o + z) s.size) := hI' (by rw [hoz])
   have HNS : Hid ((s.extract (o + z) s.size).size + z = m ∧ 0 < z) := hI' (by rw [ByteArray.size_extract]; omega)
   generalize s.extract (o + z) s.size = nx at h2 HNX HNS
   generalize s.extract o (o + z) = ck at h1 hcz HSK
   generalize s.extract o s.size = t at hts h1 h2 ⊢
   clear hoff hlt hz hm
   go_upto_region 7 with fail
   rw [hzm.out]
   clear hzm
   have HPD := hI' (fun W => xQx ck W (by omega))
   have HSP := hI' (fun W => xKk (qK ck) W (xU1 ck (by omega)))
   have HB : Hid (#[Value.int .u64 (zT (qK ck)).a,Value.int .u64 (zT (qK ck)).b,Value.int .u64 (zT (qK ck)).c,Value.int .u64 (zT (qK ck)).d,Value.int .u64 (zT (qK ck)).e] = xG (zT (qK ck)).list) := hI' rfl
   rw [HB.out] at HSP
   clear HB
   have hbl : (zT (qK ck)).list.length = 5 := rfl
   obtain ⟨e0,e1⟩ : U64 (zT (qK ck)).e := (xAu (qK ck)).2.2.2.2
   have HE4 : Hid ((zT (qK ck)).list.getD 4 0 = (zT (qK ck)).e) := hI' rfl
   have HBK : Hid (rX ck = if ck.size = 16 then (zT (qK ck)).list.set 4 (IntKind.u64.wrap ((zT (qK ck)).e + 16777216)) else (zT (qK ck)).list) := hI' rfl
   have hbu := L5.all (xAu (qK ck))
   generalize (zT (qK ck)).e = e4 at e0 e1 HE4 HBK
   generalize (zT (qK ck)).list = bs at HSP hbl HE4 HBK hbu
   have HIb : Hid ((Tryz.prog.info? 276).map (·.size) = some (xG bs).size) := hI' (xBt hbl)
   have HZb : Hid ((xG (List.replicate 5 0)).size = (xG bs).size) := hI' (by rw [xV,xV,hbl]; rfl)
   refine wp_region_lit ?_
   repeat go_step
   refine (HPD.out _).mono ?_
   rintro e wp1 ⟨rfl,hb⟩
   have hr1 := hI' (hr.out.below hb)
   clear hr hb HPD
   simp only []
   rename ∀ (a : Act) (w : World),wpList _ _ _ _ a w → _ => hkk
   refine hkk _ _ ?_
   clear hkk
   repeat go_step
   refine (HSP.out _).mono ?_
   rintro e wp2 ⟨rfl,hb⟩
   have hr2 := hI' (hr1.out.below hb)
   clear hr1 hb HSP
   simp only []
   rename ∀ (a : Act) (w : World),wpList _ _ _ _ a w → _ => hkk
   refine hkk _ _ ?_
   clear hkk
   iterate 3 go_step
   refine wpList_store_row rfl _ _ _ rfl wp2.heap.size (xG bs) rfl rfl _ (xG (List.replicate 5 0)) (xM _ _) HIb.out HZb.out (xS _) ?_
   have hgl := xI hr2.out.bh
   have hge := hr2.out.ge
   have H8 : Hid (jJ w g rs (xM0 rs s k) ((wp2.alloc (.cells (xG (List.replicate 5 0)) 276)).setRow wp2.heap.size (xG bs)) ∧ uR ((wp2.alloc (.cells (xG (List.replicate 5 0)) 276)).setRow wp2.heap.size (xG bs)) wp2.heap.size bs ∧ g + 1 < wp2.heap.size) := hI' ⟨⟨by unfold uR; rw [setRow_other _ _ _ _ (by omega)]; exact xP hr2.out.br _,by unfold uR; rw [setRow_other _ _ _ _ (by omega)]; exact xP hr2.out.bh _,hge,below_setRow (hr2.out.bel.alloc hr2.out.bel.size _) (by omega) _⟩,setRow_heap _ _ _ _ _ _ (xM _ _),hgl⟩
   refine (fun (h : ∀ W3,Hid (jJ w g rs (xM0 rs s k) W3 ∧ uR W3 wp2.heap.size bs ∧ g + 1 < wp2.heap.size) → wpList _ _ _ _ _ W3) => h _ H8) ?_
   clear H8 hgl hge hr2 HIb HZb
   generalize wp2.heap.size = g2
   intro w8 h8
   have h0l := HTL.out k
   have h0u := HTU.out k
   generalize xM0 rs s k = hs0 at h8 HSK h0l h0u
   have q4 := h8.out.2.1.cell (i := 4) (by omega)
   have y4 := h8.out.2.1.free 4
   rw [HE4.out] at q4
   by_cases h16 : z = 16
   ·have H9 : Hid (jJ w g rs hs0 (w8.setCell ⟨g2,4,none⟩ (.int .u64 (IntKind.u64.wrap (e4 + 16777216)))) ∧ uR (w8.setCell ⟨g2,4,none⟩ (.int .u64 (IntKind.u64.wrap (e4 + 16777216)))) g2 (rX ck) ∧ g + 1 < g2) := hI' (by
     obtain ⟨t1,t2,t3⟩ := h8.out
     have t4 := t1.ge
     refine ⟨⟨t1.br.far (p := ⟨g2,4,none⟩) (by simp only []; omega) _,t1.bh.far (p := ⟨g2,4,none⟩) (by simp only []; omega) _,t4,t1.bel.setCell (p := ⟨g2,4,none⟩) (by simp only []; omega) _⟩,?_,t3⟩
     rw [HBK.out,if_pos (by omega)]
     exact t2.put 4 _)
    have hzi : (z : Int) = 16 := by omega
    clear HBK HE4
    clear h8
    go_upto_region 10 with fail
    refine (fun (h : ∀ W3,Hid (jJ w g rs hs0 W3 ∧ uR W3 g2 (rX ck) ∧ g + 1 < g2) → Code.wp _ _ _ _ W3) => h _ H9) ?_
    clear H9
    intro w9 h9
    have hbkl := xIm ck
    have hbku := xPz ck
    generalize rX ck = bk at HSK h9 hbkl hbku
    have HA0 : Hid (jJ w g rs (wJ hs0 bk 0) w9 ∧ uR w9 g2 bk ∧ g + 1 < g2) := hI' h9.out
    have HAS : Hid (∀ i,wJ hs0 bk (i + 1) = (wJ hs0 bk i).set i (IntKind.u64.wrap ((wJ hs0 bk i).getD i 0 + bk.getD i 0))) := hI' (fun i => rfl)
    have HAL : Hid (∀ i,(wJ hs0 bk i).length = 5) := hI' (fun i => by rw [xFr,h0l])
    have HAU := hI' (fun i => xQ4 bk h0u i)
    have HBU := hI' hbku
    clear h9
    go_wp2_with fail
    go_loopw [34] (fun iv W => ∃ i : Nat,i ≤ 5 ∧ iv = .int .i64 i ∧ Hid (jJ w g rs (wJ hs0 bk i) W ∧ uR W g2 bk ∧ g + 1 < g2)) (fun iv _ => 5 - (intOf iv).toNat)
    case atStart => exact ⟨0,by decide,rfl,HA0⟩
    case round =>
     clear HA0
     rename World => wi
     obtain ⟨i,hi,rfl,hri⟩ := hrel
     by_cases hlt : i < 5
     ·have HS1 := hI' (HAS.out i)
      have hol := HAL.out i
      have hou := HAU.out i i
      have hbi := HBU.out i
      generalize wJ hs0 bk i = l at hri HS1 hol hou
      obtain ⟨x,hx⟩ : ∃ x,l.getD i 0 = x := ⟨_,rfl⟩
      obtain ⟨y,hy⟩ : ∃ y,bk.getD i 0 = y := ⟨_,rfl⟩
      rw [hx] at HS1 hou
      rw [hy] at HS1 hbi
      obtain ⟨x0,x1⟩ := hou
      obtain ⟨y0,y1⟩ := hbi
      have HQ : Hid (∀ W,Hid (jJ w g rs l W ∧ uR W g2 bk ∧ g + 1 < g2) → W.cell? ⟨g + 1,i,none⟩ = some (.int .u64 x) ∧ W.cell? ⟨g2,i,none⟩ = some (.int .u64 y) ∧ W.frozen? ⟨g + 1,i,none⟩ = false) := hI' (fun W h => by
       refine ⟨?_,?_,h.out.1.bh.free i⟩
       ·rw [h.out.1.bh.cell (i := i) (by omega),hx]
       ·rw [h.out.2.1.cell (i := i) (by omega),hy])
      have HPT : Hid (∀ W,Hid (jJ w g rs l W ∧ uR W g2 bk ∧ g + 1 < g2) → Hid (jJ w g rs (wJ hs0 bk (i + 1)) (W.setCell ⟨g + 1,i,none⟩ (.int .u64 (IntKind.u64.wrap (x + y)))) ∧ uR (W.setCell ⟨g + 1,i,none⟩ (.int .u64 (IntKind.u64.wrap (x + y)))) g2 bk ∧ g + 1 < g2)) := hI' (fun W h => hI' (by
       refine ⟨by rw [HS1.out]; exact h.out.1.put i _,h.out.2.1.far (p := ⟨g + 1,i,none⟩) (by have := h.out.2.2; simp only []; omega) _,h.out.2.2⟩))
      have hii : (i : Int) < 5 := by omega
      have HBI : Hid (i < bk.length) := hI' (by omega)
      have HY := hI' hy
      clear hx hy hol
      obtain ⟨l1,hl1⟩ : ∃ x,wJ hs0 bk (i + 1) = x := ⟨_,rfl⟩
      rw [hl1] at HPT
      have HL1 := hI' hl1
      clear hl1 HS1
      go_upto_region 13 with fail
      refine RG.yN 9 (fun L W => Hid (jJ w g rs (if L 8 then l1 else l) W ∧ uR W g2 bk ∧ g + 1 < g2)) (fun L L' W h hI => by rw [← h 8 (by decide)]; exact hI) (by kernel_rfl) (by kernel_rfl) rfl (hI' ⟨⟨hri.out.1.br,hri.out.1.bh,hri.out.1.ge,hri.out.1.bel.drew⟩,hri.out.2⟩) ?_
      iterate 2
       apply RG.xJ
       ·rfl
       ·rfl
       ·intro L w9 h0 hcl xH hw9
        repeat go_step
        with_reducible refine RG.xB ?_
        exact ⟨xH,hw9⟩
       ·rfl
      apply RG.xJ
      ·rfl
      ·rfl
      ·intro L w9 h0 hcl xH hw9
       have e1 := hcl.not 6 (i := 8) h0 (by kernel_rfl)
       have hs9 := hw9
       rw [e1,if_neg (by simp)] at hs9
       have q := (HQ.out w9 hs9).1
       clear e1 hs9
       repeat go_step
       with_reducible refine RG.xB ?_
       exact ⟨xH,hw9⟩
      ·rfl
      iterate 2
       apply RG.xJ
       ·rfl
       ·rfl
       ·intro L w9 h0 hcl xH hw9
        repeat go_step
        with_reducible refine RG.xB ?_
        exact ⟨xH,hw9⟩
       ·rfl
      apply RG.xJ
      ·rfl
      ·rfl
      ·intro L w9 h0 hcl xH hw9
       have q : w9.cell? ⟨g2,i,none⟩ = some (.int .u64 y) := by rw [hw9.out.2.1.cell (i := i) HBI.out,HY.out]
       repeat go_step
       with_reducible refine RG.xB ?_
       exact ⟨xH,hw9⟩
      ·rfl
      iterate 2
       apply RG.xJ
       ·rfl
       ·rfl
       ·intro L w9 h0 hcl xH hw9
        repeat go_step
        with_reducible refine RG.xB ?_
        exact ⟨xH,hw9⟩
       ·rfl
      apply RG.xJ
      ·rfl
      ·rfl
      ·intro L w9 h0 hcl xH hw9
       have hs9 := hw9
       rw [h0,if_neg (by simp)] at hs9
       obtain ⟨q1,q2,q3⟩ := HQ.out w9 hs9
       have hp := HPT.out w9 hs9
       repeat go_step
       with_reducible refine RG.xB ?_
       refine ⟨xH,?_⟩
       show Hid (jJ w g rs (if (true : Bool) = true then l1 else l) _ ∧ uR _ g2 bk ∧ g + 1 < g2)
       rw [if_pos rfl]
       with_reducible exact hp
      ·rfl
      refine RG.yP (fun w9 hw9 => ?_)
      go_wp2
      exact ⟨⟨i + 1,by omega,by go_num,by rw [HL1.out]; exact hw9⟩,by simp [intOf]; omega⟩
     ·have hie : i = 5 := by omega
      have hneg : ¬ ((i : Int) < 5) := by omega
      have HSi := hI' (HSK.out i hie)
      have hol := HAL.out i
      have hou : yV (wJ hs0 bk i) := HAU.out i
      generalize wJ hs0 bk i = l at hri HSi hol hou
      have HIl : Hid ((Tryz.prog.info? 276).map (·.size) = some (xG l).size) := hI' (xBt hol)
      have HML := hI' (fun W => xUa l rs W hol hou hrl hru)
      obtain ⟨l2,hl2⟩ : ∃ x,xXt l rs = x := ⟨_,rfl⟩
      have xZm : l2.length = 5 := hl2 ▸ xJj l rs
      rw [hl2] at HML HSi
      have HI2 : Hid ((Tryz.prog.info? 276).map (·.size) = some (xG l2).size) := hI' (xBt xZm)
      have HZ2 : Hid ((xG l).size = (xG l2).size) := hI' (by rw [xV,xV,hol,xZm])
      clear hl2 hol hou HSK HAS HAL HAU HBU hie hi hlt
      go_upto_region 15 with fail
      refine wp_region_lit ?_
      refine wpList_load_row rfl _ _ rfl (g + 1) rfl _ (xG l) (0,0) _ hri.out.1.bh Tryz.underlying276 rfl HIl.out ?_
      refine wpList_load_row rfl _ _ rfl g rfl _ (xG rs) (0,0) _ hri.out.1.br Tryz.underlying276 rfl HIr.out ?_
      repeat go_step
      refine (HML.out _).mono ?_
      rintro e wm ⟨rfl,hb⟩
      have hm := hI' (hri.out.1.below hb)
      clear hri hb HML
      simp only []
      rename ∀ (a : Act) (w : World),wpList _ _ _ _ a w → _ => hkk
      refine hkk _ _ ?_
      clear hkk
      refine wpList_store_row rfl _ _ _ rfl (g + 1) (xG l2) rfl rfl _ _ hm.out.bh HI2.out HZ2.out (xS _) ?_
      have hm2 : Hid (jJ w g rs l2 (wm.setRow (g + 1) (xG l2))) := hI' ⟨by unfold uR; rw [setRow_other _ _ _ _ (by omega)]; exact hm.out.br,setRow_heap _ _ _ _ _ _ hm.out.bh,hm.out.ge,below_setRow hm.out.bel (by have := hm.out.ge; omega) _⟩
      refine (fun (h : ∀ W3,Hid (jJ w g rs l2 W3) → wpList _ _ _ _ _ W3) => h _ hm2) ?_
      clear hm hm2
      intro wn hwn
      go_wp2
      refine ⟨⟨k + 1,HKB.out,by first | (rw [HNX.out]; done) | rw [HNX.out,← h2,h16],by rw [HSi.out]; exact hwn⟩,?_⟩
      have hns := HNS.out
      simp [lenOf]
      omega
   ·have H9 : Hid (jJ w g rs hs0 w8 ∧ uR w8 g2 (rX ck) ∧ g + 1 < g2) := hI' (by
     rw [HBK.out,if_neg (by omega)]
     exact h8.out)
    have hzi : ¬ ((z : Int) = 16) := by omega
    clear HBK HE4
    clear h8
    go_upto_region 10 with fail
    refine (fun (h : ∀ W3,Hid (jJ w g rs hs0 W3 ∧ uR W3 g2 (rX ck) ∧ g + 1 < g2) → Code.wp _ _ _ _ W3) => h _ H9) ?_
    clear H9
    intro w9 h9
    have hbkl := xIm ck
    have hbku := xPz ck
    generalize rX ck = bk at HSK h9 hbkl hbku
    have HA0 : Hid (jJ w g rs (wJ hs0 bk 0) w9 ∧ uR w9 g2 bk ∧ g + 1 < g2) := hI' h9.out
    have HAS : Hid (∀ i,wJ hs0 bk (i + 1) = (wJ hs0 bk i).set i (IntKind.u64.wrap ((wJ hs0 bk i).getD i 0 + bk.getD i 0))) := hI' (fun i => rfl)
    have HAL : Hid (∀ i,(wJ hs0 bk i).length = 5) := hI' (fun i => by rw [xFr,h0l])
    have HAU := hI' (fun i => xQ4 bk h0u i)
    have HBU := hI' hbku
    clear h9
    go_wp2_with fail
    go_loopw [34] (fun iv W => ∃ i : Nat,i ≤ 5 ∧ iv = .int .i64 i ∧ Hid (jJ w g rs (wJ hs0 bk i) W ∧ uR W g2 bk ∧ g + 1 < g2)) (fun iv _ => 5 - (intOf iv).toNat)
    case atStart => exact ⟨0,by decide,rfl,HA0⟩
    case round =>
     clear HA0
     rename World => wi
     obtain ⟨i,hi,rfl,hri⟩ := hrel
     by_cases hlt : i < 5
     ·have HS1 := hI' (HAS.out i)
      have hol := HAL.out i
      have hou := HAU.out i i
      have hbi := HBU.out i
      generalize wJ hs0 bk i = l at hri HS1 hol hou
      obtain ⟨x,hx⟩ : ∃ x,l.getD i 0 = x := ⟨_,rfl⟩
      obtain ⟨y,hy⟩ : ∃ y,bk.getD i 0 = y := ⟨_,rfl⟩
      rw [hx] at HS1 hou
      rw [hy] at HS1 hbi
      obtain ⟨x0,x1⟩ := hou
      obtain ⟨y0,y1⟩ := hbi
      have HQ : Hid (∀ W,Hid (jJ w g rs l W ∧ uR W g2 bk ∧ g + 1 < g2) → W.cell? ⟨g + 1,i,none⟩ = some (.int .u64 x) ∧ W.cell? ⟨g2,i,none⟩ = some (.int .u64 y) ∧ W.frozen? ⟨g + 1,i,none⟩ = false) := hI' (fun W h => by
       refine ⟨?_,?_,h.out.1.bh.free i⟩
       ·rw [h.out.1.bh.cell (i := i) (by omega),hx]
       ·rw [h.out.2.1.cell (i := i) (by omega),hy])
      have HPT : Hid (∀ W,Hid (jJ w g rs l W ∧ uR W g2 bk ∧ g + 1 < g2) → Hid (jJ w g rs (wJ hs0 bk (i + 1)) (W.setCell ⟨g + 1,i,none⟩ (.int .u64 (IntKind.u64.wrap (x + y)))) ∧ uR (W.setCell ⟨g + 1,i,none⟩ (.int .u64 (IntKind.u64.wrap (x + y)))) g2 bk ∧ g + 1 < g2)) := hI' (fun W h => hI' (by
       refine ⟨by rw [HS1.out]; exact h.out.1.put i _,h.out.2.1.far (p := ⟨g + 1,i,none⟩) (by have := h.out.2.2; simp only []; omega) _,h.out.2.2⟩))
      have hii : (i : Int) < 5 := by omega
      have HBI : Hid (i < bk.length) := hI' (by omega)
      have HY := hI' hy
      clear hx hy hol
      obtain ⟨l1,hl1⟩ : ∃ x,wJ hs0 bk (i + 1) = x := ⟨_,rfl⟩
      rw [hl1] at HPT
      have HL1 := hI' hl1
      clear hl1 HS1
      go_upto_region 13 with fail
      refine RG.yN 9 (fun L W => Hid (jJ w g rs (if L 8 then l1 else l) W ∧ uR W g2 bk ∧ g + 1 < g2)) (fun L L' W h hI => by rw [← h 8 (by decide)]; exact hI) (by kernel_rfl) (by kernel_rfl) rfl (hI' ⟨⟨hri.out.1.br,hri.out.1.bh,hri.out.1.ge,hri.out.1.bel.drew⟩,hri.out.2⟩) ?_
      iterate 2
       apply RG.xJ
       ·rfl
       ·rfl
       ·intro L w9 h0 hcl xH hw9
        repeat go_step
        with_reducible refine RG.xB ?_
        exact ⟨xH,hw9⟩
       ·rfl
      apply RG.xJ
      ·rfl
      ·rfl
      ·intro L w9 h0 hcl xH hw9
       have e1 := hcl.not 6 (i := 8) h0 (by kernel_rfl)
       have hs9 := hw9
       rw [e1,if_neg (by simp)] at hs9
       have q := (HQ.out w9 hs9).1
       clear e1 hs9
       repeat go_step
       with_reducible refine RG.xB ?_
       exact ⟨xH,hw9⟩
      ·rfl
      iterate 2
       apply RG.xJ
       ·rfl
       ·rfl
       ·intro L w9 h0 hcl xH hw9
        repeat go_step
        with_reducible refine RG.xB ?_
        exact ⟨xH,hw9⟩
       ·rfl
      apply RG.xJ
      ·rfl
      ·rfl
      ·intro L w9 h0 hcl xH hw9
       have q : w9.cell? ⟨g2,i,none⟩ = some (.int .u64 y) := by rw [hw9.out.2.1.cell (i := i) HBI.out,HY.out]
       repeat go_step
       with_reducible refine RG.xB ?_
       exact ⟨xH,hw9⟩
      ·rfl
      iterate 2
       apply RG.xJ
       ·rfl
       ·rfl
       ·intro L w9 h0 hcl xH hw9
        repeat go_step
        with_reducible refine RG.xB ?_
        exact ⟨xH,hw9⟩
       ·rfl
      apply RG.xJ
      ·rfl
      ·rfl
      ·intro L w9 h0 hcl xH hw9
       have hs9 := hw9
       rw [h0,if_neg (by simp)] at hs9
       obtain ⟨q1,q2,q3⟩ := HQ.out w9 hs9
       have hp := HPT.out w9 hs9
       repeat go_step
       with_reducible refine RG.xB ?_
       refine ⟨xH,?_⟩
       show Hid (jJ w g rs (if (true : Bool) = true then l1 else l) _ ∧ uR _ g2 bk ∧ g + 1 < g2)
       rw [if_pos rfl]
       with_reducible exact hp
      ·rfl
      refine RG.yP (fun w9 hw9 => ?_)
      go_wp2
      exact ⟨⟨i + 1,by omega,by go_num,by rw [HL1.out]; exact hw9⟩,by simp [intOf]; omega⟩
     ·have hie : i = 5 := by omega
      have hneg : ¬ ((i : Int) < 5) := by omega
      have HSi := hI' (HSK.out i hie)
      have hol := HAL.out i
      have hou : yV (wJ hs0 bk i) := HAU.out i
      generalize wJ hs0 bk i = l at hri HSi hol hou
      have HIl : Hid ((Tryz.prog.info? 276).map (·.size) = some (xG l).size) := hI' (xBt hol)
      have HML := hI' (fun W => xUa l rs W hol hou hrl hru)
      obtain ⟨l2,hl2⟩ : ∃ x,xXt l rs = x := ⟨_,rfl⟩
      have xZm : l2.length = 5 := hl2 ▸ xJj l rs
      rw [hl2] at HML HSi
      have HI2 : Hid ((Tryz.prog.info? 276).map (·.size) = some (xG l2).size) := hI' (xBt xZm)
      have HZ2 : Hid ((xG l).size = (xG l2).size) := hI' (by rw [xV,xV,hol,xZm])
      clear hl2 hol hou HSK HAS HAL HAU HBU hie hi hlt
      go_upto_region 15 with fail
      refine wp_region_lit ?_
      refine wpList_load_row rfl _ _ rfl (g + 1) rfl _ (xG l) (0,0) _ hri.out.1.bh Tryz.underlying276 rfl HIl.out ?_
      refine wpList_load_row rfl _ _ rfl g rfl _ (xG rs) (0,0) _ hri.out.1.br Tryz.underlying276 rfl HIr.out ?_
      repeat go_step
      refine (HML.out _).mono ?_
      rintro e wm ⟨rfl,hb⟩
      have hm := hI' (hri.out.1.below hb)
      clear hri hb HML
      simp only []
      rename ∀ (a : Act) (w : World),wpList _ _ _ _ a w → _ => hkk
      refine hkk _ _ ?_
      clear hkk
      refine wpList_store_row rfl _ _ _ rfl (g + 1) (xG l2) rfl rfl _ _ hm.out.bh HI2.out HZ2.out (xS _) ?_
      have hm2 : Hid (jJ w g rs l2 (wm.setRow (g + 1) (xG l2))) := hI' ⟨by unfold uR; rw [setRow_other _ _ _ _ (by omega)]; exact hm.out.br,setRow_heap _ _ _ _ _ _ hm.out.bh,hm.out.ge,below_setRow hm.out.bel (by have := hm.out.ge; omega) _⟩
      refine (fun (h : ∀ W3,Hid (jJ w g rs l2 W3) → wpList _ _ _ _ _ W3) => h _ hm2) ?_
      clear hm hm2
      intro wn hwn
      go_wp2
      refine ⟨⟨k + 1,HKB.out,by first | (rw [HNX.out]; done) | rw [HNX.out,← h2,h16],by rw [HSi.out]; exact hwn⟩,?_⟩
      have hns := HNS.out
      simp [lenOf]
      omega
  ·have hke : k = (s.size + 15) / 16 := by unfold qR at hlt hoff; split at hlt <;> split at hoff <;> omega
   have HF := hI' (HP.out k hke)
   have hol := HTL.out k
   have hou := HTU.out k
   have h0 : s.size - qR s.size k = 0 := by omega
   rw [h0] at hts
   generalize s.extract (qR s.size k) s.size = t at hts ⊢
   generalize xM0 rs s k = l at hr HF hol hou
   have HIl : Hid ((Tryz.prog.info? 276).map (·.size) = some (xG l).size) := hI' (xBt hol)
   have HLE := hI' (fun W => xUg l W hol hou)
   have xZm : (rQ l).length = 5 := by rw [xRa,hol]
   have hl2u := xXz hou
   have hk2 : (key.extract 16 32).size = 16 := by simp; omega
   have hk3 : key.extract 16 32 = key.extract 16 key.size := by
    congr 1
    omega
   rw [hk3] at hk2 HF
   have HFI := hI' (fun W => xNm (rQ l) (key.extract 16 key.size) W xZm hl2u hk2)
   generalize rQ l = l2 at HLE HFI HF
   clear HP HTS HTL HTU HCL hke hk hoff hlt h0 hol hou xZm hl2u hk2 hk3
   go_upto_region 17 with fail
   refine RG.xR (fun W => Hid (jJ w g rs l W)) (by kernel_rfl) (by kernel_rfl) (hI' ⟨hr.out.br,hr.out.bh,hr.out.ge,hr.out.bel.drew⟩) ?_
   apply RG.xC
   ·intro w9 hw9
    refine wpList_load_row rfl _ _ rfl (g + 1) rfl _ (xG l) (0,0) _ hw9.out.bh Tryz.underlying276 rfl HIl.out ?_
    repeat go_step
    with_reducible exact RG.xB hw9
   ·rfl
   apply RG.xC
   ·intro w9 hw9
    repeat go_step
    refine (HLE.out _).mono ?_
    rintro e w10 ⟨rfl,yA⟩
    simp only []
    repeat go_step
    with_reducible refine RG.xB ?_
    exact hI' (hw9.out.below yA)
   ·rfl
   iterate 2
    apply RG.xC
    ·intro w9 hw9
     repeat go_step
     with_reducible exact RG.xB hw9
    ·rfl
   apply RG.xC
   ·intro w9 hw9
    repeat go_step
    refine (HFI.out _).mono ?_
    rintro e w10 ⟨rfl,yA⟩
    simp only []
    repeat go_step
    with_reducible refine RG.xB ?_
    exact hI' (hw9.out.below yA)
   ·rfl
   iterate 2
    apply RG.xC
    ·intro w9 hw9
     repeat go_step
     with_reducible exact RG.xB hw9
    ·rfl
   refine RG.xW (fun w9 hw9 => ?_)
   go_wp2
   go_ret2
   rw [HF.out]
   exact ⟨rfl,hw9.out.bel⟩
end Go.Proofs.SH
namespace Mailsack
def xZe (n : Nat) : Nat := (16 - n % 16) % 16
def pE (l : Bs) : Bs := l ++ xQ (xZe l.length)
def wS (n : Int) (c : Nat) : Bs := (List.range c).map fun i => oct (Go.IntKind.u64.wrap n / 2 ^ (8 * i))
theorem xQq (n : Int) (c : Nat) : wS n (c + 1) = wS n c ++ [oct (Go.IntKind.u64.wrap n / 2 ^ (8 * c))] := by
 unfold wS; rw [List.range_succ,List.map_append]; rfl
theorem xCw (n : Int) (c : Nat) : (wS n c).length = c := by unfold wS; simp
end Mailsack
namespace Go.Proofs.SH
open Go.RowKit Mailsack MM BB
structure xK7 (w : World) (v : Value) (w' : World) (v' : Value) : Prop where
 grown : w.grownBy w' v.ownBlock
 own : ∀ k,v'.ownBlock = some k → v.ownBlock = some k ∨ w.heap.size ≤ k
theorem xK7.refl (w : World) (v : Value) : xK7 w v w v := ⟨⟨rfl,rfl,rfl,Nat.le_refl _,fun _ _ _ => rfl⟩,fun _ h => .inl h⟩
theorem xK7.trans {w w1 w2 : World} {v v1 v2 : Value} (h : xK7 w v w1 v1) (k : xK7 w1 v1 w2 v2) : xK7 w v w2 v2 := by
 refine ⟨⟨k.grown.os.trans h.grown.os,k.grown.tape.trans h.grown.tape,k.grown.output.trans h.grown.output,Nat.le_trans h.grown.size k.grown.size,fun b hb hne => ?_⟩,fun b hb => ?_⟩
 ·refine (k.grown.block b (Nat.lt_of_lt_of_le hb h.grown.size) (fun e => ?_)).trans (h.grown.block b hb hne)
  rcases h.own b e.symm with h1 | h1
  ·exact hne h1.symm
  ·omega
 ·rcases k.own b hb with h1 | h1
  ·exact h.own b h1
  ·exact .inr (Nat.le_trans h.grown.size h1)
theorem xK7.push {w w1 : World} {v : Value} {o : Obj} {g n cap : Nat} (hg : (w.alloc o).grownBy w1 v.ownBlock) (hl : v.ownBlock = some g ∨ g = w.heap.size + 1) : xK7 w v w1 (.slice (some ⟨g,0,none⟩) n cap) := by
 refine ⟨⟨hg.os,hg.tape,hg.output,Nat.le_trans (by simp) hg.size,fun b hb hne => ?_⟩,fun b hb => ?_⟩
 ·exact (hg.block b (by simp; omega) hne).trans (Below.heap_alloc w o b hb)
 ·have hb' : g = b := by simpa [Value.ownBlock] using hb
  subst hb'
  rcases hl with h | h
  ·exact .inl h
  ·exact .inr (by omega)
theorem xK7.below {w w' : World} {v v' : Value} (h : xK7 w v w' v') {base : Nat} {l : Bs} (ho : uP w base v l) (hb : base ≤ w.heap.size) : Below base w w' :=
 ⟨h.grown.os,h.grown.tape,h.grown.output,h.grown.size,fun k hk => h.grown.block k (by omega) (fun e => by
  have := (World.ownsRow.lt ho k e.symm).1
  omega)⟩
theorem one_y (z : Int) : ∀ v ∈ [Value.int .u8 z],v.oneCell' = true := by simp [Value.oneCell']
theorem xOf (n : Int) (v : Value) (l : Bs) (w : World) (base : Nat) (ho : uP w base v l) (hb : base ≤ w.heap.size) (hl : l.length < 4294967281) :
  Calls Tryz.prog 164 #[v,.int .i64 n] w fun e w' => ∃ v',e = .returned v' ∧ uP w' base v' (l ++ wS n 8) ∧ xK7 w v w' v' := by
 obtain ⟨i0,hi,hz0,hz1,hz2⟩ := wH xRf
 have HO := hI' ho
 have HU := wrap_u64 n
 have HSE : Hid (∀ c,c = 8 → l ++ wS n c = l ++ wS n 8) := hI' (fun c hc => by rw [hc])
 have HS0 : Hid (l ++ wS n 0 = l) := hI' (by simp [wS])
 have HSS := hI' (fun c => xQq n c)
 generalize hres : l ++ wS n 8 = res at HSE ⊢
 clear ho hres
 go_enter Tryz.func164,Tryz.ntmps164
 go_wp2_with fail
 go_loopw [0,6] (fun lv iv wr => ∃ k : Nat,k ≤ 8 ∧ iv = .int .i64 k ∧ Hid (uP wr base lv (l ++ wS n k)) ∧ Hid (xK7 w v wr lv)) (fun _ iv _ => 8 - (intOf iv).toNat)
 case atStart => exact ⟨0,Nat.zero_le _,rfl,hI' (by rw [HS0.out]; exact HO.out),hI' (xK7.refl _ _)⟩
 case round =>
  obtain ⟨k,hk,rfl,hown,hext⟩ := hrel
  by_cases hlt : k < 8
  ·have HL0 := (show (l ++ wS n k).length = l.length + k by rw [List.length_append,xCw])
   have HLe : Hid (l ++ wS n (k + 1) = (l ++ wS n k) ++ [oct (IntKind.u64.wrap n / 2 ^ (8 * k))]) := hI' (by rw [HSS.out,List.append_assoc])
   obtain ⟨L1,hL1⟩ : ∃ L,l ++ wS n (k + 1) = L := ⟨_,rfl⟩
   rw [hL1] at HLe
   have HL1 := hI' hL1
   clear hL1
   generalize l ++ wS n k = L at hown HL0 HLe
   have HL := hI' HL0
   have HK := hI' hlt
   obtain ⟨u,hu⟩ : ∃ u,IntKind.u64.wrap n = u := ⟨_,rfl⟩
   obtain ⟨u0,u1⟩ := hu ▸ HU
   rw [hu] at HLe
   clear HL0
   go_wp2_with (at_builtin; refine wpList_append_lies _ rfl _ _ 113 rfl base 5 i0 (.int .u8 0) 1 1 Tryz.underlying113 hi hz0 hz1 hz2 rfl (by decide) _ _ _ rfl (hown.out.alloc _) ⟨wr.heap.size,0,none⟩ 1 1 [.int .u8 (u / 2 ^ (8 * k) % 256)] rfl rfl (cell_one_new _ _ _) (one_y _) (by decide) (by have := HL.out; have := HK.out; unfold maxLen; omega) (by have := HL.out; have := HK.out; omega) (by have := hext.out.grown.size; simp; omega) (wr.heap.size + 1) (by simp) ?_; intro g cap w1 hown1 hgrow hat hlt1)
   have he2 := hext.out.trans (xK7.push (n := L.length + 1) (cap := cap) hgrow hat)
   have ho2 := hI' hown1
   clear hown1 hgrow hat
   go_roundw
   case rel => exact ⟨k + 1,by omega,by go_num,hI' (by
    rw [HL1.out,HLe.out]
    refine uP.of ?_
    simp only [List.map_cons,List.map_nil,kT]
    exact ho2.out),hI' he2⟩
   case measure => simp [intOf]; omega
  ·have hke : k = 8 := by omega
   have h8 := HSE.out k hke
   rw [h8] at hown
   have hneg : ¬ ((k : Int) < 8) := by omega
   clear h8 HSE HSS HS0
   go_wp2
   go_ret
   exact ⟨_,rfl,hown.out,hext.out⟩
theorem xLy (v : Value) (l : Bs) (w : World) (base : Nat) (ho : uP w base v l) (hb : base ≤ w.heap.size) (hl : l.length < 4294967281) :
  Calls Tryz.prog 163 #[v] w fun e w' => ∃ v',e = .returned v' ∧ uP w' base v' (pE l) ∧ xK7 w v w' v' := by
 obtain ⟨i0,hi,hz0,hz1,hz2⟩ := wH xRf
 obtain ⟨A0,c0,rfl,hc0⟩ := ho.form
 have HO := hI' ho
 have HPN : Hid (xZe l.length < 16 ∧ (l.length + xZe l.length) % 16 = 0) := hI' (by unfold xZe; omega)
 have HSE : Hid (∀ k,k = xZe l.length → l ++ xQ k = pE l) := hI' (fun k hk => by rw [hk]; rfl)
 have HS0 : Hid (l ++ xQ 0 = l) := hI' (by simp [xQ])
 have HSS : Hid (∀ k,l ++ xQ (k + 1) = (l ++ xQ k) ++ [0]) := hI' (fun k => by rw [List.append_assoc]; congr 1; unfold xQ; rw [List.replicate_succ'])
 generalize pE l = res at HSE ⊢
 generalize xZe l.length = pn at HPN HSE
 clear ho
 go_enter Tryz.func163,Tryz.ntmps163
 go_wp2_with fail
 go_loopw [0] (fun lv wr => ∃ (k : Nat) (A : Option Addr) (c : Nat),k ≤ pn ∧ lv = .slice A (l.length + k) c ∧ Hid (uP wr base lv (l ++ xQ k)) ∧ Hid (xK7 w (.slice A0 l.length c0) wr lv)) (fun lv _ => match lv with | .slice _ m _ => l.length + pn - m | _ => 0)
 case atStart => exact ⟨0,A0,c0,Nat.zero_le _,rfl,hI' (by rw [HS0.out]; exact HO.out),hI' (xK7.refl _ _)⟩
 case round =>
  obtain ⟨k,A,c,hk,rfl,hown,hext⟩ := hrel
  obtain ⟨p1,p2⟩ := HPN.out
  by_cases hlt : k < pn
  ·have hm : ((l.length + k : Nat) : Int) % 16 ≠ 0 := by omega
   have hmb : ((((l.length + k : Nat) : Int) % 16) != 0) = true := by simp; omega
   have HL0 : (l ++ xQ k).length = l.length + k := by rw [List.length_append,yT]
   have HROW : Hid (wr.ownsRow base 5 1 (.slice A (l.length + k) c) (l.length + k) ((l ++ xQ k).map fun c => Value.int .u8 (c.toNat : Int))) := hI' (by have h := hown.out.row; rwa [HL0] at h)
   have HSk := hI' (HSS.out k)
   obtain ⟨L1,hL1⟩ : ∃ L,l ++ xQ (k + 1) = L := ⟨_,rfl⟩
   rw [hL1] at HSk
   have HL1 := hI' hL1
   clear hL1 hown
   generalize l ++ xQ k = L at HROW HSk HL0
   have HL := hI' HL0
   have HK := hI' hlt
   have HP1 := hI' p1
   have HLL := hI' hl
   clear HL0 p1 p2 hlt hk
   go_wp2_with (at_builtin; refine wpList_append_lies _ rfl _ _ 113 rfl base 5 i0 (.int .u8 0) 1 1 Tryz.underlying113 hi hz0 hz1 hz2 rfl (by decide) _ _ _ rfl (HROW.out.alloc _) ⟨wr.heap.size,0,none⟩ 1 1 [.int .u8 0] rfl rfl (cell_one_new _ _ _) (one_y _) (by decide) (by have := HLL.out; have := HK.out; have := HP1.out; unfold maxLen; omega) (by have := HLL.out; have := HK.out; have := HP1.out; omega) (by have := hext.out.grown.size; simp; omega) (wr.heap.size + 1) (by simp) ?_; intro g cap w1 hown1 hgrow hat hlt1)
   have he2 := hext.out.trans (xK7.push (n := l.length + k + 1) (cap := cap) hgrow hat)
   have ho2 := hI' hown1
   clear hown1 hgrow hat
   go_roundw
   case rel => exact ⟨k + 1,_,cap,by have := HK.out; omega,rfl,hI' (by
    rw [HL1.out,HSk.out]
    refine uP.of ?_
    rw [HL.out]
    exact ho2.out),hI' he2⟩
   case measure => show l.length + pn - (l.length + k + 1) < l.length + pn - (l.length + k); have := HK.out; omega
  ·have hke : k = pn := by omega
   have hm : ((l.length + k : Nat) : Int) % 16 = 0 := by omega
   have hmb : ((((l.length + k : Nat) : Int) % 16) != 0) = false := by simp; omega
   have h8 := HSE.out k hke
   rw [h8] at hown
   clear h8 HSE HSS HS0 p1 p2
   go_wp2
   go_ret
   exact ⟨_,rfl,hown.out,hext.out⟩
end Go.Proofs.SH

/- What index.Take returns. Conditions: the text's length. -/
import Derived.Test.YtnaiekglbemhcaaGreatDoorVaultFreshProofB21
import Derived.Test.YtnaiekglbemhcaaGreatDoorVaultFreshProofB12
set_option maxHeartbeats 8000000
set_option maxRecDepth 100000
namespace Mailsack
theorem xL3 {t : RdP → RdP} (ht : ∀ r,(t r).rest.length ≤ r.rest.length) : ∀ (n : Nat) (r : RdP),(xB0 t n r).rest.length ≤ r.rest.length
 | 0,_ => Nat.le_refl _
 | n + 1,r => by
  unfold xB0
  split
  ·exact Nat.le_refl _
  ·exact Nat.le_trans (xL3 ht n (t r)) (ht r)
theorem xIx (r : RdP) : (xH6 r).rest.length ≤ r.rest.length := Nat.le_trans (vM _ _) (vM _ _)
theorem xYs (r : RdP) : (xK5 r).rest.length ≤ r.rest.length := by
 unfold xK5 xWk
 exact Nat.le_trans (xL3 xL4 _ _) (Nat.le_trans (vM _ _) (Nat.le_trans (vM _ _) (Nat.le_trans (vM _ _) (xIx r))))
end Mailsack
namespace Go.Proofs.IX
open Go.RowKit Mailsack MM BB SH SV RK DS
theorem xUs (s : Bs) (w : World) (hs : s.length ≤ 1000000) :
  Calls Tryz.prog 82 #[xU s] w fun e w' => ∃ bv sv,e = .returned (.tuple #[.agg #[bv,sv,.int .i64 (xKg s).given],.int .i64 (xMi s)]) ∧ wR w.heap.size w' bv sv (xKg s) ∧ Below w.heap.size w w' := by
 have HNU := hI' (fun (g : Nat) (r' : RdP) (c : Nat) W (h : W.heap[g]? = some (rdO r')) (hl' : r'.rest.length ≤ 1000000) (hc : c ≤ 4) => xC6 g r' c W h hl' hc)
 have HTX := hI' (fun (g : Nat) (r' : RdP) W (h : W.heap[g]? = some (rdO r')) (hl' : r'.rest.length ≤ 1000000) => xKr g r' W h hl')
 have HBX := hI' (fun (g : Nat) (r' : RdP) W (h : W.heap[g]? = some (rdO r')) (hl' : r'.rest.length ≤ 1000000) => xXc g r' W h hl')
 have HOK : Hid (ixOk s = (!(ixR ⟨s,false⟩).bad && decide ((ixR ⟨s,false⟩).rest = []) && wY (ixV ⟨s,false⟩))) := hI' rfl
 have HTI : Hid (xKg s = (if ixOk s = true then ixV ⟨s,false⟩ else ix0) ∧ xMi s = if ixOk s = true then 0 else 3) := hI' ⟨rfl,rfl⟩
 have HIV : Hid (ixV ⟨s,false⟩ = ⟨xAz xM6 xK5 (zY (rdR ⟨s,false⟩ 4) 1) (ixR1 ⟨s,false⟩),xAz xQi xH6 (zY (xWi ⟨s,false⟩) 1) (rdR (xWi ⟨s,false⟩) 1),zY ⟨s,false⟩ 4⟩ ∧
  ixR ⟨s,false⟩ = xB0 xH6 (zY (xWi ⟨s,false⟩) 1) (rdR (xWi ⟨s,false⟩) 1) ∧ xWi ⟨s,false⟩ = xB0 xK5 (zY (rdR ⟨s,false⟩ 4) 1) (ixR1 ⟨s,false⟩) ∧ ixR1 ⟨s,false⟩ = rdR (rdR ⟨s,false⟩ 4) 1) := hI' ⟨rfl,rfl,rfl,rfl⟩
 obtain ⟨ti,hti⟩ : ∃ ti,xKg s = ti := ⟨_,rfl⟩
 obtain ⟨te,hte⟩ : ∃ te,xMi s = te := ⟨_,rfl⟩
 rw [hti,hte]
 rw [hti,hte] at HTI
 generalize ixOk s = iok at HOK HTI
 generalize ixR1 ⟨s,false⟩ = r1 at HIV
 generalize xWi ⟨s,false⟩ = r2 at HIV
 generalize ixR ⟨s,false⟩ = r9 at HIV HOK
 generalize ixV ⟨s,false⟩ = iv9 at HIV HOK HTI
 have hb0 := (((Below.refl w.heap.size w).alloc (Nat.le_refl _) (ixO (.slice none 0 0) (.slice none 0 0) 0)).alloc (by simp) (rdO ⟨s,false⟩))
 have H0 : Hid (((w.alloc (ixO (.slice none 0 0) (.slice none 0 0) 0)).alloc (rdO ⟨s,false⟩)).heap[w.heap.size]? = some (ixO (.slice none 0 0) (.slice none 0 0) 0) ∧ ((w.alloc (ixO (.slice none 0 0) (.slice none 0 0) 0)).alloc (rdO ⟨s,false⟩)).heap[w.heap.size + 1]? = some (rdO ⟨s,false⟩) ∧ Below w.heap.size w ((w.alloc (ixO (.slice none 0 0) (.slice none 0 0) 0)).alloc (rdO ⟨s,false⟩))) := hI' ⟨zQ _ _ _,zM _ _ _,hb0⟩
 have hs0 : (⟨s,false⟩ : RdP).rest.length ≤ 1000000 := hs
 clear hti hte hb0 hs
 go_enter Tryz.func82,Tryz.ntmps82
 go_upto_region 2 with fail
 generalize (w.alloc (.cells #[.slice none 0 0,.slice none 0 0,.int .i64 0] 40)).alloc (.cells #[xU s,.bool false] 191) = w1 at H0 ⊢
 obtain ⟨g,hg⟩ : ∃ g,w.heap.size + 1 = g := ⟨_,rfl⟩
 rw [hg] at H0 ⊢
 have HN := hI' (HNU.out g ⟨s,false⟩ 4 w1 H0.out.2.1 hs0 (by omega))
 rw [show (((4 : Nat)) : Int) = 4 from rfl] at HN
 have HL1 : Hid ((rdR ⟨s,false⟩ 4).rest.length ≤ 1000000) := hI' (Nat.le_trans (vM _ _) hs0)
 generalize (⟨s,false⟩ : RdP) = q0 at HN H0 HL1 HIV
 clear hs0
 go_wp2_with fail
 refine HN.out.mono ?_
 rintro e w2 ⟨rfl,ht⟩
 generalize zY q0 4 = nv at HIV ⊢
 have hT : TkI w g w2.heap.size (.slice none 0 0) (.slice none 0 0) (.slice none 0 0) (.slice none 0 0) [] [] (nv : Nat) (rdR q0 4) (w2.alloc (ixO (.slice none 0 0) (.slice none 0 0) (nv : Nat))) := by
  have hsz := ht.tn.size
  have h2 := xI H0.out.2.1
  exact ⟨xP (ht.tn.blk H0.out.1 (by omega)) _,xM _ _,xP ht.b _,xX.nil _ _,fun p hp => (by cases hp),xX.nil _ _,(H0.out.2.2.trans (ht.tn.below (fun k hk => by omega) H0.out.2.2.size)).alloc (by have := H0.out.2.2.size; omega) _,by omega,by omega⟩
 have HT := hI' hT
 clear hT ht HN H0
 generalize rdR q0 4 = q1 at HT HL1 HIV
 go_upto_region 3 with fail
 generalize hxb : w2.heap.size = xb at HT ⊢
 generalize w2.alloc (.cells #[.slice none 0 0,.slice none 0 0,.int .i64 (nv : Nat)] 40) = w3 at HT ⊢
 clear hxb hg
 have HN := hI' (HNU.out g q1 1 w3 HT.out.rd HL1.out (by omega))
 rw [show (((1 : Nat)) : Int) = 1 from rfl] at HN
 have hc1 := xJg q1
 have HL2 : Hid ((rdR q1 1).rest.length ≤ 1000000) := hI' (Nat.le_trans (vM _ _) HL1.out)
 go_wp2_with fail
 refine HN.out.mono ?_
 rintro e w4 ⟨rfl,ht⟩
 have HT4 := hI' (HT.out.turn ht)
 rw [HIV.out.2.2.2] at HIV
 generalize zY q1 1 = n1 at hc1 HIV ⊢
 generalize rdR q1 1 = q2 at HT4 HL2 HIV
 clear ht HN HT HL1
 go_wp2_with fail
 go_loopw [14] (fun iv wr => ∃ (k : Nat) (u_ : Value) (bl : List xSi) (rk : RdP),k ≤ n1 ∧ iv = .int .i64 k ∧ Hid (TkI w g xb u_ (.slice none 0 0) u_ (.slice none 0 0) bl [] (nv : Nat) rk wr ∧ xFa xM6 xK5 q2 k (bl.map (·.b)) rk ∧ rk.rest.length ≤ 1000000 ∧ bl.length ≤ k)) (fun iv _ => n1 - (intOf iv).toNat)
 case atStart => exact ⟨0,_,[],q2,Nat.zero_le _,rfl,hI' ⟨HT4.out,xD3 _ _ _,HL2.out,Nat.le_refl _⟩⟩
 case round =>
  obtain ⟨k,u_,bl,rk,hk,rfl,HI⟩ := hrel
  clear HT4
  by_cases hlt : k < n1
  ·cases hbad : rk.bad with
   | true =>
    have hr := xA HI.out.1.rd 1
    simp only [gA,gB,gC] at hr
    rw [hbad] at hr
    have HE := hI' (And.intro HI.out.1 (xFj HI.out.2.1 hk hbad))
    have HEL := hI' (And.intro HI.out.2.2.1 (show bl.length ≤ 1000 by have := HI.out.2.2.2; omega))
    clear hbad HI
    go_upto_region 8 with fail
    clear hr
    obtain ⟨wz,hwz⟩ : ∃ wz,wz = wr := ⟨_,rfl⟩
    rw [← hwz] at HE ⊢
    clear hwz
    have HL3 : Hid (rk.rest.length ≤ 1000000) := hI' HEL.out.1
    have HBL : Hid (bl.length ≤ 1000) := hI' HEL.out.2
    have HN := hI' (HNU.out g rk 1 wz HE.out.1.rd HL3.out (by omega))
    rw [show (((1 : Nat)) : Int) = 1 from rfl] at HN
    have hc2 := xJg rk
    rw [HE.out.2.1] at HIV
    rw [HE.out.2.2] at HIV
    rw [HIV.out.2.2.1] at HIV
    have HT := hI' HE.out.1
    clear HE HEL HBX
    go_wp2_with fail
    refine HN.out.mono ?_
    rintro e wy ⟨rfl,ht⟩
    have HT5 := hI' (HT.out.turn ht)
    have HL5 : Hid ((rdR rk 1).rest.length ≤ 1000000) := hI' (Nat.le_trans (vM _ _) HL3.out)
    clear ht HN HT HL3 HNU
    generalize zY rk 1 = n2 at hc2 HIV ⊢
    generalize rdR rk 1 = q5 at HT5 HL5 HIV
    go_wp2_with fail
    go_loopw [30] (fun iv wr => ∃ (k2 : Nat) (uo : Value) (sl : List Bs) (rk2 : RdP),k2 ≤ n2 ∧ iv = .int .i64 k2 ∧ Hid (TkI w g xb u_ uo u_ uo bl sl (nv : Nat) rk2 wr ∧ xFa xQi xH6 q5 k2 sl rk2 ∧ rk2.rest.length ≤ 1000000 ∧ sl.length ≤ k2)) (fun iv _ => n2 - (intOf iv).toNat)
    case atStart => exact ⟨0,_,[],q5,Nat.zero_le _,rfl,hI' ⟨HT5.out,xD3 _ _ _,HL5.out,Nat.le_refl _⟩⟩
    case round =>
     obtain ⟨k2,uo,sl,rk2,hk2,rfl,HI⟩ := hrel
     clear HT5
     by_cases hlt2 : k2 < n2
     ·cases hbad : rk2.bad with
      | true =>
       have hr := xA HI.out.1.rd 1
       simp only [gA,gB,gC] at hr
       rw [hbad] at hr
       have HE := hI' (And.intro HI.out.1 (xFj HI.out.2.1 hk2 hbad))
       have HEL := hI' (And.intro HI.out.2.2.1 (show sl.length ≤ 1000 by have := HI.out.2.2.2; omega))
       clear hbad HI
       go_upto_region 13 with fail
       clear hr
       obtain ⟨wx,hwx⟩ : ∃ wx,wx = wr := ⟨_,rfl⟩
       rw [← hwx] at HE ⊢
       clear hwx
       rw [HE.out.2.1] at HIV
       rw [HE.out.2.2] at HIV
       have HT := hI' HE.out.1
       have HSL := hI' HEL.out.2
       clear HE HEL
       rw [HIV.out.1,HIV.out.2.1] at HOK
       rw [HIV.out.1] at HTI
       have HRI := hI' (show xQ6 wx wx.heap.size u_ uo ⟨bl.map (·.b),sl,(nv : Nat)⟩ from ⟨xDk (HT.out.bo.rd xCg) (fun p hp => xD6 ((HT.out.ma p hp).rd xCb)),xCq (HT.out.su.rd rZ)⟩)
       have HMB : Hid (∀ b ∈ (⟨bl.map (·.b),sl,(nv : Nat)⟩ : jU).boxes,b.zA.length ≤ 9223372036854775807) := hI' (fun b hb => by
        obtain ⟨p,hp,rfl⟩ := List.mem_map.1 hb
        have := (HT.out.ma p hp).row
        rcases this.2 with ⟨_,h2⟩ | ⟨_,cap,_,_,_,_,h4,h5,_⟩
        ·omega
        ·unfold maxLen at h5; omega)
       have HRT := hI' (wV u_ uo ⟨bl.map (·.b),sl,(nv : Nat)⟩ wx HRI.out HMB.out (by show (bl.map (·.b)).length ≤ _; rw [List.length_map]; have := HBL.out; omega) (by show sl.length ≤ _; have := HSL.out; omega))
       obtain ⟨A7,c7,hu,_⟩ := HT.out.bo.form
       obtain ⟨A8,c8,huo,_⟩ := HT.out.su.form
       subst hu huo
       have hrb := HT.out.rd
       have r0 := xA hrb 0
       have r1 := xA hrb 1
       have hxx := HT.out.x
       have x0 := xA hxx 0
       have x1 := xA hxx 1
       have x2 := xA hxx 2
       simp only [gA,gB,gC] at x0 x1 x2
       simp only [gA,gB,gC] at r0 r1
       have HZ := hI' (And.intro HT.out.o HT.out.bel)
       clear hrb hxx HIV
       obtain ⟨rr,rb⟩ := rk2
       simp only at HOK r0 r1
       cases rb with
       | true =>
        have HTE : Hid (ti = ix0 ∧ te = 3) := hI' (by
         rw [Bool.not_true,Bool.false_and,Bool.false_and] at HOK
         rw [HOK.out] at HTI
         exact ⟨HTI.out.1,HTI.out.2⟩)
        clear HRT HRI HTI HOK HMB HT
        go_upto_region 14 with fail
        clear r0 r1 x0 x1 x2
        obtain ⟨o0,y0,f0,o1,y1,f1,o2,y2,f2,HB⟩ := xH1 HZ.out.1 HZ.out.2 (by omega) (.slice none 0 0) (.slice none 0 0) (.int .i64 0) _ rfl
        clear HZ
        go_wp2
        refine bodyPost_ret (v := .tuple #[.agg #[.slice none 0 0,.slice none 0 0,.int .i64 0],.int .i64 3]) (by simp [results,Tryz.results82,go_sem,f0,f1,f2]) rfl ?_
        exact ⟨_,_,by rw [HTE.out.1,HTE.out.2]; rfl,by rw [HTE.out.1]; exact wR.zero _ _,HB.out⟩
       | false =>
        by_cases hre : rr = []
        ·subst hre
         cases hri : wY ⟨bl.map (·.b),sl,(nv : Nat)⟩ with
         | false =>
          have HTE : Hid (ti = ix0 ∧ te = 3) := hI' (by
           rw [hri,Bool.and_false] at HOK
           rw [HOK.out] at HTI
           exact ⟨HTI.out.1,HTI.out.2⟩)
          rw [hri] at HRT
          clear HRI HTI HOK HMB hri
          go_upto_region 13 with fail
          go_wp2_with fail
          refine HRT.out.mono ?_
          rintro e wv ⟨rfl,hbv⟩
          have HZ2 : Hid (wv.heap[w.heap.size]? = some (ixO (.slice none 0 0) (.slice none 0 0) 0) ∧ Below w.heap.size w wv) := hI' ⟨xE HZ.out.1 hbv (xI HZ.out.1),HZ.out.2.trans (hbv.mono HZ.out.2.size)⟩
          clear HZ HT hbv HRT
          have HZ := HZ2
          clear HZ2
          go_upto_region 14 with fail
          clear r0 r1 x0 x1 x2
          obtain ⟨o0,y0,f0,o1,y1,f1,o2,y2,f2,HB⟩ := xH1 HZ.out.1 HZ.out.2 (by omega) (.slice none 0 0) (.slice none 0 0) (.int .i64 0) _ rfl
          clear HZ
          go_wp2
          refine bodyPost_ret (v := .tuple #[.agg #[.slice none 0 0,.slice none 0 0,.int .i64 0],.int .i64 3]) (by simp [results,Tryz.results82,go_sem,f0,f1,f2]) rfl ?_
          exact ⟨_,_,by rw [HTE.out.1,HTE.out.2]; rfl,by rw [HTE.out.1]; exact wR.zero _ _,HB.out⟩
         | true =>
          have HTE : Hid (ti = ⟨bl.map (·.b),sl,(nv : Nat)⟩ ∧ te = 0) := hI' (by
           rw [hri] at HOK
           simp at HOK
           rw [HOK.out] at HTI
           exact ⟨HTI.out.1,HTI.out.2⟩)
          rw [hri] at HRT
          clear HRI HTI HOK HMB hri HZ
          go_upto_region 13 with fail
          go_wp2_with fail
          refine HRT.out.mono ?_
          rintro e wv ⟨rfl,hbv⟩
          have HT2 := hI' (HT.out.below hbv)
          clear HT hbv HRT r0 r1 x0 x1 x2
          have hxx := HT2.out.x
          obtain ⟨x0,x1,x2⟩ := xO0 hxx
          clear hxx
          go_upto_region 15 with fail
          obtain ⟨o0,y0,f0,o1,y1,f1,o2,y2,f2,HB⟩ := xH1 HT2.out.o HT2.out.bel (by omega) (.slice A7 bl.length c7) (.slice A8 sl.length c8) (.int .i64 (nv : Nat)) _ rfl
          have HS1 := hI' (xX.qJ HT2.out.bo (g := w.heap.size) [.slice A7 bl.length c7,.slice A8 sl.length c8,.int .i64 (nv : Nat)] 0 (xX.neT HT2.out.bo HT2.out.o (by decide)))
          have HS2 := hI' (xX.qJ HT2.out.su (g := w.heap.size) [.slice A7 bl.length c7,.slice A8 sl.length c8,.int .i64 (nv : Nat)] 0 (xX.neT HT2.out.su HT2.out.o (by decide)))
          have HS3 := hI' (fun p hp => xX.qJ (HT2.out.ma p hp) (g := w.heap.size) [.slice A7 bl.length c7,.slice A8 sl.length c8,.int .i64 (nv : Nat)] 0 (xX.neT (HT2.out.ma p hp) HT2.out.o (by decide)))
          simp only [yR,Nat.reduceAdd] at HS1 HS2 HS3
          clear HT2
          go_wp2
          refine bodyPost_ret (v := .tuple #[.agg #[.slice A7 bl.length c7,.slice A8 sl.length c8,.int .i64 (nv : Nat)],.int .i64 0]) (by simp [results,Tryz.results82,go_sem,f0,f1,f2]) rfl ?_
          refine ⟨_,_,by rw [HTE.out.1,HTE.out.2],?_,HB.out⟩
          rw [HTE.out.1]
          exact ⟨⟨bl,rfl,HS1.out,HS3.out⟩,HS2.out⟩
        ·have HTE : Hid (ti = ix0 ∧ te = 3) := hI' (by
          rw [decide_eq_false hre,Bool.and_false,Bool.false_and] at HOK
          rw [HOK.out] at HTI
          exact ⟨HTI.out.1,HTI.out.2⟩)
         have e1 : (rr == []) = false := by simpa using hre
         have e2 : (rr != []) = true := by simpa using hre
         clear HRT HRI HTI HOK HMB HT
         go_upto_region 14 with fail
         clear r0 r1 x0 x1 x2
         obtain ⟨o0,y0,f0,o1,y1,f1,o2,y2,f2,HB⟩ := xH1 HZ.out.1 HZ.out.2 (by omega) (.slice none 0 0) (.slice none 0 0) (.int .i64 0) _ rfl
         clear HZ
         go_wp2
         refine bodyPost_ret (v := .tuple #[.agg #[.slice none 0 0,.slice none 0 0,.int .i64 0],.int .i64 3]) (by simp [results,Tryz.results82,go_sem,f0,f1,f2]) rfl ?_
         exact ⟨_,_,by rw [HTE.out.1,HTE.out.2]; rfl,by rw [HTE.out.1]; exact wR.zero _ _,HB.out⟩
      | false =>
       have hr := xA HI.out.1.rd 1
       simp only [gA,gB,gC] at hr
       rw [hbad] at hr
       have HBD := hI' hbad
       have HI2 := hI' HI.out.2
       have HT := hI' HI.out.1
       clear hbad HI
       go_upto_region 11 with fail
       clear hr
       have HXO := hI' (fun W (h : W.heap[g]? = some (rdO rk2)) => HTX.out g rk2 W h HI2.out.2.1)
       have HLB : Hid (sl.length ≤ 300) := hI' (by have := HI2.out.2.2; omega)
       have HNX := hI' (xD4 HI2.out.1 HBD.out)
       have HLN := hI' (Nat.le_trans (xIx rk2) HI2.out.2.1)
       generalize xQi rk2 = tx at HXO HNX
       generalize xH6 rk2 = rn at HXO HNX HLN
       refine RG.uU [3,7] [4,5] (fun L α W => Hid ((L 3 = false → TkI w g xb u_ uo u_ uo bl sl (nv : Nat) rk2 W) ∧
        (L 3 = true → L 5 = false → TkI w g xb u_ uo u_ uo bl sl (nv : Nat) rn W ∧ (L 4 = true → RdR 1 txF W W.heap.size (α 4) [tx])) ∧
        (L 3 = true → L 5 = true → L 7 = false → TkI w g xb u_ uo u_ (α 5) bl (sl ++ [tx]) (nv : Nat) rn W) ∧
        (L 3 = true → L 5 = true → L 7 = true → TkI w g xb u_ (α 5) u_ (α 5) bl (sl ++ [tx]) (nv : Nat) rn W)))
        (fun L L' α α' W hl ha h => hI' (by
         have l3 := hl 3 (by simp)
         have l4 := hl 4 (by simp)
         have l5 := hl 5 (by simp)
         have l7 := hl 7 (by simp)
         refine ⟨fun e => h.out.1 (l3.trans e),fun e f => ?_,fun e f f7 => ?_,fun e f f7 => ?_⟩
         ·obtain ⟨h1,h2⟩ := h.out.2.1 (l3.trans e) (l5.trans f)
          exact ⟨h1,fun f4 => by rw [← ha 4 (by simp) (l4.trans f4)]; exact h2 (l4.trans f4)⟩
         ·rw [← ha 5 (by simp) (l5.trans f)]; exact h.out.2.2.1 (l3.trans e) (l5.trans f) (l7.trans f7)
         ·rw [← ha 5 (by simp) (l5.trans f)]; exact h.out.2.2.2 (l3.trans e) (l5.trans f) (l7.trans f7))) (by kernel_rfl) (by kernel_rfl) (by kernel_rfl) (hI' ⟨fun _ => HT.out.below (Below.refl _ _).drew,fun e => (by cases e),fun e => (by cases e),fun e => (by cases e)⟩) ?_
       apply RG.yL
       ·rfl
       ·rfl
       ·intro α L w9 h0 hcl xH hw9
        repeat go_step
        with_reducible exact RG.xB hw9
       ·intro α; rfl
       apply RG.yL
       ·rfl
       ·rfl
       ·intro α L w9 h0 hcl xH hw9
        have f7 : L 7 = false := hcl.not 9 (i := 7) h0 (by kernel_rfl)
        have hb : w9.heap[xb]? = some (ixO u_ uo (nv : Nat)) := by
         cases f3 : L 3 with
         | false => exact (hw9.out.1 f3).x
         | true =>
          cases f5 : L 5 with
          | false => exact (hw9.out.2.1 f3 f5).1.x
          | true => exact (hw9.out.2.2.1 f3 f5 f7).x
        have s0 := xA hb 1
        simp only [gA,gB,gC] at s0
        clear hb
        repeat go_step
        with_reducible exact RG.xB hw9
       ·intro α; rfl
       apply RG.yL
       ·rfl
       ·rfl
       ·intro α L w9 h0 hcl xH hw9
        repeat go_step
        with_reducible exact RG.xB hw9
       ·intro α; rfl
       apply RG.xCj
       ·rfl
       ·rfl
       ·intro α L w9 h0 hcl xH hw9
        have f4 : L 4 = false := hcl.not 9 (i := 4) h0 (by kernel_rfl)
        have f5 : L 5 = false := hcl.not 9 (i := 5) h0 (by kernel_rfl)
        have hti := hw9.out.1 h0
        repeat go_step
        refine (HXO.out _ hti.rd).mono ?_
        rintro e w10 ⟨rfl,htu⟩
        simp only []
        repeat go_step
        with_reducible refine RG.xB ?_
        exact hI' ⟨fun e => by simp at e,fun _ _ => ⟨hti.turn htu,fun e => absurd (show L 4 = true by simpa using e) (by rw [f4]; simp)⟩,fun _ e => absurd (show L 5 = true by simpa using e) (by rw [f5]; simp),fun _ e => absurd (show L 5 = true by simpa using e) (by rw [f5]; simp)⟩
       ·intro α; rfl
       apply RG.kN
       ·rfl
       ·intro α L w9 h0 hcl xH hw9
        have f3 : L 3 = true := by
         have := xH.yes 9 (i := 4) (j := 3) (by simp) (by kernel_rfl)
         simpa using this
        have f5 : L 5 = false := hcl.not 9 (i := 5) h0 (by kernel_rfl)
        have hti := (hw9.out.2.1 f3 f5).1
        refine ⟨.slice (some ⟨w9.heap.size,0,none⟩) 1 1,fun bv hbv => ?_⟩
        repeat go_step
        rw [← hbv]
        with_reducible refine RG.xB ?_
        have hal := (Below.refl w9.heap.size w9).alloc (Nat.le_refl _) (.cells #[xU tx] 9)
        exact hI' ⟨fun e => absurd (show L 3 = false by simpa using e) (by rw [f3]; simp),fun _ _ => ⟨hti.below hal,fun _ => by
         rw [show RG.xH0 α (0 + 1 + 1 + 1 + 1) bv 4 = bv from RG.uM _ _ _,hbv,vD]
         exact RdR.lit (m := [tx]) rZ w9 _ rfl⟩,fun _ e => absurd (show L 5 = true by simpa using e) (by rw [f5]; simp),fun _ e => absurd (show L 5 = true by simpa using e) (by rw [f5]; simp)⟩
       ·intro b α; rfl
       apply RG.kN
       ·rfl
       ·intro α L w9 h0 hcl xH hw9
        have f4 : L 4 = true := by
         have := xH.yes 9 (i := 5) (j := 4) (by simp) (by kernel_rfl)
         simpa using this
        have f3 : L 3 = true := by
         have := xH.yes 9 (i := 5) (j := 3) (by simp) (by kernel_rfl)
         simpa using this
        have f7 : L 7 = false := hcl.not 9 (i := 7) h0 (by kernel_rfl)
        obtain ⟨h3,h5⟩ := hw9.out.2.1 f3 h0
        obtain ⟨v',w',hr,ha⟩ := xBe (P := Tryz.prog) tyTx 25 h3.su (h5 f4) (by have := HLB.out; simp; omega) h3.bel.size
        refine ⟨v',fun bv hbv => ?_⟩
        refine jP rfl _ _ rfl rfl rfl hr ?_
        rw [← hbv]
        repeat go_step
        with_reducible refine RG.xB ?_
        exact hI' ⟨fun e => absurd (show L 3 = false by simpa using e) (by rw [f3]; simp),fun _ e => by simp at e,fun _ _ _ => by
         rw [show RG.xH0 α (0 + 1 + 1 + 1 + 1 + 1) bv 5 = bv from RG.uM _ _ _,hbv]
         exact h3.appS ha,fun _ _ e => absurd (show L 7 = true by simpa using e) (by rw [f7]; simp)⟩
       ·intro b α; rfl
       apply RG.yL
       ·rfl
       ·rfl
       ·intro α L w9 h0 hcl xH hw9
        repeat go_step
        with_reducible exact RG.xB hw9
       ·intro α; rfl
       apply RG.xCk (v := fun _ => undef)
       ·rfl
       ·kernel_rfl
       ·rfl
       ·intro α L w9 h0 hcl xH hw9
        have f5 : L 5 = true := by
         have := xH.yes 9 (i := 7) (j := 5) (by simp) (by kernel_rfl)
         simpa using this
        have f3 : L 3 = true := by
         have := xH.yes 9 (i := 7) (j := 3) (by simp) (by kernel_rfl)
         simpa using this
        have hst := hw9.out.2.2.1 f3 f5 h0
        obtain ⟨A,c,hgg,_⟩ := hst.su.form
        rw [show (sl ++ [tx]).length = sl.length + 1 by simp] at hgg
        have HC := hI' (hst.cell 1 (α 5) u_ (α 5) rfl)
        have hb := hst.x
        have s3 := xA hb 1
        have y3 := xK hb 1
        simp only [gA,gB,gC] at s3
        have HG := hI' hgg
        rw [show α (0 + 1 + 1 + 1 + 1 + 1) = _ from hgg]
        clear hst hb hgg
        repeat go_step
        rw [← show α (0 + 1 + 1 + 1 + 1 + 1) = _ from HG.out]
        with_reducible refine RG.xB ?_
        exact hI' ⟨fun e => absurd (show L 3 = false by simpa using e) (by rw [f3]; simp),fun _ e => absurd (show L 5 = false by simpa using e) (by rw [f5]; simp),fun _ _ e => by simp at e,fun _ _ _ => HC.out⟩
       ·intro α; rfl
       refine RG.rY (fun α w7 hw7 => ?_)
       have HF : Hid (TkI w g xb u_ (α 5) u_ (α 5) bl (sl ++ [tx]) (nv : Nat) rn w7 ∧ xFa xQi xH6 q5 (k2 + 1) (sl ++ [tx]) rn ∧ rn.rest.length ≤ 1000000 ∧ (sl ++ [tx]).length ≤ k2 + 1) := hI' ⟨hw7.out.2.2.2 rfl rfl rfl,HNX.out,HLN.out,by have := HI2.out.2.2; simp; omega⟩
       clear hw7 HT HI2 HXO HBD HLB HNX HLN
       go_wp2
       exact ⟨⟨k2 + 1,α 5,sl ++ [tx],rn,by omega,by go_num,HF⟩,by simp [intOf]; omega⟩
     ·obtain rfl : k2 = n2 := by omega
      have HE := hI' (And.intro HI.out.1 (xD5 HI.out.2.1))
      have HEL := hI' (And.intro HI.out.2.2.1 (show sl.length ≤ 1000 by have := HI.out.2.2.2; omega))
      clear HI
      go_upto_region 13 with fail
      obtain ⟨wx,hwx⟩ : ∃ wx,wx = wr := ⟨_,rfl⟩
      rw [← hwx] at HE ⊢
      clear hwx
      rw [HE.out.2.1] at HIV
      rw [HE.out.2.2] at HIV
      have HT := hI' HE.out.1
      have HSL := hI' HEL.out.2
      clear HE HEL
      rw [HIV.out.1,HIV.out.2.1] at HOK
      rw [HIV.out.1] at HTI
      have HRI := hI' (show xQ6 wx wx.heap.size u_ uo ⟨bl.map (·.b),sl,(nv : Nat)⟩ from ⟨xDk (HT.out.bo.rd xCg) (fun p hp => xD6 ((HT.out.ma p hp).rd xCb)),xCq (HT.out.su.rd rZ)⟩)
      have HMB : Hid (∀ b ∈ (⟨bl.map (·.b),sl,(nv : Nat)⟩ : jU).boxes,b.zA.length ≤ 9223372036854775807) := hI' (fun b hb => by
       obtain ⟨p,hp,rfl⟩ := List.mem_map.1 hb
       have := (HT.out.ma p hp).row
       rcases this.2 with ⟨_,h2⟩ | ⟨_,cap,_,_,_,_,h4,h5,_⟩
       ·omega
       ·unfold maxLen at h5; omega)
      have HRT := hI' (wV u_ uo ⟨bl.map (·.b),sl,(nv : Nat)⟩ wx HRI.out HMB.out (by show (bl.map (·.b)).length ≤ _; rw [List.length_map]; have := HBL.out; omega) (by show sl.length ≤ _; have := HSL.out; omega))
      obtain ⟨A7,c7,hu,_⟩ := HT.out.bo.form
      obtain ⟨A8,c8,huo,_⟩ := HT.out.su.form
      subst hu huo
      have hrb := HT.out.rd
      have r0 := xA hrb 0
      have r1 := xA hrb 1
      have hxx := HT.out.x
      have x0 := xA hxx 0
      have x1 := xA hxx 1
      have x2 := xA hxx 2
      simp only [gA,gB,gC] at x0 x1 x2
      simp only [gA,gB,gC] at r0 r1
      have HZ := hI' (And.intro HT.out.o HT.out.bel)
      clear hrb hxx HIV
      obtain ⟨rr,rb⟩ := rk2
      simp only at HOK r0 r1
      cases rb with
      | true =>
       have HTE : Hid (ti = ix0 ∧ te = 3) := hI' (by
        rw [Bool.not_true,Bool.false_and,Bool.false_and] at HOK
        rw [HOK.out] at HTI
        exact ⟨HTI.out.1,HTI.out.2⟩)
       clear HRT HRI HTI HOK HMB HT
       go_upto_region 14 with fail
       clear r0 r1 x0 x1 x2
       obtain ⟨o0,y0,f0,o1,y1,f1,o2,y2,f2,HB⟩ := xH1 HZ.out.1 HZ.out.2 (by omega) (.slice none 0 0) (.slice none 0 0) (.int .i64 0) _ rfl
       clear HZ
       go_wp2
       refine bodyPost_ret (v := .tuple #[.agg #[.slice none 0 0,.slice none 0 0,.int .i64 0],.int .i64 3]) (by simp [results,Tryz.results82,go_sem,f0,f1,f2]) rfl ?_
       exact ⟨_,_,by rw [HTE.out.1,HTE.out.2]; rfl,by rw [HTE.out.1]; exact wR.zero _ _,HB.out⟩
      | false =>
       by_cases hre : rr = []
       ·subst hre
        cases hri : wY ⟨bl.map (·.b),sl,(nv : Nat)⟩ with
        | false =>
         have HTE : Hid (ti = ix0 ∧ te = 3) := hI' (by
          rw [hri,Bool.and_false] at HOK
          rw [HOK.out] at HTI
          exact ⟨HTI.out.1,HTI.out.2⟩)
         rw [hri] at HRT
         clear HRI HTI HOK HMB hri
         go_upto_region 13 with fail
         go_wp2_with fail
         refine HRT.out.mono ?_
         rintro e wv ⟨rfl,hbv⟩
         have HZ2 : Hid (wv.heap[w.heap.size]? = some (ixO (.slice none 0 0) (.slice none 0 0) 0) ∧ Below w.heap.size w wv) := hI' ⟨xE HZ.out.1 hbv (xI HZ.out.1),HZ.out.2.trans (hbv.mono HZ.out.2.size)⟩
         clear HZ HT hbv HRT
         have HZ := HZ2
         clear HZ2
         go_upto_region 14 with fail
         clear r0 r1 x0 x1 x2
         obtain ⟨o0,y0,f0,o1,y1,f1,o2,y2,f2,HB⟩ := xH1 HZ.out.1 HZ.out.2 (by omega) (.slice none 0 0) (.slice none 0 0) (.int .i64 0) _ rfl
         clear HZ
         go_wp2
         refine bodyPost_ret (v := .tuple #[.agg #[.slice none 0 0,.slice none 0 0,.int .i64 0],.int .i64 3]) (by simp [results,Tryz.results82,go_sem,f0,f1,f2]) rfl ?_
         exact ⟨_,_,by rw [HTE.out.1,HTE.out.2]; rfl,by rw [HTE.out.1]; exact wR.zero _ _,HB.out⟩
        | true =>
         have HTE : Hid (ti = ⟨bl.map (·.b),sl,(nv : Nat)⟩ ∧ te = 0) := hI' (by
          rw [hri] at HOK
          simp at HOK
          rw [HOK.out] at HTI
          exact ⟨HTI.out.1,HTI.out.2⟩)
         rw [hri] at HRT
         clear HRI HTI HOK HMB hri HZ
         go_upto_region 13 with fail
         go_wp2_with fail
         refine HRT.out.mono ?_
         rintro e wv ⟨rfl,hbv⟩
         have HT2 := hI' (HT.out.below hbv)
         clear HT hbv HRT r0 r1 x0 x1 x2
         have hxx := HT2.out.x
         obtain ⟨x0,x1,x2⟩ := xO0 hxx
         clear hxx
         go_upto_region 15 with fail
         obtain ⟨o0,y0,f0,o1,y1,f1,o2,y2,f2,HB⟩ := xH1 HT2.out.o HT2.out.bel (by omega) (.slice A7 bl.length c7) (.slice A8 sl.length c8) (.int .i64 (nv : Nat)) _ rfl
         have HS1 := hI' (xX.qJ HT2.out.bo (g := w.heap.size) [.slice A7 bl.length c7,.slice A8 sl.length c8,.int .i64 (nv : Nat)] 0 (xX.neT HT2.out.bo HT2.out.o (by decide)))
         have HS2 := hI' (xX.qJ HT2.out.su (g := w.heap.size) [.slice A7 bl.length c7,.slice A8 sl.length c8,.int .i64 (nv : Nat)] 0 (xX.neT HT2.out.su HT2.out.o (by decide)))
         have HS3 := hI' (fun p hp => xX.qJ (HT2.out.ma p hp) (g := w.heap.size) [.slice A7 bl.length c7,.slice A8 sl.length c8,.int .i64 (nv : Nat)] 0 (xX.neT (HT2.out.ma p hp) HT2.out.o (by decide)))
         simp only [yR,Nat.reduceAdd] at HS1 HS2 HS3
         clear HT2
         go_wp2
         refine bodyPost_ret (v := .tuple #[.agg #[.slice A7 bl.length c7,.slice A8 sl.length c8,.int .i64 (nv : Nat)],.int .i64 0]) (by simp [results,Tryz.results82,go_sem,f0,f1,f2]) rfl ?_
         refine ⟨_,_,by rw [HTE.out.1,HTE.out.2],?_,HB.out⟩
         rw [HTE.out.1]
         exact ⟨⟨bl,rfl,HS1.out,HS3.out⟩,HS2.out⟩
       ·have HTE : Hid (ti = ix0 ∧ te = 3) := hI' (by
         rw [decide_eq_false hre,Bool.and_false,Bool.false_and] at HOK
         rw [HOK.out] at HTI
         exact ⟨HTI.out.1,HTI.out.2⟩)
        have e1 : (rr == []) = false := by simpa using hre
        have e2 : (rr != []) = true := by simpa using hre
        clear HRT HRI HTI HOK HMB HT
        go_upto_region 14 with fail
        clear r0 r1 x0 x1 x2
        obtain ⟨o0,y0,f0,o1,y1,f1,o2,y2,f2,HB⟩ := xH1 HZ.out.1 HZ.out.2 (by omega) (.slice none 0 0) (.slice none 0 0) (.int .i64 0) _ rfl
        clear HZ
        go_wp2
        refine bodyPost_ret (v := .tuple #[.agg #[.slice none 0 0,.slice none 0 0,.int .i64 0],.int .i64 3]) (by simp [results,Tryz.results82,go_sem,f0,f1,f2]) rfl ?_
        exact ⟨_,_,by rw [HTE.out.1,HTE.out.2]; rfl,by rw [HTE.out.1]; exact wR.zero _ _,HB.out⟩
   | false =>
    have hr := xA HI.out.1.rd 1
    simp only [gA,gB,gC] at hr
    rw [hbad] at hr
    have HBD := hI' hbad
    have HI2 := hI' HI.out.2
    have HT := hI' HI.out.1
    clear hbad HI
    go_upto_region 6 with fail
    clear hr
    have HBO := hI' (fun W (h : W.heap[g]? = some (rdO rk)) => HBX.out g rk W h HI2.out.2.1)
    have HLB : Hid (bl.length ≤ 300) := hI' (by have := HI2.out.2.2; omega)
    refine RG.uU [7] [3,4,5] (fun L α W => Hid ((L 3 = false → TkI w g xb u_ (.slice none 0 0) u_ (.slice none 0 0) bl [] (nv : Nat) rk W) ∧
     (L 3 = true → L 5 = false → ∃ p,α 3 = bxV p ∧ p.b = xM6 rk ∧ TkI w g xb u_ (.slice none 0 0) u_ (.slice none 0 0) bl [] (nv : Nat) (xK5 rk) W ∧ xX 65 4 maF W w.heap.size p.mv p.b.zA ∧ (L 4 = true → RdR 4 bxF W W.heap.size (α 4) [p])) ∧
     (L 3 = true → L 5 = true → L 7 = false → ∃ p,p.b = xM6 rk ∧ TkI w g xb u_ (.slice none 0 0) (α 5) (.slice none 0 0) (bl ++ [p]) [] (nv : Nat) (xK5 rk) W) ∧
     (L 3 = true → L 5 = true → L 7 = true → ∃ p,p.b = xM6 rk ∧ TkI w g xb (α 5) (.slice none 0 0) (α 5) (.slice none 0 0) (bl ++ [p]) [] (nv : Nat) (xK5 rk) W)))
     (fun L L' α α' W hl ha h => hI' (by
      have l3 := hl 3 (by simp)
      have l4 := hl 4 (by simp)
      have l5 := hl 5 (by simp)
      have l7 := hl 7 (by simp)
      refine ⟨fun e => h.out.1 (l3.trans e),fun e f => ?_,fun e f f7 => ?_,fun e f f7 => ?_⟩
      ·obtain ⟨p,h1,h2,h3,h4,h5⟩ := h.out.2.1 (l3.trans e) (l5.trans f)
       exact ⟨p,by rw [← ha 3 (by simp) (l3.trans e)]; exact h1,h2,h3,h4,fun f4 => by rw [← ha 4 (by simp) (l4.trans f4)]; exact h5 (l4.trans f4)⟩
      ·rw [← ha 5 (by simp) (l5.trans f)]; exact h.out.2.2.1 (l3.trans e) (l5.trans f) (l7.trans f7)
      ·rw [← ha 5 (by simp) (l5.trans f)]; exact h.out.2.2.2 (l3.trans e) (l5.trans f) (l7.trans f7))) (by kernel_rfl) (by kernel_rfl) (by kernel_rfl) (hI' ⟨fun _ => HT.out.below (Below.refl _ _).drew,fun e => (by cases e),fun e => (by cases e),fun e => (by cases e)⟩) ?_
    apply RG.yL
    ·rfl
    ·rfl
    ·intro α L w9 h0 hcl xH hw9
     repeat go_step
     with_reducible exact RG.xB hw9
    ·intro α; rfl
    apply RG.yL
    ·rfl
    ·rfl
    ·intro α L w9 h0 hcl xH hw9
     have f7 : L 7 = false := hcl.not 9 (i := 7) h0 (by kernel_rfl)
     have hb : w9.heap[xb]? = some (ixO u_ (.slice none 0 0) (nv : Nat)) := by
      cases f3 : L 3 with
      | false => exact (hw9.out.1 f3).x
      | true =>
       cases f5 : L 5 with
       | false => obtain ⟨p,_,_,h3,_⟩ := hw9.out.2.1 f3 f5; exact h3.x
       | true => obtain ⟨p,_,h3⟩ := hw9.out.2.2.1 f3 f5 f7; exact h3.x
     have s0 := xWj hb
     clear hb
     repeat go_step
     with_reducible exact RG.xB hw9
    ·intro α; rfl
    apply RG.yL
    ·rfl
    ·rfl
    ·intro α L w9 h0 hcl xH hw9
     repeat go_step
     with_reducible exact RG.xB hw9
    ·intro α; rfl
    apply RG.xFd
    ·rfl
    ·intro α L w9 h0 hcl xH hw9
     have f4 : L 4 = false := hcl.not 9 (i := 4) h0 (by kernel_rfl)
     have f5 : L 5 = false := hcl.not 9 (i := 5) h0 (by kernel_rfl)
     have hti := hw9.out.1 h0
     repeat go_step
     refine (HBO.out _ hti.rd).mono ?_
     rintro e w10 ⟨A,c,rfl,hom,htu⟩
     simp only []
     repeat go_step
     refine ⟨rfl,_,rfl,?_⟩
     exact hI' ⟨fun e => by simp at e,fun _ _ => ⟨⟨xM6 rk,A,c⟩,RG.uM _ _ _,rfl,hti.turn htu,xX.less hom hti.bel.size,fun e => absurd (show L 4 = true by simpa using e) (by rw [f4]; simp)⟩,fun _ e => absurd (show L 5 = true by simpa using e) (by rw [f5]; simp),fun _ e => absurd (show L 5 = true by simpa using e) (by rw [f5]; simp)⟩
    ·intro b α; rfl
    apply RG.kN
    ·rfl
    ·intro α L w9 h0 hcl xH hw9
     have f3 : L 3 = true := by
      have := xH.yes 9 (i := 4) (j := 3) (by simp) (by kernel_rfl)
      simpa using this
     have f5 : L 5 = false := hcl.not 9 (i := 5) h0 (by kernel_rfl)
     obtain ⟨p,h1,h2,h3,h4,_⟩ := hw9.out.2.1 f3 f5
     refine ⟨.slice (some ⟨w9.heap.size,0,none⟩) 1 1,fun bv hbv => ?_⟩
     rw [show α (0 + 1 + 1 + 1) = _ from h1]
     have H1 := hI' h1
     have H2 := hI' h2
     clear h1 h2
     repeat go_step
     rw [← hbv,← show α (0 + 1 + 1 + 1) = _ from H1.out]
     with_reducible refine RG.xB ?_
     have hal := (Below.refl w9.heap.size w9).alloc (Nat.le_refl _) (.cells #[xU p.b.name,.int .i64 p.b.validity,.int .i64 p.b.next,p.mv] 47)
     exact hI' ⟨fun e => absurd (show L 3 = false by simpa using e) (by rw [f3]; simp),fun _ _ => ⟨p,H1.out,H2.out,h3.below hal,h4.below hal,fun _ => by
      rw [show RG.xH0 α (0 + 1 + 1 + 1 + 1) bv 4 = bv from RG.uM _ _ _,hbv,vD]
      exact RdR.lit (m := [p]) xCg w9 _ rfl⟩,fun _ e => absurd (show L 5 = true by simpa using e) (by rw [f5]; simp),fun _ e => absurd (show L 5 = true by simpa using e) (by rw [f5]; simp)⟩
    ·intro b α; rfl
    apply RG.kN
    ·rfl
    ·intro α L w9 h0 hcl xH hw9
     have f4 : L 4 = true := by
      have := xH.yes 9 (i := 5) (j := 4) (by simp) (by kernel_rfl)
      simpa using this
     have f3 : L 3 = true := by
      have := xH.yes 9 (i := 5) (j := 3) (by simp) (by kernel_rfl)
      simpa using this
     have f7 : L 7 = false := hcl.not 9 (i := 7) h0 (by kernel_rfl)
     obtain ⟨p,h1,h2,h3,h4,h5⟩ := hw9.out.2.1 f3 h0
     obtain ⟨v',w',hr,ha⟩ := xBe (P := Tryz.prog) tyBx 38 h3.bo (h5 f4) (by have := HLB.out; simp; omega) h3.bel.size
     refine ⟨v',fun bv hbv => ?_⟩
     refine jP rfl _ _ rfl rfl rfl hr ?_
     rw [← hbv]
     repeat go_step
     with_reducible refine RG.xB ?_
     exact hI' ⟨fun e => absurd (show L 3 = false by simpa using e) (by rw [f3]; simp),fun _ e => by simp at e,fun _ _ _ => ⟨p,h2,by
      rw [show RG.xH0 α (0 + 1 + 1 + 1 + 1 + 1) bv 5 = bv from RG.uM _ _ _,hbv]
      exact h3.appB ha h4⟩,fun _ _ e => absurd (show L 7 = true by simpa using e) (by rw [f7]; simp)⟩
    ·intro b α; rfl
    apply RG.yL
    ·rfl
    ·rfl
    ·intro α L w9 h0 hcl xH hw9
     repeat go_step
     with_reducible exact RG.xB hw9
    ·intro α; rfl
    apply RG.xCk (v := fun _ => undef)
    ·rfl
    ·kernel_rfl
    ·rfl
    ·intro α L w9 h0 hcl xH hw9
     have f5 : L 5 = true := by
      have := xH.yes 9 (i := 7) (j := 5) (by simp) (by kernel_rfl)
      simpa using this
     have f3 : L 3 = true := by
      have := xH.yes 9 (i := 7) (j := 3) (by simp) (by kernel_rfl)
      simpa using this
     obtain ⟨p,h2,hst⟩ := hw9.out.2.2.1 f3 f5 h0
     obtain ⟨A,c,hgg,_⟩ := hst.bo.form
     rw [show (bl ++ [p]).length = bl.length + 1 by simp] at hgg
     have HC := hI' (hst.cell 0 (α 5) (α 5) (.slice none 0 0) rfl)
     have hb := hst.x
     have s3 := xA hb 0
     have y3 := xK hb 0
     simp only [gA,gC] at s3
     have HG := hI' hgg
     rw [show α (0 + 1 + 1 + 1 + 1 + 1) = _ from hgg]
     clear hst hb hgg
     repeat go_step
     rw [← show α (0 + 1 + 1 + 1 + 1 + 1) = _ from HG.out]
     with_reducible refine RG.xB ?_
     exact hI' ⟨fun e => absurd (show L 3 = false by simpa using e) (by rw [f3]; simp),fun _ e => absurd (show L 5 = false by simpa using e) (by rw [f5]; simp),fun _ _ e => by simp at e,fun _ _ _ => ⟨p,h2,HC.out⟩⟩
    ·intro α; rfl
    refine RG.rY (fun α w7 hw7 => ?_)
    obtain ⟨p,hp,hti⟩ := hw7.out.2.2.2 rfl rfl rfl
    have HF : Hid (TkI w g xb (α 5) (.slice none 0 0) (α 5) (.slice none 0 0) (bl ++ [p]) [] (nv : Nat) (xK5 rk) w7 ∧ xFa xM6 xK5 q2 (k + 1) ((bl ++ [p]).map (·.b)) (xK5 rk) ∧ (xK5 rk).rest.length ≤ 1000000 ∧ (bl ++ [p]).length ≤ k + 1) := hI' ⟨hti,by
     rw [List.map_append,List.map_cons,List.map_nil,hp]
     exact xD4 HI2.out.1 HBD.out,Nat.le_trans (xYs rk) HI2.out.2.1,by have := HI2.out.2.2; simp; omega⟩
    clear hw7 hp hti HT HI2 HBO HBD HLB
    go_wp2
    exact ⟨⟨k + 1,α 5,bl ++ [p],xK5 rk,by omega,by go_num,HF⟩,by simp [intOf]; omega⟩
  ·obtain rfl : k = n1 := by omega
   have HE := hI' (And.intro HI.out.1 (xD5 HI.out.2.1))
   have HEL := hI' (And.intro HI.out.2.2.1 (show bl.length ≤ 1000 by have := HI.out.2.2.2; omega))
   clear HI
   go_upto_region 8 with fail
   obtain ⟨wz,hwz⟩ : ∃ wz,wz = wr := ⟨_,rfl⟩
   rw [← hwz] at HE ⊢
   clear hwz
   have HL3 : Hid (rk.rest.length ≤ 1000000) := hI' HEL.out.1
   have HBL : Hid (bl.length ≤ 1000) := hI' HEL.out.2
   have HN := hI' (HNU.out g rk 1 wz HE.out.1.rd HL3.out (by omega))
   rw [show (((1 : Nat)) : Int) = 1 from rfl] at HN
   have hc2 := xJg rk
   rw [HE.out.2.1] at HIV
   rw [HE.out.2.2] at HIV
   rw [HIV.out.2.2.1] at HIV
   have HT := hI' HE.out.1
   clear HE HEL HBX
   go_wp2_with fail
   refine HN.out.mono ?_
   rintro e wy ⟨rfl,ht⟩
   have HT5 := hI' (HT.out.turn ht)
   have HL5 : Hid ((rdR rk 1).rest.length ≤ 1000000) := hI' (Nat.le_trans (vM _ _) HL3.out)
   clear ht HN HT HL3 HNU
   generalize zY rk 1 = n2 at hc2 HIV ⊢
   generalize rdR rk 1 = q5 at HT5 HL5 HIV
   go_wp2_with fail
   go_loopw [30] (fun iv wr => ∃ (k2 : Nat) (uo : Value) (sl : List Bs) (rk2 : RdP),k2 ≤ n2 ∧ iv = .int .i64 k2 ∧ Hid (TkI w g xb u_ uo u_ uo bl sl (nv : Nat) rk2 wr ∧ xFa xQi xH6 q5 k2 sl rk2 ∧ rk2.rest.length ≤ 1000000 ∧ sl.length ≤ k2)) (fun iv _ => n2 - (intOf iv).toNat)
   case atStart => exact ⟨0,_,[],q5,Nat.zero_le _,rfl,hI' ⟨HT5.out,xD3 _ _ _,HL5.out,Nat.le_refl _⟩⟩
   case round =>
    obtain ⟨k2,uo,sl,rk2,hk2,rfl,HI⟩ := hrel
    clear HT5
    by_cases hlt2 : k2 < n2
    ·cases hbad : rk2.bad with
     | true =>
      have hr := xA HI.out.1.rd 1
      simp only [gA,gB,gC] at hr
      rw [hbad] at hr
      have HE := hI' (And.intro HI.out.1 (xFj HI.out.2.1 hk2 hbad))
      have HEL := hI' (And.intro HI.out.2.2.1 (show sl.length ≤ 1000 by have := HI.out.2.2.2; omega))
      clear hbad HI
      go_upto_region 13 with fail
      clear hr
      obtain ⟨wx,hwx⟩ : ∃ wx,wx = wr := ⟨_,rfl⟩
      rw [← hwx] at HE ⊢
      clear hwx
      rw [HE.out.2.1] at HIV
      rw [HE.out.2.2] at HIV
      have HT := hI' HE.out.1
      have HSL := hI' HEL.out.2
      clear HE HEL
      rw [HIV.out.1,HIV.out.2.1] at HOK
      rw [HIV.out.1] at HTI
      have HRI := hI' (show xQ6 wx wx.heap.size u_ uo ⟨bl.map (·.b),sl,(nv : Nat)⟩ from ⟨xDk (HT.out.bo.rd xCg) (fun p hp => xD6 ((HT.out.ma p hp).rd xCb)),xCq (HT.out.su.rd rZ)⟩)
      have HMB : Hid (∀ b ∈ (⟨bl.map (·.b),sl,(nv : Nat)⟩ : jU).boxes,b.zA.length ≤ 9223372036854775807) := hI' (fun b hb => by
       obtain ⟨p,hp,rfl⟩ := List.mem_map.1 hb
       have := (HT.out.ma p hp).row
       rcases this.2 with ⟨_,h2⟩ | ⟨_,cap,_,_,_,_,h4,h5,_⟩
       ·omega
       ·unfold maxLen at h5; omega)
      have HRT := hI' (wV u_ uo ⟨bl.map (·.b),sl,(nv : Nat)⟩ wx HRI.out HMB.out (by show (bl.map (·.b)).length ≤ _; rw [List.length_map]; have := HBL.out; omega) (by show sl.length ≤ _; have := HSL.out; omega))
      obtain ⟨A7,c7,hu,_⟩ := HT.out.bo.form
      obtain ⟨A8,c8,huo,_⟩ := HT.out.su.form
      subst hu huo
      have hrb := HT.out.rd
      have r0 := xA hrb 0
      have r1 := xA hrb 1
      have hxx := HT.out.x
      have x0 := xA hxx 0
      have x1 := xA hxx 1
      have x2 := xA hxx 2
      simp only [gA,gB,gC] at x0 x1 x2
      simp only [gA,gB,gC] at r0 r1
      have HZ := hI' (And.intro HT.out.o HT.out.bel)
      clear hrb hxx HIV
      obtain ⟨rr,rb⟩ := rk2
      simp only at HOK r0 r1
      cases rb with
      | true =>
       have HTE : Hid (ti = ix0 ∧ te = 3) := hI' (by
        rw [Bool.not_true,Bool.false_and,Bool.false_and] at HOK
        rw [HOK.out] at HTI
        exact ⟨HTI.out.1,HTI.out.2⟩)
       clear HRT HRI HTI HOK HMB HT
       go_upto_region 14 with fail
       clear r0 r1 x0 x1 x2
       obtain ⟨o0,y0,f0,o1,y1,f1,o2,y2,f2,HB⟩ := xH1 HZ.out.1 HZ.out.2 (by omega) (.slice none 0 0) (.slice none 0 0) (.int .i64 0) _ rfl
       clear HZ
       go_wp2
       refine bodyPost_ret (v := .tuple #[.agg #[.slice none 0 0,.slice none 0 0,.int .i64 0],.int .i64 3]) (by simp [results,Tryz.results82,go_sem,f0,f1,f2]) rfl ?_
       exact ⟨_,_,by rw [HTE.out.1,HTE.out.2]; rfl,by rw [HTE.out.1]; exact wR.zero _ _,HB.out⟩
      | false =>
       by_cases hre : rr = []
       ·subst hre
        cases hri : wY ⟨bl.map (·.b),sl,(nv : Nat)⟩ with
        | false =>
         have HTE : Hid (ti = ix0 ∧ te = 3) := hI' (by
          rw [hri,Bool.and_false] at HOK
          rw [HOK.out] at HTI
          exact ⟨HTI.out.1,HTI.out.2⟩)
         rw [hri] at HRT
         clear HRI HTI HOK HMB hri
         go_upto_region 13 with fail
         go_wp2_with fail
         refine HRT.out.mono ?_
         rintro e wv ⟨rfl,hbv⟩
         have HZ2 : Hid (wv.heap[w.heap.size]? = some (ixO (.slice none 0 0) (.slice none 0 0) 0) ∧ Below w.heap.size w wv) := hI' ⟨xE HZ.out.1 hbv (xI HZ.out.1),HZ.out.2.trans (hbv.mono HZ.out.2.size)⟩
         clear HZ HT hbv HRT
         have HZ := HZ2
         clear HZ2
         go_upto_region 14 with fail
         clear r0 r1 x0 x1 x2
         obtain ⟨o0,y0,f0,o1,y1,f1,o2,y2,f2,HB⟩ := xH1 HZ.out.1 HZ.out.2 (by omega) (.slice none 0 0) (.slice none 0 0) (.int .i64 0) _ rfl
         clear HZ
         go_wp2
         refine bodyPost_ret (v := .tuple #[.agg #[.slice none 0 0,.slice none 0 0,.int .i64 0],.int .i64 3]) (by simp [results,Tryz.results82,go_sem,f0,f1,f2]) rfl ?_
         exact ⟨_,_,by rw [HTE.out.1,HTE.out.2]; rfl,by rw [HTE.out.1]; exact wR.zero _ _,HB.out⟩
        | true =>
         have HTE : Hid (ti = ⟨bl.map (·.b),sl,(nv : Nat)⟩ ∧ te = 0) := hI' (by
          rw [hri] at HOK
          simp at HOK
          rw [HOK.out] at HTI
          exact ⟨HTI.out.1,HTI.out.2⟩)
         rw [hri] at HRT
         clear HRI HTI HOK HMB hri HZ
         go_upto_region 13 with fail
         go_wp2_with fail
         refine HRT.out.mono ?_
         rintro e wv ⟨rfl,hbv⟩
         have HT2 := hI' (HT.out.below hbv)
         clear HT hbv HRT r0 r1 x0 x1 x2
         have hxx := HT2.out.x
         obtain ⟨x0,x1,x2⟩ := xO0 hxx
         clear hxx
         go_upto_region 15 with fail
         obtain ⟨o0,y0,f0,o1,y1,f1,o2,y2,f2,HB⟩ := xH1 HT2.out.o HT2.out.bel (by omega) (.slice A7 bl.length c7) (.slice A8 sl.length c8) (.int .i64 (nv : Nat)) _ rfl
         have HS1 := hI' (xX.qJ HT2.out.bo (g := w.heap.size) [.slice A7 bl.length c7,.slice A8 sl.length c8,.int .i64 (nv : Nat)] 0 (xX.neT HT2.out.bo HT2.out.o (by decide)))
         have HS2 := hI' (xX.qJ HT2.out.su (g := w.heap.size) [.slice A7 bl.length c7,.slice A8 sl.length c8,.int .i64 (nv : Nat)] 0 (xX.neT HT2.out.su HT2.out.o (by decide)))
         have HS3 := hI' (fun p hp => xX.qJ (HT2.out.ma p hp) (g := w.heap.size) [.slice A7 bl.length c7,.slice A8 sl.length c8,.int .i64 (nv : Nat)] 0 (xX.neT (HT2.out.ma p hp) HT2.out.o (by decide)))
         simp only [yR,Nat.reduceAdd] at HS1 HS2 HS3
         clear HT2
         go_wp2
         refine bodyPost_ret (v := .tuple #[.agg #[.slice A7 bl.length c7,.slice A8 sl.length c8,.int .i64 (nv : Nat)],.int .i64 0]) (by simp [results,Tryz.results82,go_sem,f0,f1,f2]) rfl ?_
         refine ⟨_,_,by rw [HTE.out.1,HTE.out.2],?_,HB.out⟩
         rw [HTE.out.1]
         exact ⟨⟨bl,rfl,HS1.out,HS3.out⟩,HS2.out⟩
       ·have HTE : Hid (ti = ix0 ∧ te = 3) := hI' (by
         rw [decide_eq_false hre,Bool.and_false,Bool.false_and] at HOK
         rw [HOK.out] at HTI
         exact ⟨HTI.out.1,HTI.out.2⟩)
        have e1 : (rr == []) = false := by simpa using hre
        have e2 : (rr != []) = true := by simpa using hre
        clear HRT HRI HTI HOK HMB HT
        go_upto_region 14 with fail
        clear r0 r1 x0 x1 x2
        obtain ⟨o0,y0,f0,o1,y1,f1,o2,y2,f2,HB⟩ := xH1 HZ.out.1 HZ.out.2 (by omega) (.slice none 0 0) (.slice none 0 0) (.int .i64 0) _ rfl
        clear HZ
        go_wp2
        refine bodyPost_ret (v := .tuple #[.agg #[.slice none 0 0,.slice none 0 0,.int .i64 0],.int .i64 3]) (by simp [results,Tryz.results82,go_sem,f0,f1,f2]) rfl ?_
        exact ⟨_,_,by rw [HTE.out.1,HTE.out.2]; rfl,by rw [HTE.out.1]; exact wR.zero _ _,HB.out⟩
     | false =>
      have hr := xA HI.out.1.rd 1
      simp only [gA,gB,gC] at hr
      rw [hbad] at hr
      have HBD := hI' hbad
      have HI2 := hI' HI.out.2
      have HT := hI' HI.out.1
      clear hbad HI
      go_upto_region 11 with fail
      clear hr
      have HXO := hI' (fun W (h : W.heap[g]? = some (rdO rk2)) => HTX.out g rk2 W h HI2.out.2.1)
      have HLB : Hid (sl.length ≤ 300) := hI' (by have := HI2.out.2.2; omega)
      have HNX := hI' (xD4 HI2.out.1 HBD.out)
      have HLN := hI' (Nat.le_trans (xIx rk2) HI2.out.2.1)
      generalize xQi rk2 = tx at HXO HNX
      generalize xH6 rk2 = rn at HXO HNX HLN
      refine RG.uU [3,7] [4,5] (fun L α W => Hid ((L 3 = false → TkI w g xb u_ uo u_ uo bl sl (nv : Nat) rk2 W) ∧
       (L 3 = true → L 5 = false → TkI w g xb u_ uo u_ uo bl sl (nv : Nat) rn W ∧ (L 4 = true → RdR 1 txF W W.heap.size (α 4) [tx])) ∧
       (L 3 = true → L 5 = true → L 7 = false → TkI w g xb u_ uo u_ (α 5) bl (sl ++ [tx]) (nv : Nat) rn W) ∧
       (L 3 = true → L 5 = true → L 7 = true → TkI w g xb u_ (α 5) u_ (α 5) bl (sl ++ [tx]) (nv : Nat) rn W)))
       (fun L L' α α' W hl ha h => hI' (by
        have l3 := hl 3 (by simp)
        have l4 := hl 4 (by simp)
        have l5 := hl 5 (by simp)
        have l7 := hl 7 (by simp)
        refine ⟨fun e => h.out.1 (l3.trans e),fun e f => ?_,fun e f f7 => ?_,fun e f f7 => ?_⟩
        ·obtain ⟨h1,h2⟩ := h.out.2.1 (l3.trans e) (l5.trans f)
         exact ⟨h1,fun f4 => by rw [← ha 4 (by simp) (l4.trans f4)]; exact h2 (l4.trans f4)⟩
        ·rw [← ha 5 (by simp) (l5.trans f)]; exact h.out.2.2.1 (l3.trans e) (l5.trans f) (l7.trans f7)
        ·rw [← ha 5 (by simp) (l5.trans f)]; exact h.out.2.2.2 (l3.trans e) (l5.trans f) (l7.trans f7))) (by kernel_rfl) (by kernel_rfl) (by kernel_rfl) (hI' ⟨fun _ => HT.out.below (Below.refl _ _).drew,fun e => (by cases e),fun e => (by cases e),fun e => (by cases e)⟩) ?_
      apply RG.yL
      ·rfl
      ·rfl
      ·intro α L w9 h0 hcl xH hw9
       repeat go_step
       with_reducible exact RG.xB hw9
      ·intro α; rfl
      apply RG.yL
      ·rfl
      ·rfl
      ·intro α L w9 h0 hcl xH hw9
       have f7 : L 7 = false := hcl.not 9 (i := 7) h0 (by kernel_rfl)
       have hb : w9.heap[xb]? = some (ixO u_ uo (nv : Nat)) := by
        cases f3 : L 3 with
        | false => exact (hw9.out.1 f3).x
        | true =>
         cases f5 : L 5 with
         | false => exact (hw9.out.2.1 f3 f5).1.x
         | true => exact (hw9.out.2.2.1 f3 f5 f7).x
       have s0 := xA hb 1
       simp only [gA,gB,gC] at s0
       clear hb
       repeat go_step
       with_reducible exact RG.xB hw9
      ·intro α; rfl
      apply RG.yL
      ·rfl
      ·rfl
      ·intro α L w9 h0 hcl xH hw9
       repeat go_step
       with_reducible exact RG.xB hw9
      ·intro α; rfl
      apply RG.xCj
      ·rfl
      ·rfl
      ·intro α L w9 h0 hcl xH hw9
       have f4 : L 4 = false := hcl.not 9 (i := 4) h0 (by kernel_rfl)
       have f5 : L 5 = false := hcl.not 9 (i := 5) h0 (by kernel_rfl)
       have hti := hw9.out.1 h0
       repeat go_step
       refine (HXO.out _ hti.rd).mono ?_
       rintro e w10 ⟨rfl,htu⟩
       simp only []
       repeat go_step
       with_reducible refine RG.xB ?_
       exact hI' ⟨fun e => by simp at e,fun _ _ => ⟨hti.turn htu,fun e => absurd (show L 4 = true by simpa using e) (by rw [f4]; simp)⟩,fun _ e => absurd (show L 5 = true by simpa using e) (by rw [f5]; simp),fun _ e => absurd (show L 5 = true by simpa using e) (by rw [f5]; simp)⟩
      ·intro α; rfl
      apply RG.kN
      ·rfl
      ·intro α L w9 h0 hcl xH hw9
       have f3 : L 3 = true := by
        have := xH.yes 9 (i := 4) (j := 3) (by simp) (by kernel_rfl)
        simpa using this
       have f5 : L 5 = false := hcl.not 9 (i := 5) h0 (by kernel_rfl)
       have hti := (hw9.out.2.1 f3 f5).1
       refine ⟨.slice (some ⟨w9.heap.size,0,none⟩) 1 1,fun bv hbv => ?_⟩
       repeat go_step
       rw [← hbv]
       with_reducible refine RG.xB ?_
       have hal := (Below.refl w9.heap.size w9).alloc (Nat.le_refl _) (.cells #[xU tx] 9)
       exact hI' ⟨fun e => absurd (show L 3 = false by simpa using e) (by rw [f3]; simp),fun _ _ => ⟨hti.below hal,fun _ => by
        rw [show RG.xH0 α (0 + 1 + 1 + 1 + 1) bv 4 = bv from RG.uM _ _ _,hbv,vD]
        exact RdR.lit (m := [tx]) rZ w9 _ rfl⟩,fun _ e => absurd (show L 5 = true by simpa using e) (by rw [f5]; simp),fun _ e => absurd (show L 5 = true by simpa using e) (by rw [f5]; simp)⟩
      ·intro b α; rfl
      apply RG.kN
      ·rfl
      ·intro α L w9 h0 hcl xH hw9
       have f4 : L 4 = true := by
        have := xH.yes 9 (i := 5) (j := 4) (by simp) (by kernel_rfl)
        simpa using this
       have f3 : L 3 = true := by
        have := xH.yes 9 (i := 5) (j := 3) (by simp) (by kernel_rfl)
        simpa using this
       have f7 : L 7 = false := hcl.not 9 (i := 7) h0 (by kernel_rfl)
       obtain ⟨h3,h5⟩ := hw9.out.2.1 f3 h0
       obtain ⟨v',w',hr,ha⟩ := xBe (P := Tryz.prog) tyTx 25 h3.su (h5 f4) (by have := HLB.out; simp; omega) h3.bel.size
       refine ⟨v',fun bv hbv => ?_⟩
       refine jP rfl _ _ rfl rfl rfl hr ?_
       rw [← hbv]
       repeat go_step
       with_reducible refine RG.xB ?_
       exact hI' ⟨fun e => absurd (show L 3 = false by simpa using e) (by rw [f3]; simp),fun _ e => by simp at e,fun _ _ _ => by
        rw [show RG.xH0 α (0 + 1 + 1 + 1 + 1 + 1) bv 5 = bv from RG.uM _ _ _,hbv]
        exact h3.appS ha,fun _ _ e => absurd (show L 7 = true by simpa using e) (by rw [f7]; simp)⟩
      ·intro b α; rfl
      apply RG.yL
      ·rfl
      ·rfl
      ·intro α L w9 h0 hcl xH hw9
       repeat go_step
       with_reducible exact RG.xB hw9
      ·intro α; rfl
      apply RG.xCk (v := fun _ => undef)
      ·rfl
      ·kernel_rfl
      ·rfl
      ·intro α L w9 h0 hcl xH hw9
       have f5 : L 5 = true := by
        have := xH.yes 9 (i := 7) (j := 5) (by simp) (by kernel_rfl)
        simpa using this
       have f3 : L 3 = true := by
        have := xH.yes 9 (i := 7) (j := 3) (by simp) (by kernel_rfl)
        simpa using this
       have hst := hw9.out.2.2.1 f3 f5 h0
       obtain ⟨A,c,hgg,_⟩ := hst.su.form
       rw [show (sl ++ [tx]).length = sl.length + 1 by simp] at hgg
       have HC := hI' (hst.cell 1 (α 5) u_ (α 5) rfl)
       have hb := hst.x
       have s3 := xA hb 1
       have y3 := xK hb 1
       simp only [gA,gB,gC] at s3
       have HG := hI' hgg
       rw [show α (0 + 1 + 1 + 1 + 1 + 1) = _ from hgg]
       clear hst hb hgg
       repeat go_step
       rw [← show α (0 + 1 + 1 + 1 + 1 + 1) = _ from HG.out]
       with_reducible refine RG.xB ?_
       exact hI' ⟨fun e => absurd (show L 3 = false by simpa using e) (by rw [f3]; simp),fun _ e => absurd (show L 5 = false by simpa using e) (by rw [f5]; simp),fun _ _ e => by simp at e,fun _ _ _ => HC.out⟩
      ·intro α; rfl
      refine RG.rY (fun α w7 hw7 => ?_)
      have HF : Hid (TkI w g xb u_ (α 5) u_ (α 5) bl (sl ++ [tx]) (nv : Nat) rn w7 ∧ xFa xQi xH6 q5 (k2 + 1) (sl ++ [tx]) rn ∧ rn.rest.length ≤ 1000000 ∧ (sl ++ [tx]).length ≤ k2 + 1) := hI' ⟨hw7.out.2.2.2 rfl rfl rfl,HNX.out,HLN.out,by have := HI2.out.2.2; simp; omega⟩
      clear hw7 HT HI2 HXO HBD HLB HNX HLN
      go_wp2
      exact ⟨⟨k2 + 1,α 5,sl ++ [tx],rn,by omega,by go_num,HF⟩,by simp [intOf]; omega⟩
    ·obtain rfl : k2 = n2 := by omega
     have HE := hI' (And.intro HI.out.1 (xD5 HI.out.2.1))
     have HEL := hI' (And.intro HI.out.2.2.1 (show sl.length ≤ 1000 by have := HI.out.2.2.2; omega))
     clear HI
     go_upto_region 13 with fail
     obtain ⟨wx,hwx⟩ : ∃ wx,wx = wr := ⟨_,rfl⟩
     rw [← hwx] at HE ⊢
     clear hwx
     rw [HE.out.2.1] at HIV
     rw [HE.out.2.2] at HIV
     have HT := hI' HE.out.1
     have HSL := hI' HEL.out.2
     clear HE HEL
     rw [HIV.out.1,HIV.out.2.1] at HOK
     rw [HIV.out.1] at HTI
     have HRI := hI' (show xQ6 wx wx.heap.size u_ uo ⟨bl.map (·.b),sl,(nv : Nat)⟩ from ⟨xDk (HT.out.bo.rd xCg) (fun p hp => xD6 ((HT.out.ma p hp).rd xCb)),xCq (HT.out.su.rd rZ)⟩)
     have HMB : Hid (∀ b ∈ (⟨bl.map (·.b),sl,(nv : Nat)⟩ : jU).boxes,b.zA.length ≤ 9223372036854775807) := hI' (fun b hb => by
      obtain ⟨p,hp,rfl⟩ := List.mem_map.1 hb
      have := (HT.out.ma p hp).row
      rcases this.2 with ⟨_,h2⟩ | ⟨_,cap,_,_,_,_,h4,h5,_⟩
      ·omega
      ·unfold maxLen at h5; omega)
     have HRT := hI' (wV u_ uo ⟨bl.map (·.b),sl,(nv : Nat)⟩ wx HRI.out HMB.out (by show (bl.map (·.b)).length ≤ _; rw [List.length_map]; have := HBL.out; omega) (by show sl.length ≤ _; have := HSL.out; omega))
     obtain ⟨A7,c7,hu,_⟩ := HT.out.bo.form
     obtain ⟨A8,c8,huo,_⟩ := HT.out.su.form
     subst hu huo
     have hrb := HT.out.rd
     have r0 := xA hrb 0
     have r1 := xA hrb 1
     have hxx := HT.out.x
     have x0 := xA hxx 0
     have x1 := xA hxx 1
     have x2 := xA hxx 2
     simp only [gA,gB,gC] at x0 x1 x2
     simp only [gA,gB,gC] at r0 r1
     have HZ := hI' (And.intro HT.out.o HT.out.bel)
     clear hrb hxx HIV
     obtain ⟨rr,rb⟩ := rk2
     simp only at HOK r0 r1
     cases rb with
     | true =>
      have HTE : Hid (ti = ix0 ∧ te = 3) := hI' (by
       rw [Bool.not_true,Bool.false_and,Bool.false_and] at HOK
       rw [HOK.out] at HTI
       exact ⟨HTI.out.1,HTI.out.2⟩)
      clear HRT HRI HTI HOK HMB HT
      go_upto_region 14 with fail
      clear r0 r1 x0 x1 x2
      obtain ⟨o0,y0,f0,o1,y1,f1,o2,y2,f2,HB⟩ := xH1 HZ.out.1 HZ.out.2 (by omega) (.slice none 0 0) (.slice none 0 0) (.int .i64 0) _ rfl
      clear HZ
      go_wp2
      refine bodyPost_ret (v := .tuple #[.agg #[.slice none 0 0,.slice none 0 0,.int .i64 0],.int .i64 3]) (by simp [results,Tryz.results82,go_sem,f0,f1,f2]) rfl ?_
      exact ⟨_,_,by rw [HTE.out.1,HTE.out.2]; rfl,by rw [HTE.out.1]; exact wR.zero _ _,HB.out⟩
     | false =>
      by_cases hre : rr = []
      ·subst hre
       cases hri : wY ⟨bl.map (·.b),sl,(nv : Nat)⟩ with
       | false =>
        have HTE : Hid (ti = ix0 ∧ te = 3) := hI' (by
         rw [hri,Bool.and_false] at HOK
         rw [HOK.out] at HTI
         exact ⟨HTI.out.1,HTI.out.2⟩)
        rw [hri] at HRT
        clear HRI HTI HOK HMB hri
        go_upto_region 13 with fail
        go_wp2_with fail
        refine HRT.out.mono ?_
        rintro e wv ⟨rfl,hbv⟩
        have HZ2 : Hid (wv.heap[w.heap.size]? = some (ixO (.slice none 0 0) (.slice none 0 0) 0) ∧ Below w.heap.size w wv) := hI' ⟨xE HZ.out.1 hbv (xI HZ.out.1),HZ.out.2.trans (hbv.mono HZ.out.2.size)⟩
        clear HZ HT hbv HRT
        have HZ := HZ2
        clear HZ2
        go_upto_region 14 with fail
        clear r0 r1 x0 x1 x2
        obtain ⟨o0,y0,f0,o1,y1,f1,o2,y2,f2,HB⟩ := xH1 HZ.out.1 HZ.out.2 (by omega) (.slice none 0 0) (.slice none 0 0) (.int .i64 0) _ rfl
        clear HZ
        go_wp2
        refine bodyPost_ret (v := .tuple #[.agg #[.slice none 0 0,.slice none 0 0,.int .i64 0],.int .i64 3]) (by simp [results,Tryz.results82,go_sem,f0,f1,f2]) rfl ?_
        exact ⟨_,_,by rw [HTE.out.1,HTE.out.2]; rfl,by rw [HTE.out.1]; exact wR.zero _ _,HB.out⟩
       | true =>
        have HTE : Hid (ti = ⟨bl.map (·.b),sl,(nv : Nat)⟩ ∧ te = 0) := hI' (by
         rw [hri] at HOK
         simp at HOK
         rw [HOK.out] at HTI
         exact ⟨HTI.out.1,HTI.out.2⟩)
        rw [hri] at HRT
        clear HRI HTI HOK HMB hri HZ
        go_upto_region 13 with fail
        go_wp2_with fail
        refine HRT.out.mono ?_
        rintro e wv ⟨rfl,hbv⟩
        have HT2 := hI' (HT.out.below hbv)
        clear HT hbv HRT r0 r1 x0 x1 x2
        have hxx := HT2.out.x
        obtain ⟨x0,x1,x2⟩ := xO0 hxx
        clear hxx
        go_upto_region 15 with fail
        obtain ⟨o0,y0,f0,o1,y1,f1,o2,y2,f2,HB⟩ := xH1 HT2.out.o HT2.out.bel (by omega) (.slice A7 bl.length c7) (.slice A8 sl.length c8) (.int .i64 (nv : Nat)) _ rfl
        have HS1 := hI' (xX.qJ HT2.out.bo (g := w.heap.size) [.slice A7 bl.length c7,.slice A8 sl.length c8,.int .i64 (nv : Nat)] 0 (xX.neT HT2.out.bo HT2.out.o (by decide)))
        have HS2 := hI' (xX.qJ HT2.out.su (g := w.heap.size) [.slice A7 bl.length c7,.slice A8 sl.length c8,.int .i64 (nv : Nat)] 0 (xX.neT HT2.out.su HT2.out.o (by decide)))
        have HS3 := hI' (fun p hp => xX.qJ (HT2.out.ma p hp) (g := w.heap.size) [.slice A7 bl.length c7,.slice A8 sl.length c8,.int .i64 (nv : Nat)] 0 (xX.neT (HT2.out.ma p hp) HT2.out.o (by decide)))
        simp only [yR,Nat.reduceAdd] at HS1 HS2 HS3
        clear HT2
        go_wp2
        refine bodyPost_ret (v := .tuple #[.agg #[.slice A7 bl.length c7,.slice A8 sl.length c8,.int .i64 (nv : Nat)],.int .i64 0]) (by simp [results,Tryz.results82,go_sem,f0,f1,f2]) rfl ?_
        refine ⟨_,_,by rw [HTE.out.1,HTE.out.2],?_,HB.out⟩
        rw [HTE.out.1]
        exact ⟨⟨bl,rfl,HS1.out,HS3.out⟩,HS2.out⟩
      ·have HTE : Hid (ti = ix0 ∧ te = 3) := hI' (by
        rw [decide_eq_false hre,Bool.and_false,Bool.false_and] at HOK
        rw [HOK.out] at HTI
        exact ⟨HTI.out.1,HTI.out.2⟩)
       have e1 : (rr == []) = false := by simpa using hre
       have e2 : (rr != []) = true := by simpa using hre
       clear HRT HRI HTI HOK HMB HT
       go_upto_region 14 with fail
       clear r0 r1 x0 x1 x2
       obtain ⟨o0,y0,f0,o1,y1,f1,o2,y2,f2,HB⟩ := xH1 HZ.out.1 HZ.out.2 (by omega) (.slice none 0 0) (.slice none 0 0) (.int .i64 0) _ rfl
       clear HZ
       go_wp2
       refine bodyPost_ret (v := .tuple #[.agg #[.slice none 0 0,.slice none 0 0,.int .i64 0],.int .i64 3]) (by simp [results,Tryz.results82,go_sem,f0,f1,f2]) rfl ?_
       exact ⟨_,_,by rw [HTE.out.1,HTE.out.2]; rfl,by rw [HTE.out.1]; exact wR.zero _ _,HB.out⟩
end Go.Proofs.IX

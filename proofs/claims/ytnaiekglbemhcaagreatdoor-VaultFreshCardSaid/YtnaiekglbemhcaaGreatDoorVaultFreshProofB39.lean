/- Contracts of functions of the program. Conditions: those that each theorem states. -/
import Derived.Test.YtnaiekglbemhcaaGreatDoorVaultFreshProofB37
import Derived.Test.YtnaiekglbemhcaaGreatDoorVaultFreshProofB38
import Derived.Test.YtnaiekglbemhcaaGreatDoorVaultFreshProofB33
import Derived.Test.YtnaiekglbemhcaaGreatDoorVaultFreshProofB20
set_option maxHeartbeats 8000000
set_option maxRecDepth 100000
namespace Mailsack
def xF8 (box : ByteArray) : ByteArray := box.extract 0 (box.size - 16)
def xC3 (box : ByteArray) : ByteArray := box.extract (box.size - 16) box.size
def aOk (key xD ad box : ByteArray) : Bool := decide (16 ≤ box.size) && Go.Proofs.SH.rA (wM key xD ad (xF8 box)) (xC3 box)
def aTx (key xD ad box : ByteArray) : ByteArray := if aOk key xD ad box = true then bsA (vF key xD 1 (xF8 box)) else ⟨#[]⟩
def aE (key xD ad box : ByteArray) : Int := if aOk key xD ad box = true then 0 else 7
theorem xLs {box : ByteArray} (h : 16 ≤ box.size) : xF8 box ++ xC3 box = box := by
 unfold xF8 xC3
 apply ByteArray.ext
 rw [ByteArray.data_append,ByteArray.data_extract,ByteArray.data_extract,Array.extract_append_extract]
 have hs : box.data.size = box.size := rfl
 rw [show min 0 (box.size - 16) = 0 by omega,show max (box.size - 16) box.size = box.data.size by omega]
 simp
def zW (d : Dk) (u : ByteArray) : ByteArray := bsA (xPb d (vO [120] u.data.toList))
def xEu (d : Dk) (u priv : ByteArray) : Bool := decide (xJu d (vO [120] u.data.toList) = 0) && decide (12 ≤ (zW d u).size) && aOk (yC priv) ((zW d u).extract 0 12) u ((zW d u).extract 12 (zW d u).size)
def xAy (d : Dk) (u priv : ByteArray) : Bs := (aTx (yC priv) ((zW d u).extract 0 12) u ((zW d u).extract 12 (zW d u).size)).data.toList
def xJd (d : Dk) (u priv : ByteArray) : jU := if xEu d u priv = true then xKg (xAy d u priv) else ix0
def xR2 (d : Dk) (u priv : ByteArray) : Int := if xEu d u priv = true then xMi (xAy d u priv) else 3
end Mailsack
namespace Go.Proofs.VA
open Go.RowKit Mailsack MM BB SH SV RK DS IX Go.Proofs.ST
theorem xWb (key xD ad box : ByteArray) (w : World) (hk : key.size = 32) (hn : xD.size = 12) (ha : ad.size ≤ 1000000) (hb : box.size ≤ 1000000) :
  Calls Tryz.prog 79 #[.string key,.string xD,.string ad,.string box] w fun e w' => e = .returned (.tuple #[.string (aTx key xD ad box),.int .i64 (aE key xD ad box)]) ∧ Below w.heap.size w w' := by
 by_cases h16 : 16 ≤ box.size
 ·have h1 : (xC3 box).size = 16 := by unfold xC3; rw [ByteArray.size_extract]; omega
  have h2 : (xF8 box).size ≤ 1000000000 := by unfold xF8; rw [ByteArray.size_extract]; omega
  cases hs : rA (wM key xD ad (xF8 box)) (xC3 box) with
  | true =>
   have ho : aOk key xD ad box = true := by unfold aOk; rw [hs,decide_eq_true h16]; rfl
   have := xJc key xD ad (xF8 box) (xC3 box) w hk hn (by omega) h2 h1 hs
   rw [xLs h16] at this
   unfold aTx aE
   rw [ho,if_pos rfl,if_pos rfl]
   exact this
  | false =>
   have ho : aOk key xD ad box = false := by unfold aOk; rw [hs,Bool.and_false]
   have := xN1 key xD ad (xF8 box) (xC3 box) w hk hn (by omega) h2 h1 hs
   rw [xLs h16] at this
   unfold aTx aE
   rw [ho,if_neg (by simp),if_neg (by simp)]
   exact this
 ·have ho : aOk key xD ad box = false := by unfold aOk; rw [decide_eq_false h16,Bool.false_and]
  unfold aTx aE
  rw [ho,if_neg (by simp),if_neg (by simp)]
  refine (xR0 key xD ad box w hk hn (by omega)).mono ?_
  rintro e w' ⟨rfl,rfl⟩
  exact ⟨rfl,Below.refl _ _⟩
theorem xQr (u priv xD enc : ByteArray) (w : World) (hu : u.size ≤ 1000) (hp : priv.size ≤ 1000000) (hn : xD.size = 12) (he : enc.size ≤ 1000000) (hT : vT w) :
  Calls Tryz.prog 27 #[.string u,.string priv,.string xD,.string enc] w fun e w' => e = .returned (.tuple #[chV (xMq u priv xD enc),.int .i64 0]) ∧ Below w.heap.size w w' := by
 have H0 : Hid ((w.alloc (chO ⟨[],[],false⟩)).heap[w.heap.size]? = some (chO ⟨[],[],false⟩) ∧ Below w.heap.size w (w.alloc (chO ⟨[],[],false⟩))) := hI' ⟨xM _ _,(Below.refl w.heap.size w).alloc (Nat.le_refl _) _⟩
 have HIK := hI' (xEy priv (w.alloc (chO ⟨[],[],false⟩)) hp (hT.below H0.out.2 (Nat.le_refl _)))
 have HSE := hI' (fun W => xTf (yC priv) xD u enc W (xBz priv) hn (by omega) (by omega))
 have HUO := hI' (fun W => jQ ⟨#[120]⟩ u W (by decide) (by omega))
 rw [show (⟨#[120]⟩ : ByteArray).data.toList = [120] from rfl] at HUO
 have HC : Hid (chV (xMq u priv xD enc) = .agg #[xU (vO [120] u.data.toList),.string (xD ++ wL (yC priv) xD u enc),.bool false]) := hI' rfl
 have hss := tN (yC priv) xD u enc
 have hns : ¬ (9223372036854775807 < xD.size + (wL (yC priv) xD u enc).size) := by omega
 generalize xMq u priv xD enc = sc at HC ⊢
 generalize vO [120] u.data.toList = nm at HUO HC
 generalize wL (yC priv) xD u enc = sp at HSE HC hns
 generalize yC priv = ik at HIK HSE
 clear hu hp hn he hT hss
 go_enter Tryz.func27,Tryz.ntmps27
 go_upto_region 1 with fail
 obtain ⟨w1,hw1⟩ : ∃ w1,w.alloc (chO ⟨[],[],false⟩) = w1 := ⟨_,rfl⟩
 rw [hw1] at H0 HIK
 simp only [chO,xU] at hw1
 rw [hw1]
 clear hw1
 go_wp2_with fail
 refine HIK.out.mono ?_
 rintro e w2 ⟨rfl,hb2⟩
 have H2 : Hid (w2.heap[w.heap.size]? = some (chO ⟨[],[],false⟩) ∧ Below w.heap.size w w2) := hI' ⟨xE H0.out.1 hb2 (xI H0.out.1),H0.out.2.trans (hb2.mono H0.out.2.size)⟩
 clear H0 HIK hb2
 go_wp2_with fail
 refine (HSE.out _).mono ?_
 rintro e w3 ⟨rfl,hb3⟩
 have H3 : Hid (w3.heap[w.heap.size]? = some (chO ⟨[],[],false⟩) ∧ Below w.heap.size w w3) := hI' ⟨xE H2.out.1 hb3 (xI H2.out.1),H2.out.2.trans (hb3.mono H2.out.2.size)⟩
 clear H2 HSE hb3
 go_wp2_with fail
 refine (HUO.out _).mono ?_
 rintro e w4 ⟨rfl,hw4⟩
 rw [hw4]
 clear hw4 w4 HUO
 obtain ⟨o0,y0,f0,o1,y1,f1,o2,y2,f2,HB⟩ := xH1 H3.out.1 H3.out.2 (by omega) (xU nm) (.string (xD ++ sp)) (.bool false) _ rfl
 clear H3
 go_wp2
 refine bodyPost_ret (v := .tuple #[.agg #[xU nm,.string (xD ++ sp),.bool false],.int .i64 0]) (by simp [results,Tryz.results27,go_sem,f0,f1,f2]) rfl ?_
 exact ⟨by rw [HC.out],HB.out⟩
def newP : jU := ⟨[⟨xAm,1,1,[]⟩],[],2⟩
theorem xYa (w : World) :
  Calls Tryz.prog 26 #[] w fun e w' => ∃ bv sv,e = .returned (.agg #[bv,sv,.int .i64 2]) ∧ wR w.heap.size w' bv sv newP ∧ Below w.heap.size w w' := by
 go_enter Tryz.func26,Tryz.ntmps26
 go_wp2
 refine bodyPost_ret (v := .agg #[.slice (some ⟨w.heap.size + 1,0,none⟩) 1 1,.slice none 0 0,.int .i64 2]) (by simp [results,Tryz.results26,go_sem]) rfl ?_
 refine ⟨_,_,rfl,⟨?_,?_⟩,((Below.refl w.heap.size w).alloc (Nat.le_refl _) _).alloc (by simp) _⟩
 ·have hB := xM (w.alloc (.cells #[.slice (some ⟨w.heap.size + 1,0,none⟩) 1 1,.slice none 0 0,.int .i64 2] 40)) (.cells #[.string ⟨#[73,78,66,79,88]⟩,.int .i64 1,.int .i64 1,.slice none 0 0] 47)
  rw [World.size_alloc] at hB
  refine ⟨[⟨⟨xAm,1,1,[]⟩,none,0⟩],rfl,⟨rfl,.inr ⟨_,1,_,rfl,by omega,hB,by decide,by decide,rfl,rfl⟩⟩,fun p hp => ?_⟩
  rw [List.mem_singleton.1 hp]
  exact xX.nil _ _
 ·exact xX.nil _ _
end Go.Proofs.VA
namespace Go.Proofs.VA
open Go.RowKit Mailsack MM BB SH SV RK DS IX Go.Proofs.ST
structure OpN (w : World) (va vb : Value) (D : Dk) (W : World) : Prop where
 d : W.heap[w.heap.size]? = some (yD va vb)
 o : W.heap[w.heap.size + 1]? = some (ixO (.slice none 0 0) (.slice none 0 0) 0)
 rd : RdD W W.heap.size va vb D
 bel : Below w.heap.size w W
theorem OpN.below {w W W' : World} {va vb : Value} {D : Dk} (h : OpN w va vb D W) (hb : Below W.heap.size W W') : OpN w va vb D W' :=
 ⟨xE h.d hb (xI h.d),xE h.o hb (xI h.o),(h.rd.below hb (Nat.le_refl _)).more hb.size,h.bel.trans (hb.mono h.bel.size)⟩
theorem OpN.drew {w W : World} {va vb : Value} {D : Dk} (h : OpN w va vb D W) : OpN w va vb D W.drew := h.below (Below.refl _ W).drew
theorem xQz (va vb : Value) (d : Dk) (u priv : ByteArray) (w : World) (h : RdD w w.heap.size va vb d) (hu : u.size ≤ 1000000) (hp : priv.size ≤ 1000000) (hT : vT w) :
  Calls Tryz.prog 31 #[.agg #[va,vb],.string u,.string priv] w fun e w' => ∃ bv sv,e = .returned (.tuple #[.agg #[bv,sv,.int .i64 (xJd d u priv).given],.int .i64 (xR2 d u priv)]) ∧ wR w.heap.size w' bv sv (xJd d u priv) ∧ Below w.heap.size w w' := by
 obtain ⟨A1,c1,A2,c2,rfl,rfl⟩ := yH h
 have H0 : Hid (OpN w (.slice A1 d.secs.length c1) (.slice A2 d.cache.length c2) d ((w.alloc (yD (.slice A1 d.secs.length c1) (.slice A2 d.cache.length c2))).alloc (ixO (.slice none 0 0) (.slice none 0 0) 0))) := hI' (by
  have hb := ((Below.refl w.heap.size w).alloc (Nat.le_refl _) (yD (.slice A1 d.secs.length c1) (.slice A2 d.cache.length c2))).alloc (by simp) (ixO (.slice none 0 0) (.slice none 0 0) 0)
  exact ⟨zQ _ _ _,zM _ _ _,(h.below hb (Nat.le_refl _)).more hb.size,hb⟩)
 have HUO := hI' (fun W => jQ ⟨#[120]⟩ u W (by decide) hu)
 rw [show (⟨#[120]⟩ : ByteArray).data.toList = [120] from rfl] at HUO
 have HGE := hI' (fun W (h : OpN w (.slice A1 d.secs.length c1) (.slice A2 d.cache.length c2) d W) => xNg _ _ d (vO [120] u.data.toList) W h.rd)
 have HIK := hI' (fun W (h : OpN w (.slice A1 d.secs.length c1) (.slice A2 d.cache.length c2) d W) => xEy priv W hp (hT.below h.bel (Nat.le_refl _)))
 have hos : (zW d u).size ≤ 1024 := by unfold zW; rw [yO]; exact xPa _ _
 have HOE : Hid (xR2 d u priv = if xEu d u priv = true then xMi (xAy d u priv) else 3) := hI' rfl
 have HOI : Hid (xJd d u priv = if xEu d u priv = true then xKg (xAy d u priv) else ix0) := hI' rfl
 have HOK : Hid (xEu d u priv = (decide (xJu d (vO [120] u.data.toList) = 0) && decide (12 ≤ (zW d u).size) && aOk (yC priv) ((zW d u).extract 0 12) u ((zW d u).extract 12 (zW d u).size))) := hI' rfl
 have HTX : Hid (xU (xAy d u priv) = .string (aTx (yC priv) ((zW d u).extract 0 12) u ((zW d u).extract 12 (zW d u).size))) := hI' (xMk _)
 have HTL : Hid ((xAy d u priv).length ≤ 1000000) := hI' (by
  unfold xAy aTx
  split
  ·rw [show ∀ l : Bs,(bsA l).data.toList = l from fun l => by simp [bsA],jZ]
   unfold xF8
   rw [ByteArray.size_extract,ByteArray.size_extract]
   omega
  ·simp)
 rw [show xU (xPb d (vO [120] u.data.toList)) = .string (zW d u) from rfl] at HGE
 have HAO := hI' (fun W (h12 : 12 ≤ (zW d u).size) => xWb (yC priv) ((zW d u).extract 0 12) u ((zW d u).extract 12 (zW d u).size) W (xBz priv) (by rw [ByteArray.size_extract]; omega) hu (by rw [ByteArray.size_extract]; omega))
 have HTK := hI' (fun W => xUs (xAy d u priv) W HTL.out)
 have HAE : Hid (aE (yC priv) ((zW d u).extract 0 12) u ((zW d u).extract 12 (zW d u).size) = if aOk (yC priv) ((zW d u).extract 0 12) u ((zW d u).extract 12 (zW d u).size) = true then 0 else 7) := hI' rfl
 generalize xAy d u priv = tx at HOE HOI HTX HTL HTK
 generalize xJd d u priv = oi at HOI ⊢
 generalize xR2 d u priv = oe at HOE ⊢
 generalize xEu d u priv = ok at HOE HOI HOK
 generalize zW d u = og at HGE HOK HTX HAO HAE hos
 generalize aOk (yC priv) (og.extract 0 12) u (og.extract 12 og.size) = ak at HOK HAE
 generalize aE (yC priv) (og.extract 0 12) u (og.extract 12 og.size) = ae at HAO HAE
 generalize aTx (yC priv) (og.extract 0 12) u (og.extract 12 og.size) = at_ at HAO HTX
 generalize yC priv = ik at HIK HAO
 generalize vO [120] u.data.toList = nm at HUO HGE HOK
 generalize xJu d nm = ge at HGE HOK
 clear h hu hp hT
 go_enter Tryz.func31,Tryz.ntmps31
 go_upto_region 1 with fail
 obtain ⟨w1,hw1⟩ : ∃ w1,(w.alloc (yD (.slice A1 d.secs.length c1) (.slice A2 d.cache.length c2))).alloc (ixO (.slice none 0 0) (.slice none 0 0) 0) = w1 := ⟨_,rfl⟩
 rw [hw1] at H0
 simp only [ixO] at hw1
 rw [hw1]
 clear hw1
 refine RG.xR (fun W => Hid (OpN w (.slice A1 d.secs.length c1) (.slice A2 d.cache.length c2) d W)) (by kernel_rfl) (by kernel_rfl) (hI' H0.out.drew) ?_
 iterate 2
  apply RG.xC
  ·intro w9 hw9
   have hb := hw9.out.d
   obtain ⟨c0,c1⟩ := uG hb
   repeat go_step
   with_reducible exact RG.xB hw9
  ·rfl
 apply RG.xC
 ·intro w9 hw9
  repeat go_step
  refine (HUO.out _).mono ?_
  rintro e w10 ⟨rfl,rfl⟩
  simp only []
  repeat go_step
  with_reducible exact RG.xB hw9
 ·rfl
 apply RG.xC
 ·intro w9 hw9
  repeat go_step
  refine (HGE.out _ hw9.out).mono ?_
  rintro e w10 ⟨rfl,yA⟩
  simp only []
  repeat go_step
  with_reducible refine RG.xB ?_
  exact hI' (hw9.out.below yA)
 ·rfl
 iterate 5
  apply RG.xC
  ·intro w9 hw9
   repeat go_step
   with_reducible exact RG.xB hw9
  ·rfl
 refine RG.xW (fun w2 hw2 => ?_)
 clear H0 HUO HGE
 by_cases hg : ge = 0
 ·subst hg
  rw [decide_eq_true rfl,Bool.true_and] at HOK
  by_cases h12 : 12 ≤ og.size
  ·rw [decide_eq_true h12,Bool.true_and] at HOK
   have e12 : decide ((og.size : Int) < 12) = false := decide_eq_false (by omega)
   have k12 : ¬ ((og.size : Int) < 12) := by omega
   go_upto_region 4 with fail
   go_wp2_with fail
   refine (HIK.out _ hw2.out).mono ?_
   rintro e w3 ⟨rfl,hb3⟩
   have H3 := hI' (hw2.out.below hb3)
   clear hb3 hw2 HIK
   go_upto_region 7 with fail
   have H3 := hI' H3.out.drew
   refine RG.xR (fun W => Hid (OpN w (.slice A1 d.secs.length c1) (.slice A2 d.cache.length c2) d W)) (by kernel_rfl) (by kernel_rfl) H3 ?_
   iterate 6
    apply RG.xC
    ·intro w9 hw9
     repeat go_step
     with_reducible exact RG.xB hw9
    ·rfl
   apply RG.xC
   ·intro w9 hw9
    repeat go_step
    refine (HAO.out w9 h12).mono ?_
    rintro e w10 ⟨rfl,yA⟩
    simp only []
    repeat go_step
    with_reducible refine RG.xB ?_
    exact hI' (hw9.out.below yA)
   ·rfl
   iterate 5
    apply RG.xC
    ·intro w9 hw9
     repeat go_step
     with_reducible exact RG.xB hw9
    ·rfl
   refine RG.xW (fun w4 hw4 => ?_)
   clear H3 HAO e12 k12
   cases ak with
   | false =>
    rw [if_neg (by simp)] at HAE
    rw [HOK.out,if_neg (by simp)] at HOE HOI
    have ha1 : (ae == 0) = false := by rw [HAE.out]; rfl
    have ha2 : (ae != 0) = true := by rw [HAE.out]; rfl
    have HZ := hw4
    clear hw4 HTK
    obtain ⟨o0,y0,f0,o1,y1,f1,o2,y2,f2,HB⟩ := xH1 HZ.out.o HZ.out.bel (by omega) (.slice none 0 0) (.slice none 0 0) (.int .i64 0) _ rfl
    clear HZ
    go_wp2
    refine bodyPost_ret (v := .tuple #[.agg #[.slice none 0 0,.slice none 0 0,.int .i64 0],.int .i64 3]) (by simp [results,Tryz.results31,go_sem,f0,f1,f2]) rfl ?_
    exact ⟨_,_,by rw [HOE.out,HOI.out]; rfl,by rw [HOI.out]; exact wR.zero _ _,HB.out⟩
   | true =>
    rw [if_pos rfl] at HAE
    rw [HOK.out,if_pos rfl] at HOE HOI
    have ha1 : (ae == 0) = true := by rw [HAE.out]; rfl
    have ha2 : (ae != 0) = false := by rw [HAE.out]; rfl
    rw [HTX.out] at HTK
    have H4 := hw4
    clear hw4
    go_upto_region 10 with fail
    go_wp2_with fail
    refine (HTK.out _).mono ?_
    rintro e w5 ⟨bv,sv,rfl,ho,hb5⟩
    obtain ⟨A3,n3,c3,A4,n4,c4,rfl,rfl⟩ := ho.form
    have H5 := hI' (H4.out.below hb5)
    have HO := hI' (ho.less H4.out.bel.size)
    clear hb5 ho H4 HTK
    generalize xKg tx = ti at HOI HO ⊢
    generalize xMi tx = te at HOE ⊢
    obtain ⟨o0,y0,f0,o1,y1,f1,o2,y2,f2,HB⟩ := xH1 H5.out.o H5.out.bel (by omega) (.slice A3 n3 c3) (.slice A4 n4 c4) (.int .i64 ti.given) _ rfl
    have HS := hI' (HO.out.set (g := w.heap.size + 1) H5.out.o (by decide) (by decide) (by decide) [.slice A3 n3 c3,.slice A4 n4 c4,.int .i64 ti.given] 0)
    simp only [yR,Nat.reduceAdd] at HS
    clear HO H5
    go_wp2
    refine bodyPost_ret (v := .tuple #[.agg #[.slice A3 n3 c3,.slice A4 n4 c4,.int .i64 ti.given],.int .i64 te]) (by simp [results,Tryz.results31,go_sem,f0,f1,f2]) rfl ?_
    exact ⟨_,_,by rw [HOE.out,HOI.out],by rw [HOI.out]; exact HS.out,HB.out⟩
  ·have k12 : (og.size : Int) < 12 := by omega
   have e12 : decide ((og.size : Int) < 12) = true := decide_eq_true k12
   rw [decide_eq_false h12,Bool.false_and] at HOK
   rw [HOK.out,if_neg (by simp)] at HOE HOI
   have HZ := hw2
   clear hw2 HIK HAO HTK
   obtain ⟨o0,y0,f0,o1,y1,f1,o2,y2,f2,HB⟩ := xH1 HZ.out.o HZ.out.bel (by omega) (.slice none 0 0) (.slice none 0 0) (.int .i64 0) _ rfl
   clear HZ
   go_wp2
   refine bodyPost_ret (v := .tuple #[.agg #[.slice none 0 0,.slice none 0 0,.int .i64 0],.int .i64 3]) (by simp [results,Tryz.results31,go_sem,f0,f1,f2]) rfl ?_
   exact ⟨_,_,by rw [HOE.out,HOI.out]; rfl,by rw [HOI.out]; exact wR.zero _ _,HB.out⟩
 ·have hg1 : (ge == 0) = false := by simpa using hg
  have hg2 : (ge != 0) = true := by simpa using hg
  rw [decide_eq_false hg,Bool.false_and,Bool.false_and] at HOK
  rw [HOK.out,if_neg (by simp)] at HOE HOI
  have HZ := hw2
  clear hw2 HIK HAO HTK
  obtain ⟨o0,y0,f0,o1,y1,f1,o2,y2,f2,HB⟩ := xH1 HZ.out.o HZ.out.bel (by omega) (.slice none 0 0) (.slice none 0 0) (.int .i64 0) _ rfl
  clear HZ
  go_wp2
  refine bodyPost_ret (v := .tuple #[.agg #[.slice none 0 0,.slice none 0 0,.int .i64 0],.int .i64 3]) (by simp [results,Tryz.results31,go_sem,f0,f1,f2]) rfl ?_
  exact ⟨_,_,by rw [HOE.out,HOI.out]; rfl,by rw [HOI.out]; exact wR.zero _ _,HB.out⟩
end Go.Proofs.VA
namespace Mailsack
abbrev xHc (u pw xO xD priv : ByteArray) (r : Nat) : vR := rF u (zX priv) 0 pw xO xD r priv
def xSg (u pw xO xD priv : ByteArray) (r : Nat) : List Ch := [xO4 (xHc u pw xO xD priv r),xMq u priv xD (bsA (kE Go.Proofs.VA.newP))]
theorem tO {u pw xO xD priv : ByteArray} {r : Nat} (hu : yS u = true) (hf : yY xO xD priv (r : Int) = true) : uI (xHc u pw xO xD priv r) = true := by
 unfold yY at hf
 simp only [Bool.and_eq_true,decide_eq_true_eq] at hf
 unfold uI
 simp only [xHc,rF]
 rw [hu,hf.1]
 have h1 := tN (xC9 pw xO r) xD (u ++ zX priv) priv
 have h2 : (zX priv).size = 32 := xC8 _ _
 rw [hf.2] at h1
 simp [h1,h2]
 exact .inl rfl
end Mailsack
namespace Go.Proofs.VA
open Go.RowKit Mailsack MM BB SH SV RK DS IX Go.Proofs.ST
structure AdN (w : World) (va vb : Value) (D : Dk) (s n p : ByteArray) (r : Int) (W : World) : Prop where
 d : W.heap[w.heap.size]? = some (yD va vb)
 f : W.heap[w.heap.size + 1]? = some (uO s n p r)
 o : W.heap[w.heap.size + 2]? = some (yD (.slice none 0 0) (.slice none 0 0))
 rd : RdD W W.heap.size va vb D
 bel : Below w.heap.size w W
theorem AdN.below {w W W' : World} {va vb : Value} {D : Dk} {s n p : ByteArray} {r : Int} (h : AdN w va vb D s n p r W) (hb : Below W.heap.size W W') : AdN w va vb D s n p r W' :=
 ⟨xE h.d hb (xI h.d),xE h.f hb (xI h.f),xE h.o hb (xI h.o),(h.rd.below hb (Nat.le_refl _)).more hb.size,h.bel.trans (hb.mono h.bel.size)⟩
theorem AdN.drew {w W : World} {va vb : Value} {D : Dk} {s n p : ByteArray} {r : Int} (h : AdN w va vb D s n p r W) : AdN w va vb D s n p r W.drew := h.below (Below.refl _ W).drew
theorem xQ5 {w : World} {va vb : Value} {D : Dk} (h : RdD w w.heap.size va vb D) (s n p : ByteArray) (r : Int) : AdN w va vb D s n p r (((w.alloc (yD va vb)).alloc (uO s n p r)).alloc (yD (.slice none 0 0) (.slice none 0 0))) := by
 have hb := (((Below.refl w.heap.size w).alloc (Nat.le_refl _) (yD va vb)).alloc (by simp) (uO s n p r)).alloc (by simp; omega) (yD (.slice none 0 0) (.slice none 0 0))
 have h1 := xM ((w.alloc (yD va vb)).alloc (uO s n p r)) (yD (.slice none 0 0) (.slice none 0 0))
 rw [World.size_alloc,World.size_alloc] at h1
 exact ⟨xP (zQ _ _ _) _,xP (zM _ _ _) _,h1,(h.below hb (Nat.le_refl _)).more hb.size,hb⟩
theorem xLh {W : World} {g : Nat} {A1 A2 : Option Addr} {n1 c1 n2 c2 : Nat} {ua ub : Value} {D : Dk} (ho : W.heap[g]? = some (yD (.slice A1 n1 c1) (.slice A2 n2 c2))) (hr : RdD W W.heap.size ua ub D) : RdD ((W.setCell ⟨g,0,none⟩ ua).setCell ⟨g,1,none⟩ ub) ((W.setCell ⟨g,0,none⟩ ua).setCell ⟨g,1,none⟩ ub).heap.size ua ub D := by
 have e0 := yB ho 0 ua
 obtain ⟨A3,c3,A4,c4,rfl,rfl⟩ := yH hr
 have n0 := vP ho
 have n1 : xS4 (W.setCell ⟨g,0,none⟩ (.slice A3 D.secs.length c3)) g := by
  simp only [List.setIfInBounds_toArray,List.set_cons_zero] at e0
  exact vP e0
 have := RdD.far (RdD.far hr (p := ⟨g,0,none⟩) n0 (.slice A3 D.secs.length c3)) (p := ⟨g,1,none⟩) n1 (.slice A4 D.cache.length c4)
 simpa [size_set] using this
theorem yC5 (va vb : Value) (d : Dk) (u pw xO xD priv : ByteArray) (r : Int) (w : World) (h : RdD w w.heap.size va vb d) (hu : u.size ≤ 1000) (hf : (yS u && yY xO xD priv r) = false) :
  Calls Tryz.prog 6 #[.agg #[va,vb],.string u,.string pw,xB3 xO xD priv r] w fun e w' => e = .returned (.tuple #[.agg #[.slice none 0 0,.slice none 0 0],.int .i64 1]) ∧ Below w.heap.size w w' := by
 obtain ⟨A1,c1,A2,c2,rfl,rfl⟩ := yH h
 have H0 := hI' (xQ5 h xO xD priv r)
 have HMK := hI' (fun W => xXv u pw xO xD priv r W (by omega) hf)
 clear h hu hf
 simp only [pF,zP] at HMK
 go_enter Tryz.func6,Tryz.ntmps6
 go_upto_region 1 with fail
 obtain ⟨w1,hw1⟩ : ∃ w1,((w.alloc (yD (.slice A1 d.secs.length c1) (.slice A2 d.cache.length c2))).alloc (uO xO xD priv r)).alloc (yD (.slice none 0 0) (.slice none 0 0)) = w1 := ⟨_,rfl⟩
 rw [hw1] at H0
 rw [hw1]
 clear hw1
 have hb := H0.out.f
 obtain ⟨e0,e1,e2,e3⟩ := xM5 hb
 clear hb
 go_wp2_with fail
 refine (HMK.out _).mono ?_
 rintro e w2 ⟨rfl,hb2⟩
 have H2 := hI' (H0.out.below hb2)
 clear H0 HMK hb2 e0 e1 e2 e3
 go_upto_region 3 with fail
 have H3 := hI' (H2.out.below ((Below.refl _ _).alloc (Nat.le_refl _) (yI zP)))
 obtain ⟨w3,hw3⟩ : ∃ w3,w2.alloc (yI zP) = w3 := ⟨_,rfl⟩
 rw [hw3] at H3
 simp only [yI,zP] at hw3
 rw [hw3]
 clear hw3 H2
 obtain ⟨o0,y0,f0,o1,y1,f1,HB⟩ := xNv H3.out.o H3.out.bel (by omega) (.slice none 0 0) (.slice none 0 0) _ rfl
 clear H3
 rw [show w.heap.size + 1 + 1 = w.heap.size + 2 from rfl]
 go_wp2
 refine bodyPost_ret (v := .tuple #[.agg #[.slice none 0 0,.slice none 0 0],.int .i64 1]) (by simp [results,Tryz.results6,go_sem,f0,f1]) rfl ?_
 exact ⟨rfl,HB.out⟩
theorem add_ok (va vb : Value) (d : Dk) (u pw xO xD priv : ByteArray) (r : Nat) (w : World) (h : RdD w w.heap.size va vb d) (hu : yS u = true) (hf : yY xO xD priv (r : Int) = true) (hpw : pw.size ≤ 1000) (hg : xJu d (vO [117] u.data.toList) ≠ 0) (hcc : d.cache.length ≤ 10000) (hT : vT w) :
  Calls Tryz.prog 6 #[.agg #[va,vb],.string u,.string pw,xB3 xO xD priv r] w fun e w' => ∃ va' vb',e = .returned (.tuple #[.agg #[va',vb'],.int .i64 (xDm d (xSg u pw xO xD priv r))]) ∧ RdD w' w'.heap.size va' vb' (tZ d (xSg u pw xO xD priv r)) ∧ Below w.heap.size w w' := by
 obtain ⟨A1,c1,A2,c2,rfl,rfl⟩ := yH h
 have hr := tO (pw := pw) hu hf
 have hus : u.size ≤ 8 := (kL hr).2.1
 have hps : priv.size = 32 ∧ xD.size = 12 := by
  unfold yY at hf
  simp only [Bool.and_eq_true,decide_eq_true_eq] at hf
  exact ⟨hf.2,(kL hr).2.2.2.2.2.2.2.2.1⟩
 have H0 := hI' (xQ5 h xO xD priv (r : Int))
 have HMK := hI' (fun W (hb : Below w.heap.size w W) => yAy u pw xO xD priv r W hu hf hpw (hT.below hb (Nat.le_refl _)))
 have HUO := hI' (fun W => jQ ⟨#[117]⟩ u W (by decide) (by omega))
 rw [show (⟨#[117]⟩ : ByteArray).data.toList = [117] from rfl] at HUO
 have HGE := hI' (fun W (h : AdN w (.slice A1 d.secs.length c1) (.slice A2 d.cache.length c2) d xO xD priv r W) => xNg _ _ d (vO [117] u.data.toList) W h.rd)
 have HVA := hI' (fun W => xKc (xHc u pw xO xD priv r) W hr)
 have HNW := hI' (fun W => xYa W)
 have HSE := hI' (fun W (hb : Below w.heap.size w W) => xQr u priv xD (bsA (kE newP)) W (by omega) (by omega) hps.2 (by decide) (hT.below hb (Nat.le_refl _)))
 have HPU := hI' (fun W (bv sv : Value) (h : xQ6 W W.heap.size bv sv newP) => xMu bv sv newP W h (by decide) (by decide) (by decide))
 have HAP := hI' (fun W lv (h : AdN w (.slice A1 d.secs.length c1) (.slice A2 d.cache.length c2) d xO xD priv r W) (hl : RdR 3 chF W W.heap.size lv (xSg u pw xO xD priv r)) => xLw _ _ lv d (xSg u pw xO xD priv r) W h.rd hl (show 2 ≤ 500 by decide) hcc (hT.below h.bel (Nat.le_refl _)))
 have HAL : Hid (xSg u pw xO xD priv r = [xO4 (xHc u pw xO xD priv r),xMq u priv xD (bsA (kE newP))]) := hI' rfl
 generalize hla : xSg u pw xO xD priv r = la at HAP HAL ⊢
 clear hla
 generalize xDm d la = ae at HAP ⊢
 generalize tZ d la = pd at HAP ⊢
 generalize xO4 (xHc u pw xO xD priv r) = ca at HVA HAL
 generalize xMq u priv xD (bsA (kE newP)) = cs at HSE HAL
 generalize vO [117] u.data.toList = nm at HUO HGE hg
 generalize xJu d nm = ge at HGE hg
 generalize xPb d nm = gp at HGE
 simp only [xHc] at HVA HMK
 generalize rF u (zX priv) 0 pw xO xD r priv = na at HMK HVA
 rw [show xU (kE newP) = .string (bsA (kE newP)) from rfl] at HPU
 generalize bsA (kE newP) = pn at HSE HPU
 rw [show putE newP = 0 by decide,show newP.given = 2 from rfl] at HPU
 obtain ⟨tu,ts,tr,te,tp,tn,tw,to_⟩ := na
 obtain ⟨cn,cd,cg⟩ := ca
 obtain ⟨sn,sd,sg⟩ := cs
 simp only [chV] at HVA HSE
 simp only [pF] at HMK HVA
 have hg1 : (ge == 0) = false := by simpa using hg
 have hg2 : (ge != 0) = true := by simpa using hg
 clear h hu hf hpw hg hcc hT hr hus hps
 go_enter Tryz.func6,Tryz.ntmps6
 go_upto_region 1 with fail
 obtain ⟨w1,hw1⟩ : ∃ w1,((w.alloc (yD (.slice A1 d.secs.length c1) (.slice A2 d.cache.length c2))).alloc (uO xO xD priv r)).alloc (yD (.slice none 0 0) (.slice none 0 0)) = w1 := ⟨_,rfl⟩
 rw [hw1] at H0
 rw [hw1]
 clear hw1
 have hb := H0.out.f
 obtain ⟨e0,e1,e2,e3⟩ := xM5 hb
 clear hb
 go_wp2_with fail
 refine (HMK.out _ H0.out.bel).mono ?_
 rintro e w2 ⟨rfl,hb2⟩
 have H2 := hI' (H0.out.below hb2)
 clear H0 HMK hb2 e0 e1 e2 e3
 go_upto_region 4 with fail
 have H3 : Hid (AdN w (.slice A1 d.secs.length c1) (.slice A2 d.cache.length c2) d xO xD priv r (w2.alloc (yI ⟨tu,ts,tr,te,tp,tn,tw,to_⟩)) ∧ (w2.alloc (yI ⟨tu,ts,tr,te,tp,tn,tw,to_⟩)).heap[w2.heap.size]? = some (yI ⟨tu,ts,tr,te,tp,tn,tw,to_⟩)) := hI' ⟨H2.out.below ((Below.refl _ _).alloc (Nat.le_refl _) _),xM _ _⟩
 obtain ⟨w3,hw3⟩ : ∃ w3,w2.alloc (yI ⟨tu,ts,tr,te,tp,tn,tw,to_⟩) = w3 := ⟨_,rfl⟩
 rw [hw3] at H3
 simp only [yI] at hw3 H3
 rw [hw3]
 clear hw3 H2
 generalize w2.heap.size = g2 at H3 ⊢
 refine RG.xR (fun W => Hid (AdN w (.slice A1 d.secs.length c1) (.slice A2 d.cache.length c2) d xO xD priv r W ∧ W.heap[g2]? = some (yI ⟨tu,ts,tr,te,tp,tn,tw,to_⟩))) (by kernel_rfl) (by kernel_rfl) (hI' ⟨H3.out.1.drew,H3.out.2⟩) ?_
 iterate 2
  apply RG.xC
  ·intro w9 hw9
   have hb := hw9.out.1.d
   obtain ⟨e0,e1⟩ := uG hb
   repeat go_step
   with_reducible exact RG.xB hw9
  ·rfl
 apply RG.xC
 ·intro w9 hw9
  repeat go_step
  refine (HUO.out _).mono ?_
  rintro e w10 ⟨rfl,rfl⟩
  simp only []
  repeat go_step
  with_reducible exact RG.xB hw9
 ·rfl
 apply RG.xC
 ·intro w9 hw9
  repeat go_step
  refine (HGE.out _ hw9.out.1).mono ?_
  rintro e w10 ⟨rfl,yA⟩
  simp only []
  repeat go_step
  with_reducible refine RG.xB ?_
  exact hI' ⟨hw9.out.1.below yA,xE hw9.out.2 yA (xI hw9.out.2)⟩
 ·rfl
 iterate 5
  apply RG.xC
  ·intro w9 hw9
   repeat go_step
   with_reducible exact RG.xB hw9
  ·rfl
 refine RG.xW (fun w4 hw4 => ?_)
 clear H3 HUO HGE
 have H4 := hw4
 clear hw4
 go_upto_region 7 with fail
 have hb := H4.out.2
 obtain ⟨a0,a1,a2,a3,a4,a5,a6,a7⟩ := xRx hb
 clear hb
 go_wp2_with fail
 refine (HVA.out _).mono ?_
 rintro e w5 ⟨rfl,hb5⟩
 have H5 := hI' (H4.out.1.below hb5)
 clear hb5 H4 HVA a0 a1 a2 a3 a4 a5 a6 a7
 go_upto_region 10 with fail
 have H6 : Hid (AdN w (.slice A1 d.secs.length c1) (.slice A2 d.cache.length c2) d xO xD priv r (w5.alloc (chO ⟨cn,cd,cg⟩)) ∧ (w5.alloc (chO ⟨cn,cd,cg⟩)).heap[w5.heap.size]? = some (chO ⟨cn,cd,cg⟩)) := hI' ⟨H5.out.below ((Below.refl _ _).alloc (Nat.le_refl _) _),xM _ _⟩
 obtain ⟨w6,hw6⟩ : ∃ w6,w5.alloc (chO ⟨cn,cd,cg⟩) = w6 := ⟨_,rfl⟩
 rw [hw6] at H6
 simp only [chO] at hw6 H6
 rw [hw6]
 clear hw6 H5
 generalize w5.heap.size = g5 at H6 ⊢
 go_wp2_with fail
 refine (HNW.out _).mono ?_
 rintro e w7 ⟨bv,sv,rfl,ho,hb7⟩
 obtain ⟨A3,n3,k3,A4,n4,k4,rfl,rfl⟩ := ho.form
 have H7 := hI' (And.intro (H6.out.1.below hb7) (xE H6.out.2 hb7 (xI H6.out.2)))
 have HO := hI' (HPU.out w7 _ _ (ho.rd))
 clear hb7 ho H6 HNW HPU
 go_wp2_with fail
 refine HO.out.mono ?_
 rintro e w8 ⟨rfl,hb8⟩
 have H8 := hI' (And.intro (H7.out.1.below hb8) (xE H7.out.2 hb8 (xI H7.out.2)))
 clear hb8 HO H7
 go_upto_region 13 with fail
 have hb := H8.out.1.f
 obtain ⟨e0,e1,e2,e3⟩ := xM5 hb
 clear hb
 go_wp2_with fail
 refine (HSE.out _ H8.out.1.bel).mono ?_
 rintro e w9 ⟨rfl,hb9⟩
 have H9 : Hid (AdN w (.slice A1 d.secs.length c1) (.slice A2 d.cache.length c2) d xO xD priv r (w9.alloc (chO ⟨sn,sd,sg⟩)) ∧ (w9.alloc (chO ⟨sn,sd,sg⟩)).heap[g5]? = some (chO ⟨cn,cd,cg⟩) ∧ (w9.alloc (chO ⟨sn,sd,sg⟩)).heap[w9.heap.size]? = some (chO ⟨sn,sd,sg⟩)) := hI' ⟨(H8.out.1.below hb9).below ((Below.refl _ _).alloc (Nat.le_refl _) _),xP (xE H8.out.2 hb9 (xI H8.out.2)) _,xM _ _⟩
 clear hb9 H8 HSE e0 e1 e2 e3
 go_upto_region 16 with fail
 obtain ⟨w10,xV1⟩ : ∃ w10,w9.alloc (chO ⟨sn,sd,sg⟩) = w10 := ⟨_,rfl⟩
 rw [xV1] at H9
 simp only [chO,xU] at xV1 H9
 rw [xV1]
 clear xV1
 generalize w9.heap.size = g9 at H9 ⊢
 have hb := H9.out.1.d
 obtain ⟨e0,e1⟩ := uG hb
 clear hb
 have hb := H9.out.2.1
 obtain ⟨y0,y1,y2⟩ := xO0 hb
 clear hb
 have hb := H9.out.2.2
 obtain ⟨z0,z1,z2⟩ := xO0 hb
 clear hb
 go_wp2_with fail
 have HL : Hid (AdN w (.slice A1 d.secs.length c1) (.slice A2 d.cache.length c2) d xO xD priv r (w10.alloc (.cells #[xU cn,xU cd,.bool cg,xU sn,xU sd,.bool sg] 70)) ∧ RdR 3 chF (w10.alloc (.cells #[xU cn,xU cd,.bool cg,xU sn,xU sd,.bool sg] 70)) (w10.alloc (.cells #[xU cn,xU cd,.bool cg,xU sn,xU sd,.bool sg] 70)).heap.size (.slice (some ⟨w10.heap.size,0,none⟩) 2 2) la) := hI' ⟨H9.out.1.below ((Below.refl _ _).alloc (Nat.le_refl _) _),by
  rw [HAL.out,World.size_alloc]
  exact RdR.lit (m := [⟨cn,cd,cg⟩,⟨sn,sd,sg⟩]) (f := chF) (fun _ => rfl) w10 #[xU cn,xU cd,.bool cg,xU sn,xU sd,.bool sg] rfl⟩
 clear e0 e1 y0 y1 y2 z0 z1 z2 H9
 refine (HAP.out _ _ HL.out.1 HL.out.2).mono ?_
 rintro e w11 ⟨va',vb',rfl,hrd,xZn⟩
 have H11 := hI' (HL.out.1.below xZn)
 obtain ⟨A5,k5,A6,k6,rfl,rfl⟩ := yH hrd
 have HS := hI' (xLh H11.out.o hrd)
 clear xZn HL HAP HAL hrd
 obtain ⟨o0,y0,f0,o1,y1,f1,HB⟩ := xNv H11.out.o H11.out.bel (by omega) (.slice A5 pd.secs.length k5) (.slice A6 pd.cache.length k6) _ rfl
 clear H11
 rw [show w.heap.size + 1 + 1 = w.heap.size + 2 from rfl]
 go_wp2
 refine bodyPost_ret (v := .tuple #[.agg #[.slice A5 pd.secs.length k5,.slice A6 pd.cache.length k6],.int .i64 ae]) (by simp [results,Tryz.results6,go_sem,f0,f1]) rfl ?_
 exact ⟨_,_,rfl,HS.out,HB.out⟩
end Go.Proofs.VA

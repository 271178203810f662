/- Contracts of functions of the program. Conditions: those that each theorem states. -/
import Derived.Test.YtnaiekglbemhcaaGreatDoorVaultFreshProofB32
import Derived.Test.YtnaiekglbemhcaaGreatDoorVaultFreshProofB40
set_option maxHeartbeats 8000000
set_option maxRecDepth 100000
namespace Mailsack
open Go.Proofs.SH
def unlK (a : vR) (pw : ByteArray) : ByteArray := xC9 pw a.xO a.rounds.toNat
def w32 (wr : ByteArray) : ByteArray := wr.extract 0 32
def w16 (wr : ByteArray) : ByteArray := wr.extract 32 48
theorem xT0 {wr : ByteArray} (h : wr.size = 48) : w32 wr ++ w16 wr = wr := by
 unfold w32 w16
 rw [ByteArray.extract_append_extract]
 simp
 rw [← h]
 exact ByteArray.extract_zero_size
theorem xIv {wr : ByteArray} (h : wr.size = 48) : (w32 wr).size = 32 := by simp [w32,ByteArray.size_extract]; omega
theorem xO8 {wr : ByteArray} (h : wr.size = 48) : (w16 wr).size = 16 := by simp [w16,ByteArray.size_extract]; omega
def xMf (a : vR) (pw : ByteArray) : Bool := rA (wM (unlK a pw) a.xD (a.user ++ a.pub) (w32 a.wrapped)) (w16 a.wrapped)
def jL (a : vR) (pw : ByteArray) : ByteArray := bsA (vF (unlK a pw) a.xD 1 (w32 a.wrapped))
def yAu (a : vR) (pw : ByteArray) : Bool := rA (wM (wW (jL a pw)) a.xD a.pub (w32 a.old)) (w16 a.old)
def xOa (a : vR) (pw : ByteArray) : ByteArray := bsA (vF (wW (jL a pw)) a.xD 1 (w32 a.old))
theorem xKd {a : vR} {pw : ByteArray} (h : a.wrapped.size = 48) : (jL a pw).size = 32 := by rw [jL,yO,jZ,xIv h]
def xS7 (a : vR) (pw : ByteArray) : Int :=
 if uI a = false then 1 else if xMf a pw = false then 10 else if rA (zX (jL a pw)) a.pub = false then 10 else if a.old.size = 0 then 0 else if yAu a pw = false then 3 else 0
def xWg (a : vR) (pw : ByteArray) : List ByteArray := if xS7 a pw = 0 then (if a.old.size = 0 then [jL a pw] else [jL a pw,xOa a pw]) else []
end Mailsack
namespace Go.Proofs.SH
open Go.RowKit Mailsack MM BB SV FE
theorem xQh (a : vR) (pw : ByteArray) (w : World) (hu : a.user.size ≤ 1000) (hpw : pw.size ≤ 1000000) (hT : vT w) :
  Calls Tryz.prog 30 #[pF a,.string pw] w fun e w' => ∃ v,e = .returned (.tuple #[v,.int .i64 (xS7 a pw)]) ∧ RdS w' w'.heap.size v ((xWg a pw).map (·.data.toList)) ∧ Below w.heap.size w w' := by
 have HR := hI' (fun W => xDy a W (by omega))
 have H0 := hI' (And.intro ((Below.refl w.heap.size w).alloc (Nat.le_refl _) (yI a)) (xM w (yI a)))
 have HT := hI' (fun W (h : Below w.heap.size w W) => hT.below h (Nat.le_refl _))
 obtain ⟨u,s,r,ep,pb,n,wr,o⟩ := a
 simp only [yI,pF] at H0 HR hu ⊢
 have HUE : Hid (xS7 ⟨u,s,r,ep,pb,n,wr,o⟩ pw = if uI ⟨u,s,r,ep,pb,n,wr,o⟩ = false then 1 else if xMf ⟨u,s,r,ep,pb,n,wr,o⟩ pw = false then 10 else if rA (zX (jL ⟨u,s,r,ep,pb,n,wr,o⟩ pw)) pb = false then 10 else if o.size = 0 then 0 else if yAu ⟨u,s,r,ep,pb,n,wr,o⟩ pw = false then 3 else 0) := hI' rfl
 have HUL : Hid (xWg ⟨u,s,r,ep,pb,n,wr,o⟩ pw = if xS7 ⟨u,s,r,ep,pb,n,wr,o⟩ pw = 0 then (if o.size = 0 then [jL ⟨u,s,r,ep,pb,n,wr,o⟩ pw] else [jL ⟨u,s,r,ep,pb,n,wr,o⟩ pw,xOa ⟨u,s,r,ep,pb,n,wr,o⟩ pw]) else []) := hI' rfl
 clear hT
 cases hr : uI ⟨u,s,r,ep,pb,n,wr,o⟩ with
 | false =>
  have e1 : xS7 ⟨u,s,r,ep,pb,n,wr,o⟩ pw = 1 := by rw [HUE.out,hr]; rfl
  have e2 : xWg ⟨u,s,r,ep,pb,n,wr,o⟩ pw = [] := by rw [HUL.out,e1]; rfl
  rw [hr] at HR
  rw [e1,e2]
  clear HUE HUL HT hr
  go_enter Tryz.func30,Tryz.ntmps30
  go_wp2_with fail
  refine (HR.out _).mono ?_
  rintro e w1 ⟨rfl,hb1⟩
  have B1 := hI' (H0.out.1.trans (hb1.mono H0.out.1.size))
  clear hb1 HR H0
  go_wp2
  go_ret2
  exact ⟨_,rfl,(xQ7.nil _ 0).rd,B1.out⟩
 | true =>
  have hl := kL hr
  simp only at hl
  rw [hr] at HR HUE
  obtain ⟨l1,l2,l3,l4,l5,l6,l7,l8,l9,l10,l11⟩ := hl
  obtain ⟨rn,hrn⟩ : ∃ rn : Nat,r = (rn : Int) := ⟨r.toNat,by omega⟩
  subst hrn
  have HP := hI' (fun W h => xEt pw s rn W (by omega) (by omega) (by omega) (by omega) h)
  have hpz := xI0 pw s rn
  have eK : xC9 pw s rn = unlK ⟨u,s,(rn : Int),ep,pb,n,wr,o⟩ pw := rfl
  have hws := xT0 l10
  have hw1 := xIv l10
  have hw2 := xO8 l10
  have HOY := fun (h : xMf ⟨u,s,(rn : Int),ep,pb,n,wr,o⟩ pw = true) => hI' (fun W => xJc (xC9 pw s rn) n (u ++ pb) (w32 wr) (w16 wr) W hpz l9 (by rw [ByteArray.size_append]; omega) (by omega) hw2 h)
  have HON := fun (h : xMf ⟨u,s,(rn : Int),ep,pb,n,wr,o⟩ pw = false) => hI' (fun W => xN1 (xC9 pw s rn) n (u ++ pb) (w32 wr) (w16 wr) W hpz l9 (by rw [ByteArray.size_append]; omega) (by omega) hw2 h)
  rw [hws] at HOY HON
  have eP : bsA (vF (xC9 pw s rn) n 1 (w32 wr)) = jL ⟨u,s,(rn : Int),ep,pb,n,wr,o⟩ pw := rfl
  rw [eP] at HOY
  have hpz2 := xKd (a := ⟨u,s,(rn : Int),ep,pb,n,wr,o⟩) (pw := pw) l10
  have nb : ¬ (9223372036854775807 < u.size + pb.size) := by omega
  have HQ : Hid (yAu ⟨u,s,(rn : Int),ep,pb,n,wr,o⟩ pw = rA (wM (wW (jL ⟨u,s,(rn : Int),ep,pb,n,wr,o⟩ pw)) n pb (w32 o)) (w16 o)) := hI' rfl
  have HQ2 : Hid (xOa ⟨u,s,(rn : Int),ep,pb,n,wr,o⟩ pw = bsA (vF (wW (jL ⟨u,s,(rn : Int),ep,pb,n,wr,o⟩ pw)) n 1 (w32 o))) := hI' rfl
  clear eK eP hws hw1 hw2
  generalize xC9 pw s rn = key at HP HOY HON
  generalize jL ⟨u,s,(rn : Int),ep,pb,n,wr,o⟩ pw = priv at HOY hpz2 HUE HUL HQ HQ2
  have HPU := hI' (fun W => xHx priv W hpz2)
  have yBf : (zX priv).size = 32 := xC8 _ _
  have HM := hI' (fun W => xCy (zX priv) pb W (by omega))
  cases hok : xMf ⟨u,s,(rn : Int),ep,pb,n,wr,o⟩ pw with
  | false =>
   have HO := HON hok
   have e1 : xS7 ⟨u,s,(rn : Int),ep,pb,n,wr,o⟩ pw = 10 := by rw [HUE.out,hok]; rfl
   have e2 : xWg ⟨u,s,(rn : Int),ep,pb,n,wr,o⟩ pw = [] := by rw [HUL.out,e1]; rfl
   rw [e1,e2]
   clear HUE HUL HQ HQ2 hr hok HON HOY l1 l2 l3 l4 l5 l6 l7 l8 l9 l10 l11 hpz hpz2 yBf HM HPU
   go_enter Tryz.func30,Tryz.ntmps30
   go_wp2_with fail
   refine (HR.out _).mono ?_
   rintro e w1 ⟨rfl,hb1⟩
   have B1 := hI' (H0.out.1.trans (hb1.mono H0.out.1.size))
   have HK1 := hI' (xE H0.out.2 hb1 (xI H0.out.2))
   clear hb1 HR H0
   obtain ⟨c0,c1,c2⟩ := xO0 HK1.out
   go_wp2_with fail
   clear c0 c1 c2
   refine (HP.out _ (HT.out _ B1.out)).mono ?_
   rintro e w2 ⟨rfl,hb2⟩
   have B2 := hI' (B1.out.trans (hb2.mono B1.out.size))
   have HK2 := hI' (xE HK1.out hb2 (xI HK1.out))
   clear hb2 HP HK1 B1
   obtain ⟨c0,c1,c2,c3,c4,c5,c6⟩ := xPx HK2.out
   go_wp2_with fail
   clear c0 c1 c2 c3 c4 c5 c6
   refine (HO.out _).mono ?_
   rintro e w3 ⟨rfl,hb3⟩
   have B3 := hI' (B2.out.trans (hb3.mono B2.out.size))
   have HK3 := hI' (xE HK2.out hb3 (xI HK2.out))
   clear hb3 HO HK2 B2
   go_wp2
   go_ret2
   exact ⟨_,rfl,(xQ7.nil _ 0).rd,B3.out⟩
  | true =>
   have HO := HOY hok
   rw [hok,if_neg (by simp),if_neg (by simp)] at HUE
   clear hok HON HOY hr
   cases hsm : rA (zX priv) pb with
   | false =>
    rw [hsm] at HM HUE
    rw [if_pos rfl] at HUE
    have e2 : xWg ⟨u,s,(rn : Int),ep,pb,n,wr,o⟩ pw = [] := by rw [HUL.out,HUE.out]; rfl
    rw [HUE.out,e2]
    clear HUE HUL HQ HQ2 hsm l1 l2 l3 l4 l5 l6 l7 l8 l9 l10 l11 hpz hpz2 yBf
    generalize zX priv = pubv at HPU HM
    go_enter Tryz.func30,Tryz.ntmps30
    go_wp2_with fail
    refine (HR.out _).mono ?_
    rintro e w1 ⟨rfl,hb1⟩
    have B1 := hI' (H0.out.1.trans (hb1.mono H0.out.1.size))
    have HK1 := hI' (xE H0.out.2 hb1 (xI H0.out.2))
    clear hb1 HR H0
    obtain ⟨c0,c1,c2⟩ := xO0 HK1.out
    go_wp2_with fail
    clear c0 c1 c2
    refine (HP.out _ (HT.out _ B1.out)).mono ?_
    rintro e w2 ⟨rfl,hb2⟩
    have B2 := hI' (B1.out.trans (hb2.mono B1.out.size))
    have HK2 := hI' (xE HK1.out hb2 (xI HK1.out))
    clear hb2 HP HK1 B1
    obtain ⟨c0,c1,c2,c3,c4,c5,c6⟩ := xPx HK2.out
    go_wp2_with fail
    clear c0 c1 c2 c3 c4 c5 c6
    refine (HO.out _).mono ?_
    rintro e w3 ⟨rfl,hb3⟩
    have B3 := hI' (B2.out.trans (hb3.mono B2.out.size))
    have HK3 := hI' (xE HK2.out hb3 (xI HK2.out))
    clear hb3 HO HK2 B2
    go_wp2_with fail
    refine (HPU.out _).mono ?_
    rintro e w4 ⟨rfl,hb4⟩
    have B4 := hI' (B3.out.trans (hb4.mono B3.out.size))
    have HK4 := hI' (xE HK3.out hb4 (xI HK3.out))
    clear hb4 HPU HK3 B3
    obtain ⟨c0,c1,c2,c3,c4⟩ := xSf HK4.out
    go_wp2_with fail
    clear c0 c1 c2 c3 c4
    refine (HM.out _).mono ?_
    rintro e w5 ⟨rfl,hb5⟩
    have B5 := hI' (B4.out.trans (hb5.mono B4.out.size))
    have HK5 := hI' (xE HK4.out hb5 (xI HK4.out))
    clear hb5 HM HK4 B4
    go_wp2
    go_ret2
    exact ⟨_,rfl,(xQ7.nil _ 0).rd,B5.out⟩
   | true =>
    rw [hsm] at HM HUE
    rw [if_neg (by simp)] at HUE
    by_cases ho : o.size = 0
    ·rw [if_pos ho] at HUE
     have e2 : xWg ⟨u,s,(rn : Int),ep,pb,n,wr,o⟩ pw = [priv] := by rw [HUL.out,HUE.out,if_pos rfl,if_pos ho]
     rw [HUE.out,e2]
     have i6 : (o.toList == []) = true := by rw [ByteArray.toList_eq]; simp; exact Array.eq_empty_of_size_eq_zero ho
     clear HUE HUL HQ HQ2 hsm l1 l2 l3 l4 l5 l6 l7 l8 l9 l10 l11 hpz hpz2 yBf ho
     generalize zX priv = pubv at HPU HM
     go_enter Tryz.func30,Tryz.ntmps30
     go_wp2_with fail
     refine (HR.out _).mono ?_
     rintro e w1 ⟨rfl,hb1⟩
     have B1 := hI' (H0.out.1.trans (hb1.mono H0.out.1.size))
     have HK1 := hI' (xE H0.out.2 hb1 (xI H0.out.2))
     clear hb1 HR H0
     obtain ⟨c0,c1,c2⟩ := xO0 HK1.out
     go_wp2_with fail
     clear c0 c1 c2
     refine (HP.out _ (HT.out _ B1.out)).mono ?_
     rintro e w2 ⟨rfl,hb2⟩
     have B2 := hI' (B1.out.trans (hb2.mono B1.out.size))
     have HK2 := hI' (xE HK1.out hb2 (xI HK1.out))
     clear hb2 HP HK1 B1
     obtain ⟨c0,c1,c2,c3,c4,c5,c6⟩ := xPx HK2.out
     go_wp2_with fail
     clear c0 c1 c2 c3 c4 c5 c6
     refine (HO.out _).mono ?_
     rintro e w3 ⟨rfl,hb3⟩
     have B3 := hI' (B2.out.trans (hb3.mono B2.out.size))
     have HK3 := hI' (xE HK2.out hb3 (xI HK2.out))
     clear hb3 HO HK2 B2
     go_wp2_with fail
     refine (HPU.out _).mono ?_
     rintro e w4 ⟨rfl,hb4⟩
     have B4 := hI' (B3.out.trans (hb4.mono B3.out.size))
     have HK4 := hI' (xE HK3.out hb4 (xI HK3.out))
     clear hb4 HPU HK3 B3
     obtain ⟨c0,c1,c2,c3,c4⟩ := xSf HK4.out
     go_wp2_with fail
     clear c0 c1 c2 c3 c4
     refine (HM.out _).mono ?_
     rintro e w5 ⟨rfl,hb5⟩
     have B5 := hI' (B4.out.trans (hb5.mono B4.out.size))
     have HK5 := hI' (xE HK4.out hb5 (xI HK4.out))
     clear hb5 HM HK4 B4
     obtain ⟨c0,c1,c2,c3,c4,c5,c6,c7⟩ := xRx HK5.out
     have B6 := hI' (B5.out.alloc B5.out.size (.cells #[.string priv] 9))
     have hk6 := xA (xM w5 (.cells #[.string priv] 9)) 0
     have HK6 := hI' hk6
     clear hk6
     go_wp2
     go_ret2
     refine ⟨_,rfl,⟨_,_,rfl,Nat.le_refl _,fun _ => ⟨_,_,rfl,by simp,fun j x hx => ?_⟩⟩,B6.out⟩
     have hj : j = 0 := by
      have := (List.getElem?_eq_some_iff.1 hx).1
      simpa using this
     subst hj
     injection hx with hx
     subst hx
     exact HK6.out
    ·rw [if_neg ho] at HUE
     have i6 : (o.toList == []) = false := by
      rw [ByteArray.toList_eq]
      cases hx : (o.data.toList == []) with
      | false => rfl
      | true =>
       simp only [beq_iff_eq] at hx
       exact absurd (show o.data.size = 0 by rw [← Array.length_toList,hx]; rfl) ho
     have l48 : o.size = 48 := by omega
     have hws := xT0 l48
     have hw1 := xIv l48
     have hw2 := xO8 l48
     have HOK := hI' (fun W h => xR4 priv W (by omega) h)
     have hkz := xKx priv
     have HOY := fun (h : rA (wM (wW priv) n pb (w32 o)) (w16 o) = true) => hI' (fun W => xJc (wW priv) n pb (w32 o) (w16 o) W hkz l9 (by omega) (by omega) hw2 h)
     have HON := fun (h : rA (wM (wW priv) n pb (w32 o)) (w16 o) = false) => hI' (fun W => xN1 (wW priv) n pb (w32 o) (w16 o) W hkz l9 (by omega) (by omega) hw2 h)
     rw [hws,← HQ2.out] at HOY
     rw [hws] at HON
     rw [HQ.out] at HUE
     have HO1 := HO
     have hE : xS7 ⟨u,s,(rn : Int),ep,pb,n,wr,o⟩ pw = if rA (wM (wW priv) n pb (w32 o)) (w16 o) = false then 3 else 0 := HUE.out
     rw [hE] at HUL
     rw [hE]
     clear hE HUE HQ hws hw1 hw2 l1 l2 l3 l4 l5 l6 l7 l8 l9 l10 l11 hsm
     generalize xOa ⟨u,s,(rn : Int),ep,pb,n,wr,o⟩ pw = old at HOY HUL HQ2
     generalize zX priv = pubv at HPU HM yBf
     clear HQ2 yBf hpz hkz hpz2 HO
     cases hs2 : rA (wM (wW priv) n pb (w32 o)) (w16 o) with
     | false =>
      have HOP := HON hs2
      rw [hs2,if_pos rfl,if_neg (by omega)] at HUL
      rw [HUL.out,if_pos rfl]
      clear hs2 HON HOY HUL
      generalize wW priv = k2 at HOK HOP
      have HO := HO1
      clear HO1 ho
      go_enter Tryz.func30,Tryz.ntmps30
      go_wp2_with fail
      refine (HR.out _).mono ?_
      rintro e w1 ⟨rfl,hb1⟩
      have B1 := hI' (H0.out.1.trans (hb1.mono H0.out.1.size))
      have HK1 := hI' (xE H0.out.2 hb1 (xI H0.out.2))
      clear hb1 HR H0
      obtain ⟨c0,c1,c2⟩ := xO0 HK1.out
      go_wp2_with fail
      clear c0 c1 c2
      refine (HP.out _ (HT.out _ B1.out)).mono ?_
      rintro e w2 ⟨rfl,hb2⟩
      have B2 := hI' (B1.out.trans (hb2.mono B1.out.size))
      have HK2 := hI' (xE HK1.out hb2 (xI HK1.out))
      clear hb2 HP HK1 B1
      obtain ⟨c0,c1,c2,c3,c4,c5,c6⟩ := xPx HK2.out
      go_wp2_with fail
      clear c0 c1 c2 c3 c4 c5 c6
      refine (HO.out _).mono ?_
      rintro e w3 ⟨rfl,hb3⟩
      have B3 := hI' (B2.out.trans (hb3.mono B2.out.size))
      have HK3 := hI' (xE HK2.out hb3 (xI HK2.out))
      clear hb3 HO HK2 B2
      go_wp2_with fail
      refine (HPU.out _).mono ?_
      rintro e w4 ⟨rfl,hb4⟩
      have B4 := hI' (B3.out.trans (hb4.mono B3.out.size))
      have HK4 := hI' (xE HK3.out hb4 (xI HK3.out))
      clear hb4 HPU HK3 B3
      obtain ⟨c0,c1,c2,c3,c4⟩ := xSf HK4.out
      go_wp2_with fail
      clear c0 c1 c2 c3 c4
      refine (HM.out _).mono ?_
      rintro e w5 ⟨rfl,hb5⟩
      have B5 := hI' (B4.out.trans (hb5.mono B4.out.size))
      have HK5 := hI' (xE HK4.out hb5 (xI HK4.out))
      clear hb5 HM HK4 B4
      obtain ⟨c0,c1,c2,c3,c4,c5,c6,c7⟩ := xRx HK5.out
      go_wp2_with fail
      clear c0 c1 c2 c3 c4 c5 c6 c7
      refine (HOK.out _ (HT.out _ B5.out)).mono ?_
      rintro e w6 ⟨rfl,hb6⟩
      have B6 := hI' (B5.out.trans (hb6.mono B5.out.size))
      have HK6 := hI' (xE HK5.out hb6 (xI HK5.out))
      clear hb6 HOK HK5 B5
      obtain ⟨c0,c1,c2,c3,c4,c5,c6,c7⟩ := xRx HK6.out
      go_wp2_with fail
      clear c0 c1 c2 c3 c4 c5 c6 c7
      refine (HOP.out _).mono ?_
      rintro e w7 ⟨rfl,hb7⟩
      have B7 := hI' (B6.out.trans (hb7.mono B6.out.size))
      clear hb7 HOP B6 HK6
      go_wp2
      go_ret2
      exact ⟨_,rfl,(xQ7.nil _ 0).rd,B7.out⟩
     | true =>
      have HOP := HOY hs2
      rw [hs2,show (if true = false then (3 : Int) else 0) = 0 from rfl,if_pos rfl,if_neg ho] at HUL
      rw [HUL.out,show (if true = false then (3 : Int) else 0) = 0 from rfl]
      clear hs2 HON HOY HUL
      generalize wW priv = k2 at HOK HOP
      have HO := HO1
      clear HO1 ho
      go_enter Tryz.func30,Tryz.ntmps30
      go_wp2_with fail
      refine (HR.out _).mono ?_
      rintro e w1 ⟨rfl,hb1⟩
      have B1 := hI' (H0.out.1.trans (hb1.mono H0.out.1.size))
      have HK1 := hI' (xE H0.out.2 hb1 (xI H0.out.2))
      clear hb1 HR H0
      obtain ⟨c0,c1,c2⟩ := xO0 HK1.out
      go_wp2_with fail
      clear c0 c1 c2
      refine (HP.out _ (HT.out _ B1.out)).mono ?_
      rintro e w2 ⟨rfl,hb2⟩
      have B2 := hI' (B1.out.trans (hb2.mono B1.out.size))
      have HK2 := hI' (xE HK1.out hb2 (xI HK1.out))
      clear hb2 HP HK1 B1
      obtain ⟨c0,c1,c2,c3,c4,c5,c6⟩ := xPx HK2.out
      go_wp2_with fail
      clear c0 c1 c2 c3 c4 c5 c6
      refine (HO.out _).mono ?_
      rintro e w3 ⟨rfl,hb3⟩
      have B3 := hI' (B2.out.trans (hb3.mono B2.out.size))
      have HK3 := hI' (xE HK2.out hb3 (xI HK2.out))
      clear hb3 HO HK2 B2
      go_wp2_with fail
      refine (HPU.out _).mono ?_
      rintro e w4 ⟨rfl,hb4⟩
      have B4 := hI' (B3.out.trans (hb4.mono B3.out.size))
      have HK4 := hI' (xE HK3.out hb4 (xI HK3.out))
      clear hb4 HPU HK3 B3
      obtain ⟨c0,c1,c2,c3,c4⟩ := xSf HK4.out
      go_wp2_with fail
      clear c0 c1 c2 c3 c4
      refine (HM.out _).mono ?_
      rintro e w5 ⟨rfl,hb5⟩
      have B5 := hI' (B4.out.trans (hb5.mono B4.out.size))
      have HK5 := hI' (xE HK4.out hb5 (xI HK4.out))
      clear hb5 HM HK4 B4
      obtain ⟨c0,c1,c2,c3,c4,c5,c6,c7⟩ := xRx HK5.out
      go_wp2_with fail
      clear c0 c1 c2 c3 c4 c5 c6 c7
      refine (HOK.out _ (HT.out _ B5.out)).mono ?_
      rintro e w6 ⟨rfl,hb6⟩
      have B6 := hI' (B5.out.trans (hb6.mono B5.out.size))
      have HK6 := hI' (xE HK5.out hb6 (xI HK5.out))
      clear hb6 HOK HK5 B5
      obtain ⟨c0,c1,c2,c3,c4,c5,c6,c7⟩ := xRx HK6.out
      go_wp2_with fail
      clear c0 c1 c2 c3 c4 c5 c6 c7
      refine (HOP.out _).mono ?_
      rintro e w7 ⟨rfl,hb7⟩
      have B7 := hI' (B6.out.trans (hb7.mono B6.out.size))
      clear hb7 HOP B6 HK6
      have B8 := hI' (B7.out.alloc B7.out.size (.cells #[.string priv,.string old] 9))
      have hk8 := xM w7 (.cells #[.string priv,.string old] 9)
      have HK8 := hI' (And.intro (xA hk8 0) (xA hk8 1))
      clear hk8
      go_wp2
      go_ret2
      refine ⟨_,rfl,⟨_,_,rfl,Nat.le_refl _,fun _ => ⟨_,_,rfl,by simp,fun j x hx => ?_⟩⟩,B8.out⟩
      have hj : j = 0 ∨ j = 1 := by
       have := (List.getElem?_eq_some_iff.1 hx).1
       simp at this
       omega
      rcases hj with rfl | rfl
      ·injection hx with hx
       subst hx
       exact HK8.out.1
      ·injection hx with hx
       subst hx
       exact HK8.out.2
end Go.Proofs.SH
namespace Go.Proofs.VA
open Go.RowKit Mailsack MM BB SH SV RK DS IX Go.Proofs.ST
structure LgN (w : World) (va vb : Value) (so dd : Obj) (b1 b2 : Bool) (W : World) : Prop where
 d : W.heap[w.heap.size]? = some (yD va vb)
 o1 : W.heap[w.heap.size + 1]? = some (if b1 = true then so else kC)
 o2 : W.heap[w.heap.size + 2]? = some (if b2 = true then dd else xIc)
 bel : Below w.heap.size w W
theorem LgN.below {w W W' : World} {va vb : Value} {so dd : Obj} {b1 b2 : Bool} (h : LgN w va vb so dd b1 b2 W) (hb : Below W.heap.size W W') : LgN w va vb so dd b1 b2 W' :=
 ⟨xE h.d hb (xI h.d),xE h.o1 hb (xI h.o1),xE h.o2 hb (xI h.o2),h.bel.trans (hb.mono h.bel.size)⟩
theorem LgN.drew {w W : World} {va vb : Value} {so dd : Obj} {b1 b2 : Bool} (h : LgN w va vb so dd b1 b2 W) : LgN w va vb so dd b1 b2 W.drew := h.below (Below.refl _ W).drew
theorem xOz (w : World) (va vb : Value) (so dd : Obj) : LgN w va vb so dd false false (((w.alloc (yD va vb)).alloc kC).alloc xIc) := by
 have hb := (((Below.refl w.heap.size w).alloc (Nat.le_refl _) (yD va vb)).alloc (by simp) kC).alloc (by simp; omega) xIc
 have h2 := xM ((w.alloc (yD va vb)).alloc kC) xIc
 simp only [World.size_alloc] at h2
 exact ⟨xP (zQ _ _ _) _,xP (zM _ _ _) _,h2,hb⟩
theorem LgN.xHb {w W : World} {va vb : Value} {so dd : Obj} {b2 : Bool} {l : List Value} (h : LgN w va vb so dd false b2 W) (hl : l.length = 7) (e : so = .cells l.toArray 42 (0,0)) : LgN w va vb so dd true b2 (yR (w.heap.size + 1) 0 l W) := by
 have h1 := h.o1
 rw [if_neg (by simp)] at h1
 exact ⟨yQ (by omega) l 0 W h.d,by rw [if_pos rfl,e]; exact uS h1 hl,yQ (by omega) l 0 W h.o2,zZ (by omega) l 0 W h.bel⟩
theorem LgN.put2 {w W : World} {va vb : Value} {so dd : Obj} {b1 : Bool} {l : List Value} (h : LgN w va vb so dd b1 false W) (hl : l.length = 2) (e : dd = .cells l.toArray 28 (0,0)) : LgN w va vb so dd b1 true (yR (w.heap.size + 2) 0 l W) := by
 have h1 := h.o2
 rw [if_neg (by simp)] at h1
 exact ⟨yQ (by omega) l 0 W h.d,yQ (by omega) l 0 W h.o1,by rw [if_pos rfl,e]; exact uS h1 hl,zZ (by omega) l 0 W h.bel⟩
theorem xN8 (va vb : Value) (d : Dk) (u pw xD : ByteArray) (w : World) (h : RdD w w.heap.size va vb d) (hn : xD.size ≠ 12) :
  Calls Tryz.prog 10 #[.agg #[va,vb],.string u,.string pw,.string xD] w fun e w' => e = .returned (.tuple #[sesV ⟨#[]⟩ ⟨#[]⟩ ⟨#[]⟩ 0 (.slice none 0 0) (.slice none 0 0) 0,.agg #[.slice none 0 0,.slice none 0 0],.int .i64 1]) ∧ Below w.heap.size w w' := by
 obtain ⟨A1,c1,A2,c2,rfl,rfl⟩ := yH h
 have H0 := hI' (xOz w (.slice A1 d.secs.length c1) (.slice A2 d.cache.length c2) kC xIc)
 have hn1 : ((xD.size : Int) == 12) = false := by simp; omega
 have hn2 : ((xD.size : Int) != 12) = true := by simp; omega
 clear h
 go_enter Tryz.func10,Tryz.ntmps10
 go_upto_region 2 with fail
 obtain ⟨w1,hw1⟩ : ∃ w1,((w.alloc (yD (.slice A1 d.secs.length c1) (.slice A2 d.cache.length c2))).alloc kC).alloc xIc = w1 := ⟨_,rfl⟩
 rw [hw1] at H0
 simp only [xH9,kC,xIc] at hw1
 rw [hw1]
 clear hw1
 have h1 := H0.out.o1
 have h2 := H0.out.o2
 rw [if_neg (by simp)] at h1 h2
 have HP := hI' (LgN.put2 (LgN.xHb H0.out (l := [.string ⟨#[]⟩,.string ⟨#[]⟩,.string ⟨#[]⟩,.int .i64 0,.slice none 0 0,.slice none 0 0,.int .i64 0]) rfl rfl) (l := [.slice none 0 0,.slice none 0 0]) rfl rfl)
 simp only [yR,Nat.reduceAdd] at HP
 have o0 := xA h1 0
 have o1 := xA h1 1
 have o2 := xA h1 2
 have o3 := xA h1 3
 have o4 := xA h1 4
 have o5 := xA h1 5
 have o6 := xA h1 6
 have y0 := xK h1 0
 have y1 := xK h1 1
 have y2 := xK h1 2
 have y3 := xK h1 3
 have y4 := xK h1 4
 have y5 := xK h1 5
 have y6 := xK h1 6
 have q0 := xA h2 0
 have q1 := xA h2 1
 have z0 := xK h2 0
 have z1 := xK h2 1
 simp only [gA,gB,gC] at o0 o1 o2 o3 o4 o5 o6 q0 q1
 clear h1 h2 H0
 rw [show w.heap.size + 1 + 1 = w.heap.size + 2 from rfl]
 go_wp2
 have h1 := HP.out.o1
 have h2 := HP.out.o2
 rw [if_pos rfl] at h1 h2
 obtain ⟨f0,f1,f2,f3,f4,f5,f6⟩ := xPx h1
 obtain ⟨g0,g1⟩ := uG h2
 have HB := hI' HP.out.bel
 refine bodyPost_ret (v := .tuple #[.agg #[.string ⟨#[]⟩,.string ⟨#[]⟩,.string ⟨#[]⟩,.int .i64 0,.slice none 0 0,.slice none 0 0,.int .i64 0],.agg #[.slice none 0 0,.slice none 0 0],.int .i64 1]) (by simp [results,Tryz.results10,go_sem,f0,f1,f2,f3,f4,f5,f6,g0,g1]) rfl ?_
 exact ⟨rfl,HB.out⟩
theorem LgN.far {w W : World} {va vb : Value} {so dd : Obj} {b1 b2 : Bool} (h : LgN w va vb so dd b1 b2 W) {g : Nat} (hg : w.heap.size + 3 ≤ g) (l : List Value) (i : Nat) : LgN w va vb so dd b1 b2 (yR g i l W) :=
 ⟨yQ (by omega) l i W h.d,yQ (by omega) l i W h.o1,yQ (by omega) l i W h.o2,zZ (by omega) l i W h.bel⟩
theorem LgN.same {w W : World} {va vb : Value} {so dd : Obj} {b1 b2 : Bool} (h : LgN w va vb so dd b1 b2 W) : LgN w va vb so dd b1 b2 (yR w.heap.size 0 [va,vb] W) :=
 ⟨uS h.d rfl,yQ (by omega) _ 0 W h.o1,yQ (by omega) _ 0 W h.o2,zZ (by omega) _ 0 W h.bel⟩
structure J7 (w0 : World) (so : Obj) (L : Nat → Bool) (α : Nat → Nat) (W : World) : Prop where
 b : Below w0.heap.size w0 W
 n : L 7 = true → w0.heap.size ≤ α 7 ∧ W.heap[α 7]? = some (if L 8 = true then so else kC)
theorem xXw (va vb : Value) (d : Dk) (u pw xD priv : ByteArray) (w : World) (h : RdD w w.heap.size va vb d) (hu : u.size ≤ 1000) (hpw : pw.size ≤ 1000000) (hn : xD.size = 12) (ha : xCh d u = 0) (hau : (xBu d u).user.size ≤ 1000) (hk : xS7 (xBu d u) pw = 0) (hkl : xWg (xBu d u) pw = [priv]) (hps : priv.size ≤ 1000000) (ho : xR2 d u priv = 0) (hq : tK d [113] u.data.toList = []) (hT : vT w) :
  Calls Tryz.prog 10 #[.agg #[va,vb],.string u,.string pw,.string xD] w fun e w' => ∃ bv sv,e = .returned (.tuple #[sesV u priv ⟨#[]⟩ (xBu d u).epoch bv sv (xJd d u priv).given,.agg #[va,vb],.int .i64 0]) ∧ wR w.heap.size w' bv sv (xJd d u priv) ∧ Below w.heap.size w w' := by
 obtain ⟨A1,c1,A2,c2,rfl,rfl⟩ := yH h
 have H0 := hI' (fun so => xOz w (.slice A1 d.secs.length c1) (.slice A2 d.cache.length c2) so (yD (.slice A1 d.secs.length c1) (.slice A2 d.cache.length c2)))
 have HAC := hI' (fun W (hb : Below w.heap.size w W) => xAh (.slice A1 d.secs.length c1) (.slice A2 d.cache.length c2) d u W ((h.below hb (Nat.le_refl _)).more hb.size) (by omega))
 have HUL := hI' (fun W (hb : Below w.heap.size w W) => xQh (xBu d u) pw W hau hpw (hT.below hb (Nat.le_refl _)))
 have HOP := hI' (fun W (hb : Below w.heap.size w W) => xQz (.slice A1 d.secs.length c1) (.slice A2 d.cache.length c2) d u priv W ((h.below hb (Nat.le_refl _)).more hb.size) (by omega) hps (hT.below hb (Nat.le_refl _)))
 have HMG := hI' (fun W (hb : Below w.heap.size w W) (ep gv : Int) (A3 A4 : Option Addr) (n3 k3 n4 k4 : Nat) => xR7 (.slice A1 d.secs.length c1) (.slice A2 d.cache.length c2) d u priv ⟨#[]⟩ xD ep gv A3 A4 n3 k3 n4 k4 W ((h.below hb (Nat.le_refl _)).more hb.size) (by omega) hq)
 rw [ha] at HAC
 rw [hk,hkl] at HUL
 rw [ho] at HOP
 rw [show [priv].map (fun b : ByteArray => b.data.toList) = [priv.data.toList] from rfl] at HUL
 have hn1 : ((xD.size : Int) == 12) = true := by simp; omega
 have hn2 : ((xD.size : Int) != 12) = false := by simp; omega
 generalize xJd d u priv = oi at HOP ⊢
 clear h hau ha hk hkl ho hq hu hpw hps hT
 generalize xBu d u = ar at HAC HUL ⊢
 obtain ⟨tu,ts,tr,te,tp,tn,tw,to_⟩ := ar
 simp only [pF] at HAC HUL ⊢
 go_enter Tryz.func10,Tryz.ntmps10
 go_upto_region 3 with fail
 obtain ⟨w1,hw1⟩ : ∃ w1,((w.alloc (yD (.slice A1 d.secs.length c1) (.slice A2 d.cache.length c2))).alloc kC).alloc xIc = w1 := ⟨_,rfl⟩
 rw [hw1] at H0
 simp only [xH9,kC,xIc] at hw1
 rw [hw1]
 clear hw1
 have hb := (H0.out kC).d
 obtain ⟨e0,e1⟩ := uG hb
 clear hb
 go_wp2_with fail
 refine (HAC.out _ (H0.out kC).bel).mono ?_
 rintro e w2 ⟨rfl,hb2⟩
 have H2 := hI' (fun so => (H0.out so).below hb2)
 clear H0 HAC hb2 e0 e1
 go_upto_region 6 with fail
 have H3 : Hid ((∀ so,LgN w (.slice A1 d.secs.length c1) (.slice A2 d.cache.length c2) so (yD (.slice A1 d.secs.length c1) (.slice A2 d.cache.length c2)) false false (w2.alloc (yI ⟨tu,ts,tr,te,tp,tn,tw,to_⟩))) ∧ (w2.alloc (yI ⟨tu,ts,tr,te,tp,tn,tw,to_⟩)).heap[w2.heap.size]? = some (yI ⟨tu,ts,tr,te,tp,tn,tw,to_⟩)) := hI' ⟨fun so => (H2.out so).below ((Below.refl _ _).alloc (Nat.le_refl _) _),xM _ _⟩
 obtain ⟨w3,hw3⟩ : ∃ w3,w2.alloc (yI ⟨tu,ts,tr,te,tp,tn,tw,to_⟩) = w3 := ⟨_,rfl⟩
 rw [hw3] at H3
 simp only [yI] at hw3 H3
 rw [hw3]
 clear hw3 H2
 generalize w2.heap.size = g2 at H3 ⊢
 have hb := H3.out.2
 obtain ⟨a0,a1,a2,a3,a4,a5,a6,a7⟩ := xRx hb
 clear hb
 go_wp2_with fail
 refine (HUL.out _ (H3.out.1 kC).bel).mono ?_
 rintro e w4 ⟨v,rfl,hv,hb4⟩
 have H4 := hI' (And.intro (fun so => (H3.out.1 so).below hb4) (xE H3.out.2 hb4 (xI H3.out.2)))
 clear H3 HUL hb4 a0 a1 a2 a3 a4 a5 a6 a7
 obtain ⟨A3,k3,rfl,hk3,hv3⟩ := hv
 obtain ⟨b3,f3,rfl,hb3,hv3⟩ := hv3 (by simp)
 have HV := hI' (And.intro hb3 (hv3 0 _ rfl))
 have hk3' : 1 ≤ k3 := hk3
 clear hv3 hb3 hk3
 go_upto_region 9 with fail
 rw [show xU priv.data.toList = .string priv from rfl,Nat.add_zero] at HV
 have H5 : Hid (∀ w5,Below w4.heap.size w4 w5 → (∀ so,LgN w (.slice A1 d.secs.length c1) (.slice A2 d.cache.length c2) so (yD (.slice A1 d.secs.length c1) (.slice A2 d.cache.length c2)) false false w5)) := hI' (fun w5 hb so => (H4.out.1 so).below hb)
 refine RG.zD [8] [7] (fun L α W => Hid (J7 w4 (xH9 u priv ⟨#[]⟩ te (.slice none 0 0) (.slice none 0 0) 0) L α W)) (fun L L' α α' W hl ha h => hI' ⟨h.out.b,fun e => by
  have l7 := hl 7 (by simp)
  have l8 := hl 8 (by simp)
  rw [← ha 7 (by simp) (l7.trans e),← l8]; exact h.out.n (l7.trans e)⟩) (by kernel_rfl) (by kernel_rfl) (by kernel_rfl) (hI' ⟨(Below.refl _ _).drew,fun e => (by cases e)⟩) ?_
 iterate 3
  apply RG.xL
  ·rfl
  ·rfl
  ·intro α L w9 h0 hcl xH hw9
   repeat go_step
   with_reducible exact RG.xB hw9
  ·intro α; rfl
 apply RG.xL
 ·rfl
 ·rfl
 ·intro α L w9 h0 hcl xH hw9
  have c0 := (hw9.out.b.cell (p := ⟨b3,f3,none⟩) HV.out.1).trans HV.out.2
  repeat go_step
  with_reducible exact RG.xB hw9
 ·intro α; rfl
 apply RG.xL
 ·rfl
 ·rfl
 ·intro α L w9 h0 hcl xH hw9
  repeat go_step
  with_reducible exact RG.xB hw9
 ·intro α; rfl
 apply RG.xL
 ·rfl
 ·rfl
 ·intro α L w9 h0 hcl xH hw9
  have hb := xE H4.out.2 hw9.out.b (xI H4.out.2)
  have a3 := xA hb 3
  simp only [gA,gB,gC] at a3
  repeat go_step
  with_reducible exact RG.xB hw9
 ·intro α; rfl
 apply RG.xL
 ·rfl
 ·rfl
 ·intro α L w9 h0 hcl xH hw9
  repeat go_step
  with_reducible exact RG.xB hw9
 ·intro α; rfl
 apply RG.vW
 ·rfl
 ·intro α L w9 b hb h0 hcl hw9
  have e8 := hcl.not 9 (i := 8) h0 (by kernel_rfl)
  repeat go_step
  rw [← hb]
  with_reducible refine RG.xB ?_
  refine hI' ⟨hw9.out.b.alloc hw9.out.b.size _,fun _ => ?_⟩
  rw [RG.xAx,if_neg (by simp [e8]),hb]
  exact ⟨hw9.out.b.size,xM _ _⟩
 ·intro b α; rfl
 apply RG.uZ (v := undef)
 ·rfl
 ·rfl
 ·intro α L w9 h0 hcl xH hw9
  have h7 : L 7 = true := by simpa using xH.yes 9 (i := 8) (j := 7) (by simp) (by kernel_rfl)
  obtain ⟨hle,hx⟩ := hw9.out.n h7
  rw [h0,if_neg (by simp)] at hx
  obtain ⟨o0,y0,f0,o1,y1,f1,o2,y2,f2,o3,y3,f3,o4,y4,f4,o5,y5,f5,o6,y6,f6,HB⟩ := cpl7 hx hw9.out.b (by omega) (.string u) (.string priv) (.string ⟨#[]⟩) (.int .i64 te) (.slice none 0 0) (.slice none 0 0) (.int .i64 0) _ rfl
  have hx2 := uS (b := α 7) (l := [.string u,.string priv,.string ⟨#[]⟩,.int .i64 te,.slice none 0 0,.slice none 0 0,.int .i64 0]) hx rfl
  simp only [yR,Nat.reduceAdd] at hx2
  have HX := hI' hx2
  clear hx hx2
  repeat go_step
  with_reducible refine RG.xB ?_
  exact hI' ⟨HB.out,fun _ => ⟨hle,by rw [if_pos (by simp)]; exact HX.out⟩⟩
 ·intro α; rfl
 refine RG.wT (fun α w5 hw5 => ?_)
 obtain ⟨hle,hx⟩ := hw5.out.n rfl
 rw [if_pos rfl] at hx
 simp only [Nat.zero_add,Nat.reduceAdd]
 generalize α 7 = g at hle hx ⊢
 have H6 := hI' (And.intro (H5.out w5 hw5.out.b) (And.intro hx (show w.heap.size + 3 ≤ g from Nat.le_trans (by have := xI (H4.out.1 kC).o2; omega) hle)))
 clear hw5 hx hle H5 H4 HV hk3'
 go_upto_region 12 with fail
 have hb := (H6.out.1 kC).d
 have hs := H6.out.2.1
 obtain ⟨e0,e1⟩ := uG hb
 obtain ⟨s0,s1,s2,s3,s4,s5,s6⟩ := xPx hs
 clear hb hs
 go_wp2_with fail
 refine (HOP.out _ (H6.out.1 kC).bel).mono ?_
 rintro e w6 ⟨bv,sv,rfl,ho,hb6⟩
 obtain ⟨A7,n7,k7,A8,n8,k8,rfl,rfl⟩ := ho.form
 have H7 := hI' (And.intro (fun so => (H6.out.1 so).below hb6) (And.intro (xE H6.out.2.1 hb6 (xI H6.out.2.1)) H6.out.2.2))
 have HO := hI' (ho.less (H6.out.1 kC).bel.size)
 clear hb6 ho HOP H6 e0 e1 s0 s1 s2 s3 s4 s5 s6
 have H8 : Hid ((∀ so,LgN w (.slice A1 d.secs.length c1) (.slice A2 d.cache.length c2) so (yD (.slice A1 d.secs.length c1) (.slice A2 d.cache.length c2)) false false (yR g 4 [.slice A7 n7 k7,.slice A8 n8 k8,.int .i64 oi.given] w6)) ∧ (yR g 4 [.slice A7 n7 k7,.slice A8 n8 k8,.int .i64 oi.given] w6).heap[g]? = some (xH9 u priv ⟨#[]⟩ te (.slice A7 n7 k7) (.slice A8 n8 k8) oi.given) ∧ w.heap.size + 3 ≤ g ∧ wR w.heap.size (yR g 4 [.slice A7 n7 k7,.slice A8 n8 k8,.int .i64 oi.given] w6) (.slice A7 n7 k7) (.slice A8 n8 k8) oi) := hI' ⟨fun so => (H7.out.1 so).far H7.out.2.2 _ _,by
  have e := yB (yB (yB H7.out.2.1 4 (.slice A7 n7 k7)) 5 (.slice A8 n8 k8)) 6 (.int .i64 oi.given)
  simpa [yR] using e,H7.out.2.2,HO.out.set H7.out.2.1 (by decide) (by decide) (by decide) _ 4⟩
 have hs := H7.out.2.1
 have o4 := xA hs 4
 have o5 := xA hs 5
 have o6 := xA hs 6
 have y4 := xK hs 4
 have y5 := xK hs 5
 have y6 := xK hs 6
 simp only [gA,gB,gC] at o4 o5 o6
 clear hs H7 HO
 go_upto_region 15 with fail
 obtain ⟨w7,hw7⟩ : ∃ w7,yR g 4 [.slice A7 n7 k7,.slice A8 n8 k8,.int .i64 oi.given] w6 = w7 := ⟨_,rfl⟩
 rw [hw7] at H8
 simp only [yR,Nat.reduceAdd] at hw7
 rw [hw7]
 clear hw7 o4 o5 o6 y4 y5 y6
 have hb := (H8.out.1 kC).d
 have hs := H8.out.2.1
 obtain ⟨e0,e1⟩ := uG hb
 obtain ⟨s0,s1,s2,s3,s4,s5,s6⟩ := xPx hs
 clear hb hs
 go_wp2_with fail
 refine (HMG.out _ (H8.out.1 kC).bel _ _ _ _ _ _ _ _).mono ?_
 rintro e w8 ⟨rfl,hb8⟩
 have H9 := hI' (And.intro (fun so => (H8.out.1 so).below hb8) (And.intro (xE H8.out.2.1 hb8 (xI H8.out.2.1)) (And.intro H8.out.2.2.1 (H8.out.2.2.2.below hb8))))
 clear hb8 HMG H8 e0 e1 s0 s1 s2 s3 s4 s5 s6
 have H10 : Hid (LgN w (.slice A1 d.secs.length c1) (.slice A2 d.cache.length c2) (xH9 u priv ⟨#[]⟩ te (.slice A7 n7 k7) (.slice A8 n8 k8) oi.given) (yD (.slice A1 d.secs.length c1) (.slice A2 d.cache.length c2)) false false (yR w.heap.size 0 [.slice A1 d.secs.length c1,.slice A2 d.cache.length c2] (yR g 0 [.string u,.string priv,.string ⟨#[]⟩,.int .i64 te,.slice A7 n7 k7,.slice A8 n8 k8,.int .i64 oi.given] w8)) ∧ (yR w.heap.size 0 [.slice A1 d.secs.length c1,.slice A2 d.cache.length c2] (yR g 0 [.string u,.string priv,.string ⟨#[]⟩,.int .i64 te,.slice A7 n7 k7,.slice A8 n8 k8,.int .i64 oi.given] w8)).heap[g]? = some (xH9 u priv ⟨#[]⟩ te (.slice A7 n7 k7) (.slice A8 n8 k8) oi.given) ∧ w.heap.size + 3 ≤ g ∧ wR w.heap.size (yR w.heap.size 0 [.slice A1 d.secs.length c1,.slice A2 d.cache.length c2] (yR g 0 [.string u,.string priv,.string ⟨#[]⟩,.int .i64 te,.slice A7 n7 k7,.slice A8 n8 k8,.int .i64 oi.given] w8)) (.slice A7 n7 k7) (.slice A8 n8 k8) oi) := hI' ⟨((H9.out.1 _).far H9.out.2.2.1 _ _).same,by
  refine yQ (by have := H9.out.2.2.1; omega) _ 0 _ ?_
  exact uS H9.out.2.1 rfl,H9.out.2.2.1,(H9.out.2.2.2.set H9.out.2.1 (by decide) (by decide) (by decide) _ 0).set ((H9.out.1 kC).far H9.out.2.2.1 _ _).d (by decide) (by decide) (by decide) _ 0⟩
 have hs := H9.out.2.1
 have hd := (H9.out.1 kC).d
 have o0 := xA hs 0
 have o1 := xA hs 1
 have o2 := xA hs 2
 have o3 := xA hs 3
 have o4 := xA hs 4
 have o5 := xA hs 5
 have o6 := xA hs 6
 have q0 := xA hd 0
 have q1 := xA hd 1
 have y0 := xK hs 0
 have y1 := xK hs 1
 have y2 := xK hs 2
 have y3 := xK hs 3
 have y4 := xK hs 4
 have y5 := xK hs 5
 have y6 := xK hs 6
 have z0 := xK hd 0
 have z1 := xK hd 1
 simp only [gA,gB,gC] at o0 o1 o2 o3 o4 o5 o6 q0 q1
 have hne : ¬ (w.heap.size = g) := by have := H9.out.2.2.1; omega
 have hne2 : ¬ (g = w.heap.size) := by omega
 clear hs hd H9
 go_upto_region 16 with fail
 obtain ⟨w9,hw9⟩ : ∃ w9,yR w.heap.size 0 [.slice A1 d.secs.length c1,.slice A2 d.cache.length c2] (yR g 0 [.string u,.string priv,.string ⟨#[]⟩,.int .i64 te,.slice A7 n7 k7,.slice A8 n8 k8,.int .i64 oi.given] w8) = w9 := ⟨_,rfl⟩
 rw [hw9] at H10
 simp only [yR,Nat.reduceAdd] at hw9
 rw [hw9]
 clear hw9 o0 o1 o2 o3 o4 o5 o6 y0 y1 y2 y3 y4 y5 y6 q0 q1 z0 z1 hne hne2
 refine RG.vE [2,3] (fun L W => Hid (LgN w (.slice A1 d.secs.length c1) (.slice A2 d.cache.length c2) (xH9 u priv ⟨#[]⟩ te (.slice A7 n7 k7) (.slice A8 n8 k8) oi.given) (yD (.slice A1 d.secs.length c1) (.slice A2 d.cache.length c2)) (L 2) (L 3) W ∧ W.heap[g]? = some (xH9 u priv ⟨#[]⟩ te (.slice A7 n7 k7) (.slice A8 n8 k8) oi.given) ∧ wR w.heap.size W (.slice A7 n7 k7) (.slice A8 n8 k8) oi)) (fun L L' W hl h => by rw [← hl 2 (by simp),← hl 3 (by simp)]; exact h) (by kernel_rfl) (by kernel_rfl) (by kernel_rfl) (hI' ⟨H10.out.1.drew,H10.out.2.1,H10.out.2.2.2.below (Below.refl _ _).drew⟩) ?_
 apply RG.zL
 ·rfl
 ·intro L w9 hw9
  have hb := hw9.out.2.1
  obtain ⟨s0,s1,s2,s3,s4,s5,s6⟩ := xPx hb
  repeat go_step
  with_reducible exact RG.xB hw9
 ·rfl
 apply RG.zL
 ·rfl
 ·intro L w9 hw9
  have hd := hw9.out.1.d
  obtain ⟨s0,s1⟩ := uG hd
  repeat go_step
  with_reducible exact RG.xB hw9
 ·rfl
 apply RG.uJ
 ·rfl
 ·intro L w9 h0 _ hw9
  obtain ⟨h9,h10,h11⟩ := hw9.out
  rw [h0] at h9
  have hx := h9.o1
  rw [if_neg (by simp)] at hx
  have hgg := H10.out.2.2.1
  have HP := hI' (And.intro (LgN.xHb h9 (l := [.string u,.string priv,.string ⟨#[]⟩,.int .i64 te,.slice A7 n7 k7,.slice A8 n8 k8,.int .i64 oi.given]) rfl rfl) (And.intro (yQ (b := w.heap.size + 1) (g := g) (by omega) [.string u,.string priv,.string ⟨#[]⟩,.int .i64 te,.slice A7 n7 k7,.slice A8 n8 k8,.int .i64 oi.given] 0 w9 h10) (h11.set hx (by decide) (by decide) (by decide) [.string u,.string priv,.string ⟨#[]⟩,.int .i64 te,.slice A7 n7 k7,.slice A8 n8 k8,.int .i64 oi.given] 0)))
  simp only [yR,Nat.reduceAdd] at HP
  obtain ⟨o0,y0,f0,o1,y1,f1,o2,y2,f2,o3,y3,f3,o4,y4,f4,o5,y5,f5,o6,y6,f6,HB⟩ := cpl7 hx h9.bel (by omega) (.string u) (.string priv) (.string ⟨#[]⟩) (.int .i64 te) (.slice A7 n7 k7) (.slice A8 n8 k8) (.int .i64 oi.given) _ rfl
  clear hx h9 hw9 h10 h11
  repeat go_step
  with_reducible refine RG.xB ?_
  exact HP
 ·rfl
 apply RG.uJ
 ·rfl
 ·intro L w9 h0 _ hw9
  obtain ⟨h9,h10,h11⟩ := hw9.out
  rw [h0] at h9
  have hx := h9.o2
  rw [if_neg (by simp)] at hx
  have hgg := H10.out.2.2.1
  have HP := hI' (And.intro (LgN.put2 h9 (l := [.slice A1 d.secs.length c1,.slice A2 d.cache.length c2]) rfl rfl) (And.intro (yQ (b := w.heap.size + 2) (g := g) (by omega) [.slice A1 d.secs.length c1,.slice A2 d.cache.length c2] 0 w9 h10) (h11.set hx (by decide) (by decide) (by decide) [.slice A1 d.secs.length c1,.slice A2 d.cache.length c2] 0)))
  simp only [yR,Nat.reduceAdd] at HP
  obtain ⟨o0,y0,f0,o1,y1,f1,HB⟩ := xNv hx h9.bel (by omega) (.slice A1 d.secs.length c1) (.slice A2 d.cache.length c2) _ rfl
  clear hx h9 hw9 h10 h11
  repeat go_step
  with_reducible refine RG.xB ?_
  exact HP
 ·rfl
 apply RG.zL
 ·rfl
 ·intro L w9 hw9
  repeat go_step
  with_reducible exact RG.xB hw9
 ·rfl
 refine RG.yP (fun w10 xV1 => ?_)
 have HP := hI' xV1.out.1
 have HO := hI' xV1.out.2.2
 clear xV1 H10
 have h1 := HP.out.o1
 have h2 := HP.out.o2
 rw [if_pos rfl] at h1 h2
 obtain ⟨f0,f1,f2,f3,f4,f5,f6⟩ := xPx h1
 obtain ⟨g0,g1⟩ := uG h2
 have HB := hI' HP.out.bel
 clear h1 h2 HP
 go_wp2
 refine bodyPost_ret (v := .tuple #[sesV u priv ⟨#[]⟩ te (.slice A7 n7 k7) (.slice A8 n8 k8) oi.given,.agg #[.slice A1 d.secs.length c1,.slice A2 d.cache.length c2],.int .i64 0]) (by simp [results,Tryz.results10,go_sem,f0,f1,f2,f3,f4,f5,f6,g0,g1]) rfl ?_
 exact ⟨_,_,rfl,HO.out,HB.out⟩
end Go.Proofs.VA

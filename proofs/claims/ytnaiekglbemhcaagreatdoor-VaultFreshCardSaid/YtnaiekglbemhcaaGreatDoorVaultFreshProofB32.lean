/- Contracts of functions of the program. Conditions: those that each theorem states. -/
import Derived.Test.YtnaiekglbemhcaaGreatDoorVaultFreshProofB31
import Derived.Test.YtnaiekglbemhcaaGreatDoorVaultFreshProofB11
import Derived.Test.YtnaiekglbemhcaaGreatDoorVaultFreshProofB07
import Derived.Test.YtnaiekglbemhcaaGreatDoorVaultFreshProofB26
set_option maxHeartbeats 8000000
set_option maxRecDepth 100000
namespace Mailsack
structure LdS where
 x2 : List Int
 z2 : List Int
 x3 : List Int
 z3 : List Int
 sw : Bool
structure LdOk (s : LdS) : Prop where
 l1 : s.x2.length = 5
 u1 : yV s.x2
 l2 : s.z2.length = 5
 u2 : yV s.z2
 l3 : s.x3.length = 5
 u3 : yV s.x3
 l4 : s.z3.length = 5
 u4 : yV s.z3
def bitL (k : ByteArray) (t : Nat) : Bool := Go.bits .and .u8 (yZ k (t / 8) / 2 ^ (t % 8)) 1 == 1
def kV (s : LdS) (bit : Bool) : LdS := ⟨if s.sw != bit then s.x3 else s.x2,if s.sw != bit then s.z3 else s.z2,if s.sw != bit then s.x2 else s.x3,if s.sw != bit then s.z2 else s.z3,bit⟩
def xUj (u : List Int) (s : LdS) : LdS := ⟨stX2 s.x2 s.z2,stZ2 s.x2 s.z2,stX3 s.x2 s.z2 s.x3 s.z3,stZ3 u s.x2 s.z2 s.x3 s.z3,s.sw⟩
def ldI (k : ByteArray) (u : List Int) : Nat → LdS
 | 0 => ⟨[1,0,0,0,0],List.replicate 5 0,u,[1,0,0,0,0],false⟩
 | n + 1 => xUj u (kV (ldI k u n) (bitL k (254 - n)))
theorem xUh {s : LdS} (h : LdOk s) (b : Bool) : LdOk (kV s b) := by
 obtain ⟨h1,h2,h3,h4,h5,h6,h7,h8⟩ := h
 unfold kV
 cases hq : (s.sw != b)
 ·exact ⟨h1,h2,h3,h4,h5,h6,h7,h8⟩
 ·exact ⟨h5,h6,h7,h8,h1,h2,h3,h4⟩
theorem xUi (u : List Int) (s : LdS) : LdOk (xUj u s) := ⟨vK _ _,tY _ _,vK _ _,tY _ _,vK _ _,tY _ _,vK _ _,tY _ _⟩
theorem one_u : yV [1,0,0,0,0] := xDn ⟨by decide,by decide⟩ ⟨by decide,by decide⟩ ⟨by decide,by decide⟩ ⟨by decide,by decide⟩ ⟨by decide,by decide⟩
theorem ldI_ok (k : ByteArray) {u : List Int} (h : u.length = 5) (hu : yV u) : ∀ n,LdOk (ldI k u n)
 | 0 => ⟨rfl,one_u,by simp [ldI],xC4 5,h,hu,rfl,one_u⟩
 | _ + 1 => xUi _ _
def yB4 (s : LdS) : ByteArray := xCf (uX (if s.sw then s.x3 else s.x2) (xHi (if s.sw then s.z3 else s.z2)))
def xKw (k u : ByteArray) : ByteArray := yB4 (ldI (xDh k) (xZs u) 255)
theorem xC8 (k u : ByteArray) : (xKw k u).size = 32 := xLf _
def zX (k : ByteArray) : ByteArray := xKw k xLu
end Mailsack
namespace Go.Proofs.FE
open Go.RowKit Mailsack MM BB SH
structure PtM (w : World) (g : Nat) (u p q : List Int) (W : World) : Prop where
 bu : uY 210 W g u
 bp : uY 214 W (g + 1) p
 bq : uY 214 W (g + 1 + 1) q
 bel : Below w.heap.size w W
 ge : w.heap.size ≤ g
section
variable {w W W' : World} {g : Nat} {u p q : List Int}
theorem PtM.below (h : PtM w g u p q W) (hb : Below W.heap.size W W') : PtM w g u p q W' := ⟨h.bu.below hb,h.bp.below hb,h.bq.below hb,h.bel.trans (hb.mono h.bel.size),h.ge⟩
theorem PtM.drew (h : PtM w g u p q W) : PtM w g u p q W.drew := ⟨h.bu,h.bp,h.bq,h.bel.drew,h.ge⟩
theorem PtM.rowP (h : PtM w g u p q W) (xs : List Int) : PtM w g u xs q (W.setRow (g + 1) (xG xs)) := by
 have hg := h.ge
 exact ⟨(setRow_other _ _ _ _ (by omega)).trans h.bu,setRow_heap _ _ _ _ _ _ h.bp,(setRow_other _ _ _ _ (by omega)).trans h.bq,below_setRow h.bel (by omega) _,hg⟩
theorem PtM.rowQ (h : PtM w g u p q W) (xs : List Int) : PtM w g u p xs (W.setRow (g + 1 + 1) (xG xs)) := by
 have hg := h.ge
 exact ⟨(setRow_other _ _ _ _ (by omega)).trans h.bu,(setRow_other _ _ _ _ (by omega)).trans h.bp,setRow_heap _ _ _ _ _ _ h.bq,below_setRow h.bel (by omega) _,hg⟩
end
theorem xTx (k u : ByteArray) (w : World) (hk : k.size = 32) (hu : u.size = 32) :
  Calls Tryz.prog 90 #[.string k,.string u] w fun e w' => e = .returned (.tuple #[.string (xKw k u),.bool true]) ∧ Below w.heap.size w w' := by
 have HC := hI' (xGt k w hk)
 have HO := hI' (fun W => of_any u W hu)
 have HKZ : Hid ((xDh k).size = 32) := hI' ((xNy k).trans hk)
 have hsl := xYi u
 have hsu := feOf_u u
 have HP : Hid (∀ n,n = 255 → xKw k u = yB4 (ldI (xDh k) (xZs u) n)) := hI' (fun n hn => by rw [hn]; rfl)
 generalize xKw k u = res at HP ⊢
 generalize xZs u = su at HO hsl hsu HP
 generalize xDh k = ck at HC HKZ HP
 have HOK := hI' (fun n => ldI_ok ck hsl hsu n)
 have Iu := zV su hsl
 have Zu := vG su hsl
 have HLU := hI' hsl
 have HUU := hI' hsu
 have BQ : Hid (Tryz.prog.built 214 [(0,.agg (xG su)),(1,.agg #[.int .u64 1,.int .u64 0,.int .u64 0,.int .u64 0,.int .u64 0])] = some (xG (su ++ [1,0,0,0,0]))) := hI' (xEm hsl (z := [1,0,0,0,0]) rfl)
 clear hk hu hsl hsu
 go_enter Tryz.func90,Tryz.ntmps90
 go_wp2_with fail
 refine HC.out.mono ?_
 rintro e w1 ⟨rfl,hb1⟩
 go_wp2_with fail
 refine (HO.out _).mono ?_
 rintro e w2 ⟨rfl,hb2⟩
 have HB := hI' (hb1.trans (hb2.mono hb1.size))
 clear hb1 hb2 HC HO
 have h1 := setRow_heap _ w2.heap.size _ (xG su) _ _ (xM w2 (.cells (xG (List.replicate 5 0)) 210))
 have hz1 : ((w2.alloc (.cells (xG (List.replicate 5 0)) 210)).setRow w2.heap.size (xG su)).heap.size = w2.heap.size + 1 := by rw [setRow_size,vD]
 have hb1 : Below w.heap.size w ((w2.alloc (.cells (xG (List.replicate 5 0)) 210)).setRow w2.heap.size (xG su)) := below_setRow (HB.out.alloc HB.out.size _) HB.out.size _
 have h2 := xM ((w2.alloc (.cells (xG (List.replicate 5 0)) 210)).setRow w2.heap.size (xG su)) (.cells (xG ([1,0,0,0,0] ++ List.replicate 5 0)) 214)
 rw [hz1] at h2
 have H3 : Hid (uY 210 (((w2.alloc (.cells (xG (List.replicate 5 0)) 210)).setRow w2.heap.size (xG su)).alloc (.cells (xG ([1,0,0,0,0] ++ List.replicate 5 0)) 214)) w2.heap.size su ∧ uY 214 (((w2.alloc (.cells (xG (List.replicate 5 0)) 210)).setRow w2.heap.size (xG su)).alloc (.cells (xG ([1,0,0,0,0] ++ List.replicate 5 0)) 214)) (w2.heap.size + 1) ([1,0,0,0,0] ++ List.replicate 5 0) ∧ Below w.heap.size w (((w2.alloc (.cells (xG (List.replicate 5 0)) 210)).setRow w2.heap.size (xG su)).alloc (.cells (xG ([1,0,0,0,0] ++ List.replicate 5 0)) 214)) ∧ (((w2.alloc (.cells (xG (List.replicate 5 0)) 210)).setRow w2.heap.size (xG su)).alloc (.cells (xG ([1,0,0,0,0] ++ List.replicate 5 0)) 214)).heap.size = w2.heap.size + 1 + 1 ∧ w.heap.size ≤ w2.heap.size) := hI' ⟨xP h1 _,h2,hb1.alloc (by rw [hz1]; have := HB.out.size; omega) _,by rw [vD,hz1],HB.out.size⟩
 clear h1 hz1 hb1 h2 HB
 go_upto_region 8 with (refine wpList_store_row rfl _ _ _ rfl w2.heap.size (xG su) rfl rfl _ (xG (List.replicate 5 0)) (xM _ _) Iu.out Zu.out (xS _) ?_)
 refine (fun (h : ∀ W3,Hid (uY 210 W3 w2.heap.size su ∧ uY 214 W3 (w2.heap.size + 1) ([1,0,0,0,0] ++ List.replicate 5 0) ∧ Below w.heap.size w W3 ∧ W3.heap.size = w2.heap.size + 1 + 1 ∧ w.heap.size ≤ w2.heap.size) → Code.wp _ _ _ _ W3) => h _ H3) ?_
 clear H3
 generalize w2.heap.size = g
 intro W3 H3
 have HZ3 := hI' H3.out.2.2.2.1
 have h4 := xM W3 (.cells (xG (List.replicate 10 0)) 214)
 rw [HZ3.out] at h4
 have H4 : Hid (PtM w g su ([1,0,0,0,0] ++ List.replicate 5 0) (List.replicate 10 0) (W3.alloc (.cells (xG (List.replicate 10 0)) 214))) := hI' ⟨xP H3.out.1 _,xP H3.out.2.1 _,h4,H3.out.2.2.1.alloc H3.out.2.2.1.size _,H3.out.2.2.2.2⟩
 clear h4
 refine wp_region_lit ?_
 refine wpList_load_row rfl _ _ rfl g rfl _ (xG su) (0,0) _ H3.out.1 Tryz.underlying210 rfl Iu.out ?_
 iterate 3 go_step
 refine wpList_buildTo rfl _ _ rfl _ rfl (xG (su ++ [1,0,0,0,0])) (by rw [List.map_toArray]; exact BQ.out) ?_
 iterate 3 go_step
 rw [HZ3.out]
 refine wpList_store_row rfl _ _ _ rfl (g + 1 + 1) (xG (su ++ [1,0,0,0,0])) rfl rfl _ (xG (List.replicate 10 0)) H4.out.bq (infoP HLU.out rfl) (by rw [xV,xV,List.length_append,HLU.out]; rfl) (xS _) ?_
 have H5 := H4.out.rowQ (su ++ [1,0,0,0,0])
 refine (fun (h : ∀ W3,Hid (PtM w g su ((ldI ck su 0).x2 ++ (ldI ck su 0).z2) ((ldI ck su 0).x3 ++ (ldI ck su 0).z3) W3) → wpList _ _ _ _ _ W3) => h _ (hI' H5)) ?_
 clear H3 H4 H5 HZ3 BQ
 intro W5 H5
 have HS0 : Hid ((ldI ck su 0).sw = false) := hI' rfl
 go_wp2_with fail
 go_loopw [11,12] (fun sv tv W => ∃ n m : Nat,n + m = 255 ∧ tv = .int .i64 ((m : Int) - 1) ∧ sv = .bool (ldI ck su n).sw ∧ Hid (PtM w g su ((ldI ck su n).x2 ++ (ldI ck su n).z2) ((ldI ck su n).x3 ++ (ldI ck su n).z3) W)) (fun _ tv _ => (intOf tv + 1).toNat)
 case atStart => exact ⟨0,255,rfl,rfl,by rw [HS0.out],H5⟩
 case round =>
  clear H5
  obtain ⟨n,m,hnm,rfl,rfl,hr⟩ := hrel
  have hok := HOK.out n
  by_cases hlt : 0 < m
  ·obtain ⟨t,rfl⟩ : ∃ t,m = t + 1 := ⟨m - 1,by omega⟩
   have ht : (((t + 1 : Nat) : Int)) - 1 = (t : Int) := by omega
   rw [ht]
   have HN : Hid (ldI ck su (n + 1) = xUj su (kV (ldI ck su n) (bitL ck t))) := hI' (by rw [show t = 254 - n by omega]; rfl)
   have HBT : Hid (∀ q r,q = t / 8 → r = t % 8 → bitL ck t = (bits .and .u8 (yZ ck q / 2 ^ r) 1 == 1)) := hI' (fun q r hq hr => by rw [hq,hr]; rfl)
   obtain ⟨q,hq⟩ : ∃ q,q = t / 8 := ⟨_,rfl⟩
   obtain ⟨r,hrr⟩ : ∃ r,r = t % 8 := ⟨_,rfl⟩
   replace HBT := hI' (HBT.out q r hq hrr)
   have hq4 : q < 32 := by omega
   have hr8 : r < 8 := by omega
   have hiq : (t : Int) / 8 = (q : Int) := by omega
   have hir : (t : Int) % 8 = (r : Int) := by omega
   have ht0 : (0 : Int) ≤ (t : Int) := by omega
   have ht255 : (t : Int) ≤ 255 := by omega
   have ix := fun w => zU (P := Tryz.prog) Tryz.underlying9 ck (q : Int) q rfl (by rw [HKZ.out]; exact hq4) w
   obtain ⟨b0,b1⟩ := zG ck q
   generalize yZ ck q = c at ix b0 b1 HBT
   obtain ⟨bit,hbit⟩ : ∃ bit,bitL ck t = bit := ⟨_,rfl⟩
   rw [hbit] at HN HBT
   clear hbit
   obtain ⟨sn,hsn⟩ : ∃ s,ldI ck su (n + 1) = s := ⟨_,rfl⟩
   rw [hsn] at HN
   have HSN := hI' hsn
   clear hsn
   generalize ldI ck su n = s at hr hok HN ⊢
   have HNM := hI' hnm
   clear hq hrr ht hnm
   have hok2 := xUh hok bit
   have HSW : Hid (∀ W,Calls Tryz.prog 144 #[.agg (xG (s.x2 ++ s.z2)),.agg (xG (s.x3 ++ s.z3)),.bool (s.sw != bit)] W fun e w' => e = .returned (.tuple #[.agg (xG ((kV s bit).x2 ++ (kV s bit).z2)),.agg (xG ((kV s bit).x3 ++ (kV s bit).z3))]) ∧ Below W.heap.size W w') := hI' (fun W => by
    have h := xL6 s.x2 s.z2 s.x3 s.z3 (s.sw != bit) W hok.l1 hok.u1 hok.l2 hok.u2 hok.l3 hok.u3 hok.l4 hok.u4
    have e1 : (if (s.sw != bit) = true then s.x3 ++ s.z3 else s.x2 ++ s.z2) = (kV s bit).x2 ++ (kV s bit).z2 := by unfold kV; cases (s.sw != bit) <;> rfl
    have e2 : (if (s.sw != bit) = true then s.x2 ++ s.z2 else s.x3 ++ s.z3) = (kV s bit).x3 ++ (kV s bit).z3 := by unfold kV; cases (s.sw != bit) <;> rfl
    rw [e1,e2] at h
    exact h)
   have HSB : Hid (sn.sw = bit) := hI' (by rw [HN.out]; rfl)
   have I1 := xB2 s.x2 s.z2 hok.l1 hok.l2
   have I2 := xB2 s.x3 s.z3 hok.l3 hok.l4
   have hsn4 : sn.x2.length = 5 ∧ sn.z2.length = 5 ∧ sn.x3.length = 5 ∧ sn.z3.length = 5 := by rw [HN.out]; exact ⟨vK _ _,vK _ _,vK _ _,vK _ _⟩
   have HST : Hid (∀ W,Calls Tryz.prog 145 #[.agg (xG su),.agg (xG ((kV s bit).x2 ++ (kV s bit).z2)),.agg (xG ((kV s bit).x3 ++ (kV s bit).z3))] W fun e w' => e = .returned (.tuple #[.agg (xG (sn.x2 ++ sn.z2)),.agg (xG (sn.x3 ++ sn.z3))]) ∧ Below W.heap.size W w') := hI' (fun W => by
    rw [HN.out]
    exact xX4 su _ _ _ _ W HLU.out HUU.out hok2.l1 hok2.u1 hok2.l2 hok2.u2 hok2.l3 hok2.u3 hok2.l4 hok2.u4)
   obtain ⟨k1,k2,k3,k4⟩ := hsn4
   have I5 := xB2 sn.x2 sn.z2 k1 k2
   have I6 := xB2 sn.x3 sn.z3 k3 k4
   clear HN
   generalize kV s bit = s' at HSW HST hok2
   have I3 := xB2 s'.x2 s'.z2 hok2.l1 hok2.l2
   have I4 := xB2 s'.x3 s'.z3 hok2.l3 hok2.l4
   have Z1 : Hid ((xG (s.x2 ++ s.z2)).size = (xG (s'.x2 ++ s'.z2)).size) := hI' (by rw [xV,xV,List.length_append,List.length_append,hok.l1,hok.l2,hok2.l1,hok2.l2])
   have Z2 : Hid ((xG (s.x3 ++ s.z3)).size = (xG (s'.x3 ++ s'.z3)).size) := hI' (by rw [xV,xV,List.length_append,List.length_append,hok.l3,hok.l4,hok2.l3,hok2.l4])
   have Z3 : Hid ((xG (s'.x2 ++ s'.z2)).size = (xG (sn.x2 ++ sn.z2)).size) := hI' (by rw [xV,xV,List.length_append,List.length_append,k1,k2,hok2.l1,hok2.l2])
   have Z4 : Hid ((xG (s'.x3 ++ s'.z3)).size = (xG (sn.x3 ++ sn.z3)).size) := hI' (by rw [xV,xV,List.length_append,List.length_append,k3,k4,hok2.l3,hok2.l4])
   clear hok hok2 k1 k2 k3 k4
   generalize hp0 : s.x2 ++ s.z2 = p0 at hr HSW I1 Z1
   generalize hq0 : s.x3 ++ s.z3 = q0 at hr HSW I2 Z2
   generalize hp1 : s'.x2 ++ s'.z2 = p1 at HSW HST I3 Z1 Z3
   generalize hq1 : s'.x3 ++ s'.z3 = q1 at HSW HST I4 Z2 Z4
   generalize hp2 : sn.x2 ++ sn.z2 = p2 at HST I5 Z3
   generalize hq2 : sn.x3 ++ sn.z3 = q2 at HST I6 Z4
   have HPQ := hI' (And.intro hp2 hq2)
   clear hp0 hq0 hp1 hq1 hp2 hq2
   generalize s.sw = sw at HSW ⊢
   go_upto_region 14 with fail
   rw [← HBT.out]
   clear HBT ix b0 b1 hiq hir
   refine wp_region_lit ?_
   refine wpList_load_row rfl _ _ rfl (g + 1) rfl _ (xG p0) (0,0) _ hr.out.bp Tryz.underlying214 rfl I1.out ?_
   refine wpList_load_row rfl _ _ rfl (g + 1 + 1) rfl _ (xG q0) (0,0) _ hr.out.bq Tryz.underlying214 rfl I2.out ?_
   repeat go_step
   refine (HSW.out _).mono ?_
   rintro e w6 ⟨rfl,hb6⟩
   have H6 := hI' (hr.out.below hb6)
   clear hr hb6
   simp only []
   rename ∀ (a : Act) (w : World),wpList _ _ _ _ a w → _ => hk
   refine hk _ _ ?_
   clear hk
   iterate 9 go_step
   refine wpList_store_row rfl _ _ _ rfl (g + 1) (xG p1) rfl rfl _ _ H6.out.bp I3.out Z1.out (xS _) ?_
   have H7 := hI' (H6.out.rowP p1)
   refine wpList_store_row rfl _ _ _ rfl (g + 1 + 1) (xG q1) rfl rfl _ _ H7.out.bq I4.out Z2.out (xS _) ?_
   have H8 := hI' (H7.out.rowQ q1)
   go_upto_region 16 with fail
   refine (fun (h : ∀ W3,Hid (PtM w g su p1 q1 W3) → Code.wp _ _ _ _ W3) => h _ H8) ?_
   clear H6 H7 H8
   intro W8 H8
   refine wp_region_lit ?_
   refine wpList_load_row rfl _ _ rfl g rfl _ (xG su) (0,0) _ H8.out.bu Tryz.underlying210 rfl Iu.out ?_
   refine wpList_load_row rfl _ _ rfl (g + 1) rfl _ (xG p1) (0,0) _ H8.out.bp Tryz.underlying214 rfl I3.out ?_
   refine wpList_load_row rfl _ _ rfl (g + 1 + 1) rfl _ (xG q1) (0,0) _ H8.out.bq Tryz.underlying214 rfl I4.out ?_
   repeat go_step
   refine (HST.out _).mono ?_
   rintro e w6 ⟨rfl,hb6⟩
   have H9 := hI' (H8.out.below hb6)
   clear H8 hb6
   simp only []
   rename ∀ (a : Act) (w : World),wpList _ _ _ _ a w → _ => hk
   refine hk _ _ ?_
   clear hk
   iterate 9 go_step
   refine wpList_store_row rfl _ _ _ rfl (g + 1) (xG p2) rfl rfl _ _ H9.out.bp I5.out Z3.out (xS _) ?_
   have H10 := hI' (H9.out.rowP p2)
   refine wpList_store_row rfl _ _ _ rfl (g + 1 + 1) (xG q2) rfl rfl _ _ H10.out.bq I6.out Z4.out (xS _) ?_
   have H11 := hI' (H10.out.rowQ q2)
   refine (fun (h : ∀ W3,Hid (PtM w g su p2 q2 W3) → wpList _ _ _ _ _ W3) => h _ H11) ?_
   clear H9 H10 H11 HSW HST
   intro W11 H11
   go_wp2
   refine ⟨⟨n + 1,t,by have := HNM.out; omega,rfl,by rw [HSN.out,HSB.out],?_⟩,by simp [intOf]⟩
   rw [HSN.out,HPQ.out.1,HPQ.out.2]
   exact H11
  ·obtain rfl : m = 0 := by omega
   have hn : n = 255 := by omega
   have HE := hI' (HP.out n hn)
   have hm1 : ((0 : Nat) : Int) - 1 = -1 := by omega
   rw [hm1]
   generalize ldI ck su n = s at hr hok HE ⊢
   have HSW := hI' (fun W => xL6 s.x2 s.z2 s.x3 s.z3 s.sw W hok.l1 hok.u1 hok.l2 hok.u2 hok.l3 hok.u3 hok.l4 hok.u4)
   have HDE : Hid (yB4 s = xCf (uX (if s.sw then s.x3 else s.x2) (xHi (if s.sw then s.z3 else s.z2)))) := hI' rfl
   have e1 : (if s.sw = true then s.x3 ++ s.z3 else s.x2 ++ s.z2) = (if s.sw then s.x3 else s.x2) ++ (if s.sw then s.z3 else s.z2) := by cases s.sw <;> rfl
   rw [e1] at HSW
   have lx : (if s.sw then s.x3 else s.x2).length = 5 ∧ yV (if s.sw then s.x3 else s.x2) := by
    cases s.sw
    ·exact ⟨hok.l1,hok.u1⟩
    ·exact ⟨hok.l3,hok.u3⟩
   have lz : (if s.sw then s.z3 else s.z2).length = 5 ∧ yV (if s.sw then s.z3 else s.z2) := by
    cases s.sw
    ·exact ⟨hok.l2,hok.u2⟩
    ·exact ⟨hok.l4,hok.u4⟩
   have I1 := xB2 s.x2 s.z2 hok.l1 hok.l2
   have I2 := xB2 s.x3 s.z3 hok.l3 hok.l4
   have HZ0 : Hid ((xG (s.x2 ++ s.z2)).size = 10) := hI' (by rw [xV,List.length_append,hok.l1,hok.l2])
   generalize (if s.sw then s.x3 else s.x2) = x at HSW HDE lx
   generalize (if s.sw then s.z3 else s.z2) = z at HSW HDE lz
   have I3 := xB2 x z lx.1 lz.1
   have Z1 : Hid ((xG (s.x2 ++ s.z2)).size = (xG (x ++ z)).size) := hI' (by rw [HZ0.out,xV,List.length_append,lx.1,lz.1])
   have Ix := zV x lx.1
   have Iz := zV z lz.1
   have HLX := hI' lx.1
   have HIV := hI' (fun W => xRe z W lz.1 lz.2)
   have HMU := hI' (fun W => rT x (xHi z) W lx.1 lx.2 (xVp z) (yBv z))
   have HBY := hI' (fun W => xW5 (uX x (xHi z)) W (vK _ _) (tY _ _))
   rw [← HDE.out,← HE.out] at HBY
   generalize uX x (xHi z) = mv at HMU HBY
   generalize xHi z = iv at HIV HMU
   generalize (if s.sw = true then s.x2 ++ s.z2 else s.x3 ++ s.z3) = y0 at HSW
   generalize s.x2 ++ s.z2 = p0 at hr HSW I1 Z1
   generalize s.x3 ++ s.z3 = q0 at hr HSW I2
   clear HE HDE hok lx lz hn hnm hlt HP HOK e1 HZ0 hm1
   generalize s.sw = sw at HSW ⊢
   go_upto_region 17 with fail
   refine wp_region_lit ?_
   refine wpList_load_row rfl _ _ rfl (g + 1) rfl _ (xG p0) (0,0) _ hr.out.bp Tryz.underlying214 rfl I1.out ?_
   refine wpList_load_row rfl _ _ rfl (g + 1 + 1) rfl _ (xG q0) (0,0) _ hr.out.bq Tryz.underlying214 rfl I2.out ?_
   repeat go_step
   refine (HSW.out _).mono ?_
   rintro e w6 ⟨rfl,hb6⟩
   have H6 := hI' (hr.out.below hb6)
   clear hr hb6
   simp only []
   rename ∀ (a : Act) (w : World),wpList _ _ _ _ a w → _ => hk
   refine hk _ _ ?_
   clear hk
   iterate 9 go_step
   refine wpList_store_row rfl _ _ _ rfl (g + 1) (xG (x ++ z)) rfl rfl _ _ H6.out.bp I3.out Z1.out (xS _) ?_
   have H7 := hI' (H6.out.rowP (x ++ z))
   go_upto_region 18 with fail
   refine (fun (h : ∀ W3,Hid (PtM w g su (x ++ z) q0 W3) → Code.wp _ _ _ _ W3) => h _ H7) ?_
   clear H6 H7 HSW
   intro W7 H7
   refine RG.xR (fun W => Hid (PtM w g su (x ++ z) q0 W)) (by kernel_rfl) (by kernel_rfl) (hI' H7.out.drew) ?_
   clear H7
   apply RG.xC
   ·intro w9 hw9
    repeat go_step
    with_reducible exact RG.xB hw9
   ·rfl
   apply RG.xC
   ·intro w9 hw9
    refine zF rfl _ _ rfl (g + 1) 0 rfl (xG x) _ (xAc hw9.out.bp) Tryz.underlying210 rfl Ix.out ?_
    repeat go_step
    with_reducible exact RG.xB hw9
   ·rfl
   apply RG.xC
   ·intro w9 hw9
    repeat go_step
    with_reducible exact RG.xB hw9
   ·rfl
   apply RG.xC
   ·intro w9 hw9
    refine zF rfl _ _ rfl (g + 1) 5 rfl (xG z) _ (xAb hw9.out.bp HLX.out) Tryz.underlying210 rfl Iz.out ?_
    repeat go_step
    with_reducible exact RG.xB hw9
   ·rfl
   apply RG.xC
   ·intro w9 hw9
    repeat go_step
    refine (HIV.out _).mono ?_
    rintro e w10 ⟨rfl,yA⟩
    simp only []
    repeat go_step
    with_reducible refine RG.xB ?_
    exact hI' (hw9.out.below yA)
   ·rfl
   apply RG.xC
   ·intro w9 hw9
    repeat go_step
    refine (HMU.out _).mono ?_
    rintro e w10 ⟨rfl,yA⟩
    simp only []
    repeat go_step
    with_reducible refine RG.xB ?_
    exact hI' (hw9.out.below yA)
   ·rfl
   apply RG.xC
   ·intro w9 hw9
    repeat go_step
    refine (HBY.out _).mono ?_
    rintro e w10 ⟨rfl,yA⟩
    simp only []
    repeat go_step
    with_reducible refine RG.xB ?_
    exact hI' (hw9.out.below yA)
   ·rfl
   iterate 2
    apply RG.xC
    ·intro w9 hw9
     repeat go_step
     with_reducible exact RG.xB hw9
    ·rfl
   refine RG.xW (fun w9 hw9 => ?_)
   go_wp2
   go_ret2
   exact ⟨rfl,hw9.out.bel⟩
theorem xHx (k : ByteArray) (w : World) (hk : k.size = 32) :
  Calls Tryz.prog 64 #[.string k] w fun e w' => e = .returned (.tuple #[.string (zX k),.bool true]) ∧ Below w.heap.size w w' := by
 have HP : Hid (∀ W,Calls Tryz.prog 90 #[.string k,.string xLu] W fun e w' => e = .returned (.tuple #[.string (zX k),.bool true]) ∧ Below W.heap.size W w') := hI' (fun W => xTx k xLu W hk xS0)
 have HB := hI' (xYt w)
 generalize zX k = res at HP ⊢
 generalize xLu = bl at HP HB
 clear hk
 go_enter Tryz.func64,Tryz.ntmps64
 go_wp2_with fail
 refine HB.out.mono ?_
 rintro e w1 ⟨rfl,hb1⟩
 have H1 := hI' hb1
 go_wp2_with fail
 refine (HP.out _).mono ?_
 rintro e w2 ⟨rfl,hb2⟩
 have H2 := hI' (H1.out.trans (hb2.mono H1.out.size))
 clear hb1 hb2 H1
 go_wp2
 go_ret2
 exact ⟨rfl,H2.out⟩
end Go.Proofs.FE
namespace Mailsack
def rF (u pb : ByteArray) (ep : Int) (pw xO xD : ByteArray) (r : Nat) (k0 : ByteArray) : vR :=
 ⟨u,xO,r,ep,pb,xD,wL (xC9 pw xO r) xD (u ++ pb) k0,⟨#[]⟩⟩
end Mailsack
namespace Go.Proofs.SH
open Go.RowKit Mailsack MM BB SV
abbrev uO (xO xD priv : ByteArray) (r : Int) : Obj := .cells #[.string xO,.string xD,.string priv,.int .i64 r] 23
structure AcM (w : World) (u : ByteArray) (a1 a2 : Value) (ep : Int) (pb : ByteArray) (a5 a6 a7 : Value) (xO xD priv : ByteArray) (r : Int) (W : World) : Prop where
 a : W.heap[w.heap.size]? = some (.cells #[.string u,a1,a2,.int .i64 ep,.string pb,a5,a6,a7] 35 (0,0))
 f : W.heap[w.heap.size + 1]? = some (uO xO xD priv r)
 o : W.heap[w.heap.size + 1 + 1]? = some (yI zP)
 bel : Below w.heap.size w W
section
variable {w W W' : World} {u pb xO xD priv : ByteArray} {a1 a2 a5 a6 a7 : Value} {ep r : Int}
theorem AcM.below (h : AcM w u a1 a2 ep pb a5 a6 a7 xO xD priv r W) (hb : Below W.heap.size W W') : AcM w u a1 a2 ep pb a5 a6 a7 xO xD priv r W' :=
 ⟨xE h.a hb (xI h.a),xE h.f hb (xI h.f),xE h.o hb (xI h.o),h.bel.trans (hb.mono h.bel.size)⟩
theorem AcM.drew (h : AcM w u a1 a2 ep pb a5 a6 a7 xO xD priv r W) : AcM w u a1 a2 ep pb a5 a6 a7 xO xD priv r W.drew := ⟨h.a,h.f,h.o,h.bel.drew⟩
theorem AcM.set1 (h : AcM w u a1 a2 ep pb a5 a6 a7 xO xD priv r W) (v : Value) : AcM w u v a2 ep pb a5 a6 a7 xO xD priv r (W.setCell ⟨w.heap.size,1,none⟩ v) :=
 ⟨by have := yB h.a 1 v; simpa using this,xZ h.f (p := ⟨w.heap.size,1,none⟩) (by show w.heap.size + 1 ≠ w.heap.size; omega) _,xZ h.o (p := ⟨w.heap.size,1,none⟩) (by show w.heap.size + 1 + 1 ≠ w.heap.size; omega) _,h.bel.setCell (p := ⟨w.heap.size,1,none⟩) (Nat.le_refl _) _⟩
theorem AcM.set2 (h : AcM w u a1 a2 ep pb a5 a6 a7 xO xD priv r W) (v : Value) : AcM w u a1 v ep pb a5 a6 a7 xO xD priv r (W.setCell ⟨w.heap.size,2,none⟩ v) :=
 ⟨by have := yB h.a 2 v; simpa using this,xZ h.f (p := ⟨w.heap.size,2,none⟩) (by show w.heap.size + 1 ≠ w.heap.size; omega) _,xZ h.o (p := ⟨w.heap.size,2,none⟩) (by show w.heap.size + 1 + 1 ≠ w.heap.size; omega) _,h.bel.setCell (p := ⟨w.heap.size,2,none⟩) (Nat.le_refl _) _⟩
theorem AcM.set5 (h : AcM w u a1 a2 ep pb a5 a6 a7 xO xD priv r W) (v : Value) : AcM w u a1 a2 ep pb v a6 a7 xO xD priv r (W.setCell ⟨w.heap.size,5,none⟩ v) :=
 ⟨by have := yB h.a 5 v; simpa using this,xZ h.f (p := ⟨w.heap.size,5,none⟩) (by show w.heap.size + 1 ≠ w.heap.size; omega) _,xZ h.o (p := ⟨w.heap.size,5,none⟩) (by show w.heap.size + 1 + 1 ≠ w.heap.size; omega) _,h.bel.setCell (p := ⟨w.heap.size,5,none⟩) (Nat.le_refl _) _⟩
theorem AcM.set6 (h : AcM w u a1 a2 ep pb a5 a6 a7 xO xD priv r W) (v : Value) : AcM w u a1 a2 ep pb a5 v a7 xO xD priv r (W.setCell ⟨w.heap.size,6,none⟩ v) :=
 ⟨by have := yB h.a 6 v; simpa using this,xZ h.f (p := ⟨w.heap.size,6,none⟩) (by show w.heap.size + 1 ≠ w.heap.size; omega) _,xZ h.o (p := ⟨w.heap.size,6,none⟩) (by show w.heap.size + 1 + 1 ≠ w.heap.size; omega) _,h.bel.setCell (p := ⟨w.heap.size,6,none⟩) (Nat.le_refl _) _⟩
theorem AcM.set7 (h : AcM w u a1 a2 ep pb a5 a6 a7 xO xD priv r W) (v : Value) : AcM w u a1 a2 ep pb a5 a6 v xO xD priv r (W.setCell ⟨w.heap.size,7,none⟩ v) :=
 ⟨by have := yB h.a 7 v; simpa using this,xZ h.f (p := ⟨w.heap.size,7,none⟩) (by show w.heap.size + 1 ≠ w.heap.size; omega) _,xZ h.o (p := ⟨w.heap.size,7,none⟩) (by show w.heap.size + 1 + 1 ≠ w.heap.size; omega) _,h.bel.setCell (p := ⟨w.heap.size,7,none⟩) (Nat.le_refl _) _⟩
end
theorem one_at {w : World} {B : Nat} {v : Value} {x : List UInt8} {l : List (List UInt8)} (h : RdS w B v (x :: l)) : ∃ b off c,v = .slice (some ⟨b,off,none⟩) (l.length + 1) c ∧ b < B ∧ w.cell? ⟨b,off,none⟩ = some (xU x) := by
 obtain ⟨A,c,h1,h2,h3⟩ := h
 obtain ⟨b,off,rfl,h4,h5⟩ := h3 (by simp)
 exact ⟨b,off,c,h1,h4,h5 0 x rfl⟩
theorem wrap_one (u o1 : ByteArray) (o2 ep : Int) (pb o5 o6 o7 pw xO xD priv k0 : ByteArray) (r : Nat) (kv : Value) (w : World) (hr1 : 1 ≤ r) (hr2 : r ≤ 64) (hn : xD.size = 12) (hs : xO.size ≤ 1000) (hu : u.size ≤ 1000) (hpb : pb.size ≤ 1000) (hk0 : k0.size ≤ 1000) (hpw : pw.size ≤ 1000) (hT : vT w)
  (hk : RdS w w.heap.size kv [k0.data.toList]) :
  Calls Tryz.prog 65 #[.agg #[.string u,.string o1,.int .i64 o2,.int .i64 ep,.string pb,.string o5,.string o6,.string o7],.string pw,xB3 xO xD priv r,kv] w fun e w' =>
   e = .returned (.tuple #[pF (rF u pb ep pw xO xD r k0),.int .i64 0]) ∧ Below w.heap.size w w' := by
 obtain ⟨kb,ko,kc,rfl,hkb,hkc⟩ := one_at hk
 have HP := hI' (fun W h => xEt pw xO r W hr1 hr2 (by omega) (by omega) h)
 have hpz := xI0 pw xO r
 have HE : Hid (rF u pb ep pw xO xD r k0 = ⟨u,xO,r,ep,pb,xD,wL (xC9 pw xO r) xD (u ++ pb) k0,⟨#[]⟩⟩) := hI' rfl
 generalize xC9 pw xO r = key at HP hpz HE
 have HS := hI' (fun W => xTf key xD (u ++ pb) k0 W hpz hn (by rw [ByteArray.size_append]; omega) (by omega))
 generalize wL key xD (u ++ pb) k0 = wr at HS HE
 have HT := hI' (fun W (h : Below w.heap.size w W) => hT.below h (Nat.le_refl _))
 have nb : ¬ (9223372036854775807 < u.size + pb.size) := by omega
 have HK := hI' (fun W (h : Below w.heap.size w W) => (h.cell (p := ⟨kb,ko,none⟩) hkb).trans hkc)
 obtain ⟨rr,hrr⟩ : ∃ rr : Int,(r : Int) = rr := ⟨_,rfl⟩
 have HRR := hI' hrr
 rw [hrr] at HP ⊢
 have HI : Hid (AcM w u (.string o1) (.int .i64 o2) ep pb (.string o5) (.string o6) (.string o7) xO xD priv rr (((w.alloc (.cells #[.string u,.string o1,.int .i64 o2,.int .i64 ep,.string pb,.string o5,.string o6,.string o7] 35)).alloc (uO xO xD priv rr)).alloc (yI zP))) := hI' (by
  refine ⟨xP (zQ w _ _) _,xP (zM w _ _) _,?_,?_⟩
  ·have := xM ((w.alloc (.cells #[.string u,.string o1,.int .i64 o2,.int .i64 ep,.string pb,.string o5,.string o6,.string o7] 35)).alloc (uO xO xD priv rr)) (yI zP)
   simpa using this
  ·exact (((Below.refl w.heap.size w).alloc (Nat.le_refl _) _).alloc (by simp) _).alloc (by simp; omega) _)
 clear hk hkc hkb hT hpw hu hpb hk0 hs hn hpz hrr hr1 hr2
 go_enter Tryz.func65,Tryz.ntmps65
 go_upto_region 1 with fail
 refine RG.yN 14 (fun L W => Hid (AcM w u (if L 7 then .string xO else .string o1) (if L 11 then .int .i64 rr else .int .i64 o2) ep pb (if L 9 then .string xD else .string o5) (.string o6) (if L 13 then .string ⟨#[]⟩ else .string o7) xO xD priv rr W)) (fun L L' W h hI => by rw [← h 7 (by decide),← h 9 (by decide),← h 11 (by decide),← h 13 (by decide)]; exact hI) (by kernel_rfl) (by kernel_rfl) rfl (hI' HI.out.drew) ?_
 clear HI
 apply RG.xJ
 ·rfl
 ·rfl
 ·intro L w9 h0 hcl xH hw9
  repeat go_step
  with_reducible refine RG.xB ?_
  exact ⟨xH,hw9⟩
 ·rfl
 apply RG.xJ
 ·rfl
 ·rfl
 ·intro L w9 h0 hcl xH hw9
  have q := xWj hw9.out.f
  repeat go_step
  with_reducible refine RG.xB ?_
  exact ⟨xH,hw9⟩
 ·rfl
 apply RG.xJ
 ·rfl
 ·rfl
 ·intro L w9 h0 hcl xH hw9
  repeat go_step
  with_reducible refine RG.xB ?_
  exact ⟨xH,hw9⟩
 ·rfl
 apply RG.xJ
 ·rfl
 ·rfl
 ·intro L w9 h0 hcl xH hw9
  have q := xA hw9.out.f 1
  simp only [gA,gB,gC] at q
  repeat go_step
  with_reducible refine RG.xB ?_
  exact ⟨xH,hw9⟩
 ·rfl
 apply RG.xJ
 ·rfl
 ·rfl
 ·intro L w9 h0 hcl xH hw9
  repeat go_step
  with_reducible refine RG.xB ?_
  exact ⟨xH,hw9⟩
 ·rfl
 apply RG.xJ
 ·rfl
 ·rfl
 ·intro L w9 h0 hcl xH hw9
  have q := xA hw9.out.f 3
  simp only [gA,gB,gC] at q
  repeat go_step
  with_reducible refine RG.xB ?_
  exact ⟨xH,hw9⟩
 ·rfl
 apply RG.xJ
 ·rfl
 ·rfl
 ·intro L w9 h0 hcl xH hw9
  repeat go_step
  with_reducible refine RG.xB ?_
  exact ⟨xH,hw9⟩
 ·rfl
 apply RG.xJ
 ·rfl
 ·rfl
 ·intro L w9 h0 hcl xH hw9
  have hs9 := hw9.out
  rw [h0,if_neg (c := false = true) (by simp)] at hs9
  have q := xA hs9.a 1
  have f := xK hs9.a 1
  simp only [gA,gB,gC] at q
  have hp := hI' (hs9.set1 (.string xO))
  clear hs9
  repeat go_step
  with_reducible refine RG.xB ?_
  refine ⟨xH,?_⟩
  show Hid (AcM w u (if (true : Bool) = true then .string xO else .string o1) (if L 11 then .int .i64 rr else .int .i64 o2) ep pb (if L 9 then .string xD else .string o5) (.string o6) (if L 13 then .string ⟨#[]⟩ else .string o7) xO xD priv rr _)
  rw [if_pos rfl]
  with_reducible exact hp
 ·rfl
 apply RG.xJ
 ·rfl
 ·rfl
 ·intro L w9 h0 hcl xH hw9
  repeat go_step
  with_reducible refine RG.xB ?_
  exact ⟨xH,hw9⟩
 ·rfl
 apply RG.xJ
 ·rfl
 ·rfl
 ·intro L w9 h0 hcl xH hw9
  have hs9 := hw9.out
  rw [h0,if_neg (c := false = true) (by simp)] at hs9
  have q := xA hs9.a 5
  have f := xK hs9.a 5
  simp only [gA,gB,gC] at q
  have hp := hI' (hs9.set5 (.string xD))
  clear hs9
  repeat go_step
  with_reducible refine RG.xB ?_
  refine ⟨xH,?_⟩
  show Hid (AcM w u (if L 7 then .string xO else .string o1) (if L 11 then .int .i64 rr else .int .i64 o2) ep pb (if (true : Bool) = true then .string xD else .string o5) (.string o6) (if L 13 then .string ⟨#[]⟩ else .string o7) xO xD priv rr _)
  rw [if_pos rfl]
  with_reducible exact hp
 ·rfl
 apply RG.xJ
 ·rfl
 ·rfl
 ·intro L w9 h0 hcl xH hw9
  repeat go_step
  with_reducible refine RG.xB ?_
  exact ⟨xH,hw9⟩
 ·rfl
 apply RG.xJ
 ·rfl
 ·rfl
 ·intro L w9 h0 hcl xH hw9
  have hs9 := hw9.out
  rw [h0,if_neg (c := false = true) (by simp)] at hs9
  have q := xA hs9.a 2
  have f := xK hs9.a 2
  simp only [gA,gB,gC] at q
  have hp := hI' (hs9.set2 (.int .i64 rr))
  clear hs9
  repeat go_step
  with_reducible refine RG.xB ?_
  refine ⟨xH,?_⟩
  show Hid (AcM w u (if L 7 then .string xO else .string o1) (if (true : Bool) = true then .int .i64 rr else .int .i64 o2) ep pb (if L 9 then .string xD else .string o5) (.string o6) (if L 13 then .string ⟨#[]⟩ else .string o7) xO xD priv rr _)
  rw [if_pos rfl]
  with_reducible exact hp
 ·rfl
 apply RG.xJ
 ·rfl
 ·rfl
 ·intro L w9 h0 hcl xH hw9
  repeat go_step
  with_reducible refine RG.xB ?_
  exact ⟨xH,hw9⟩
 ·rfl
 apply RG.xJ
 ·rfl
 ·rfl
 ·intro L w9 h0 hcl xH hw9
  have hs9 := hw9.out
  rw [h0,if_neg (c := false = true) (by simp)] at hs9
  have q := xA hs9.a 7
  have f := xK hs9.a 7
  simp only [gA,gB,gC] at q
  have hp := hI' (hs9.set7 (.string ⟨#[]⟩))
  clear hs9
  repeat go_step
  with_reducible refine RG.xB ?_
  refine ⟨xH,?_⟩
  show Hid (AcM w u (if L 7 then .string xO else .string o1) (if L 11 then .int .i64 rr else .int .i64 o2) ep pb (if L 9 then .string xD else .string o5) (.string o6) (if (true : Bool) = true then .string ⟨#[]⟩ else .string o7) xO xD priv rr _)
  rw [if_pos rfl]
  with_reducible exact hp
 ·rfl
 refine RG.yP (fun w2 hw2 => ?_)
 rw [if_pos rfl,if_pos rfl,if_pos rfl,if_pos rfl] at hw2
 have c1 := xA hw2.out.a 1
 have c2 := xA hw2.out.a 2
 simp only [gA,gB,gC] at c1 c2
 go_wp2_with fail
 refine (HP.out _ (HT.out _ hw2.out.bel)).mono ?_
 rintro e w3 ⟨rfl,hb3⟩
 have H3 := hI' (hw2.out.below hb3)
 clear hb3 hw2 HP c1 c2
 go_upto_region 5 with fail
 refine RG.yN 18 (fun L W => Hid (AcM w u (.string xO) (.int .i64 rr) ep pb (.string xD) (if L 16 then .string wr else .string o6) (.string ⟨#[]⟩) xO xD priv rr W)) (fun L L' W h hI => by rw [← h 16 (by decide)]; exact hI) (by kernel_rfl) (by kernel_rfl) rfl (hI' H3.out.drew) ?_
 clear H3
 iterate 2
  apply RG.xJ
  ·rfl
  ·rfl
  ·intro L w9 h0 hcl xH hw9
   repeat go_step
   with_reducible refine RG.xB ?_
   exact ⟨xH,hw9⟩
  ·rfl
 apply RG.xJ
 ·rfl
 ·rfl
 ·intro L w9 h0 hcl xH hw9
  have q := xA hw9.out.a 5
  simp only [gA,gB,gC] at q
  repeat go_step
  with_reducible refine RG.xB ?_
  exact ⟨xH,hw9⟩
 ·rfl
 apply RG.xJ
 ·rfl
 ·rfl
 ·intro L w9 h0 hcl xH hw9
  repeat go_step
  with_reducible refine RG.xB ?_
  exact ⟨xH,hw9⟩
 ·rfl
 apply RG.xJ
 ·rfl
 ·rfl
 ·intro L w9 h0 hcl xH hw9
  have q := xWj hw9.out.a
  repeat go_step
  with_reducible refine RG.xB ?_
  exact ⟨xH,hw9⟩
 ·rfl
 apply RG.xJ
 ·rfl
 ·rfl
 ·intro L w9 h0 hcl xH hw9
  repeat go_step
  with_reducible refine RG.xB ?_
  exact ⟨xH,hw9⟩
 ·rfl
 apply RG.xJ
 ·rfl
 ·rfl
 ·intro L w9 h0 hcl xH hw9
  have q := xA hw9.out.a 4
  simp only [gA,gB,gC] at q
  repeat go_step
  with_reducible refine RG.xB ?_
  exact ⟨xH,hw9⟩
 ·rfl
 iterate 3
  apply RG.xJ
  ·rfl
  ·rfl
  ·intro L w9 h0 hcl xH hw9
   repeat go_step
   with_reducible refine RG.xB ?_
   exact ⟨xH,hw9⟩
  ·rfl
 apply RG.xJ
 ·rfl
 ·rfl
 ·intro L w9 h0 hcl xH hw9
  have q := HK.out _ hw9.out.bel
  repeat go_step
  with_reducible refine RG.xB ?_
  exact ⟨xH,hw9⟩
 ·rfl
 apply RG.xJ
 ·rfl
 ·rfl
 ·intro L w9 h0 hcl xH hw9
  repeat go_step
  refine (HS.out _).mono ?_
  rintro e w10 ⟨rfl,yA⟩
  simp only []
  repeat go_step
  with_reducible refine RG.xB ?_
  exact ⟨xH,hI' (hw9.out.below yA)⟩
 ·rfl
 iterate 4
  apply RG.xJ
  ·rfl
  ·rfl
  ·intro L w9 h0 hcl xH hw9
   repeat go_step
   with_reducible refine RG.xB ?_
   exact ⟨xH,hw9⟩
  ·rfl
 apply RG.xJ
 ·rfl
 ·rfl
 ·intro L w9 h0 hcl xH hw9
  have hs9 := hw9.out
  rw [h0,if_neg (c := false = true) (by simp)] at hs9
  have q := xA hs9.a 6
  have f := xK hs9.a 6
  simp only [gA,gB,gC] at q
  have hp := hI' (hs9.set6 (.string wr))
  clear hs9
  repeat go_step
  with_reducible refine RG.xB ?_
  refine ⟨xH,?_⟩
  show Hid (AcM w u (.string xO) (.int .i64 rr) ep pb (.string xD) (if (true : Bool) = true then .string wr else .string o6) (.string ⟨#[]⟩) xO xD priv rr _)
  rw [if_pos rfl]
  with_reducible exact hp
 ·rfl
 apply RG.xJ
 ·rfl
 ·rfl
 ·intro L w9 h0 hcl xH hw9
  repeat go_step
  with_reducible refine RG.xB ?_
  exact ⟨xH,hw9⟩
 ·rfl
 refine RG.yP (fun w5 hw5 => ?_)
 rw [if_pos rfl] at hw5
 clear HS HT HK
 obtain ⟨a0,a1,a2,a3,a4,a5,a6,a7⟩ := xRx hw5.out.a
 obtain ⟨o0,y0,f0,o1,y1,f1,o2,y2,f2,o3,y3,f3,o4,y4,f4,o5,y5,f5,o6,y6,f6,o7,y7,f7,HB⟩ := xSe hw5.out.o hw5.out.bel (by omega) (.string u) (.string xO) (.int .i64 rr) (.int .i64 ep) (.string pb) (.string xD) (.string wr) (.string ⟨#[]⟩) _ rfl
 clear hw5
 go_wp2_with fail
 refine bodyPost_ret (v := .tuple #[.agg #[.string u,.string xO,.int .i64 rr,.int .i64 ep,.string pb,.string xD,.string wr,.string ⟨#[]⟩],.int .i64 0]) (by simp [results,Tryz.results65,go_sem,f0,f1,f2,f3,f4,f5,f6,f7]) rfl ?_
 rw [HE.out,HRR.out]
 exact ⟨rfl,HB.out⟩
end Go.Proofs.SH

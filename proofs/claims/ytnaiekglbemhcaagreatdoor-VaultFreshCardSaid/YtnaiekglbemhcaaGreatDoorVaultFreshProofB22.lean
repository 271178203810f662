/- Contracts of functions of the program. Conditions: those that each theorem states. -/
import Derived.Test.YtnaiekglbemhcaaGreatDoorVaultFreshProofB18
import Derived.Test.YtnaiekglbemhcaaGreatDoorVaultFreshProofB21
import Derived.Test.YtnaiekglbemhcaaGreatDoorVaultFreshProofB09
set_option maxHeartbeats 8000000
set_option maxRecDepth 100000
namespace Mailsack
theorem xT1 {l : List Slot} {k : Nat} {t : Slot} (h : l[k]? = some t) : usedNames (l.take (k + 1)) = usedNames (l.take k) ++ (if t.used = true then [t.name] else []) := by
 unfold usedNames
 rw [List.take_add_one,h,List.filter_append,List.map_append]
 cases hq : t.used with
 | true => simp [hq]
 | false => simp [hq]
theorem xO9 (l : List Slot) (k : Nat) : (usedNames (l.take k)).length ≤ k := by
 unfold usedNames
 rw [List.length_map]
 have h1 := List.length_filter_le (fun t : Slot => t.used) (l.take k)
 have h2 := List.length_take_le k l
 omega
end Mailsack
namespace Go.Proofs.ST
open Go.RowKit Go.Lib Mailsack MM BB SH SV RK DS IX
theorem yBr (l : List Bs) : l.flatMap txF = l.map xU := by
 induction l with
 | nil => rfl
 | cons x l ih =>
  rw [List.flatMap_cons,List.map_cons,ih]
  rfl
theorem yAr {w : World} {base : Nat} {v : Value} {l : List Bs} (h : xX 9 1 txF w base v l) : xQ7 w base v l := by
 unfold xQ7
 rw [← yBr]
 exact h
structure NmM (w : World) (gl : Nat) (sl : List Slot) (v : Value) (L : List Bs) (W : World) : Prop where
 sl : qC 140 qI W gl sl
 own : xX 9 1 txF W w.heap.size v L
 bel : Below w.heap.size w W
theorem NmM.below {w W W' : World} {gl : Nat} {ts : List Slot} {v : Value} {L : List Bs} (h : NmM w gl ts v L W) (hb : Below W.heap.size W W') : NmM w gl ts v L W' := ⟨h.sl.below hb,h.own.below hb,h.bel.trans (hb.mono h.bel.size)⟩
theorem xU9 (va vb : Value) (d : Dk) (w : World) (h : RdD w w.heap.size va vb d) :
  Calls Tryz.prog 34 #[.agg #[va,vb]] w fun e w' => ∃ v,e = .returned v ∧ RdS w' w'.heap.size v (qZ d) ∧ Below w.heap.size w w' := by
 obtain ⟨A1,c1,A2,c2,rfl,rfl⟩ := yH h
 have HA := hI' ((Below.refl w.heap.size w).alloc (Nat.le_refl _) (yD (.slice A1 d.secs.length c1) (.slice A2 d.cache.length c2)))
 have hD0 := xM w (yD (.slice A1 d.secs.length c1) (.slice A2 d.cache.length c2))
 obtain ⟨d0,d1⟩ := uG hD0
 clear hD0
 have HCT := hI' (xBb _ _ d _ ((h.below HA.out (Nat.le_refl _)).more HA.out.size))
 have HN : Hid (qZ d = if vV d = true then Go.Lib.compact (wK (usedNames (yG (xY d).secs))) else []) := hI' rfl
 have HFL : Hid (vV d = true → (xY d).secs.length = 381 ∧ ∀ s ∈ (xY d).secs,s.length = 64) := hI' xJv
 have HCP : Hid (∀ v W,xQ8 d v W → vV d = true → RdS W W.heap.size v (xY d).secs) := hI' (fun v W h => h)
 obtain ⟨np,hnp⟩ : ∃ np,qZ d = np := ⟨_,rfl⟩
 rw [hnp] at HN ⊢
 clear hnp h
 cases hc : vV d with
 | false =>
  rw [hc] at HCT HN
  rw [if_neg (by simp)] at HN
  clear hc HFL HCP
  go_enter Tryz.func34,Tryz.ntmps34
  go_wp2_with fail
  refine HCT.out.mono ?_
  rintro e w1 ⟨v,rfl,_,hb⟩
  have HB := hI' (HA.out.trans (hb.mono HA.out.size))
  clear hb HA HCT d0 d1
  go_wp2
  go_ret
  exact ⟨_,rfl,by rw [HN.out]; exact ⟨none,0,rfl,Nat.le_refl _,fun h => by simp at h⟩,HB.out⟩
 | true =>
  have qO := hI' (HFL.out hc)
  have xS6 := hI' (fun v W h => HCP.out v W h hc)
  rw [hc] at HCT HN
  rw [if_pos rfl] at HN
  clear hc HFL HCP
  generalize (xY d).secs = S at HN qO xS6
  go_enter Tryz.func34,Tryz.ntmps34
  go_wp2_with fail
  refine HCT.out.mono ?_
  rintro e w1 ⟨v,rfl,hct,hb⟩
  have HB1 := hI' (HA.out.trans (hb.mono HA.out.size))
  have HSO := hI' (xFx v S w1 (xS6.out v w1 hct) qO.out.1 qO.out.2)
  obtain ⟨A5,c5,rfl,_⟩ := xS6.out v w1 hct
  clear hct hb HCT xS6 d0 d1 HA
  go_wp2_with fail
  refine HSO.out.mono ?_
  rintro e w2 ⟨gl,rfl,hgl,hsl,hb2⟩
  have HSL := hI' (jE qO.out.1)
  have H0 : Hid (NmM w gl (yG S) (.slice none 0 0) (usedNames ((yG S).take 0)) w2) := hI' ⟨hsl,xX.nil _ _,HB1.out.trans (hb2.mono HB1.out.size)⟩
  clear hsl hb2 hgl HSO HB1 qO
  generalize yG S = sl at HN HSL H0
  go_wp2_with fail
  go_loopw [5,18] (fun tv iv wr => ∃ k : Nat,k ≤ 32 ∧ iv = .int .i64 k ∧ Hid (NmM w gl sl tv (usedNames (sl.take k)) wr)) (fun _ iv _ => 32 - (intOf iv).toNat)
  case atStart => exact ⟨0,Nat.zero_le _,rfl,H0⟩
  case round =>
   obtain ⟨k,hk,rfl,HI⟩ := hrel
   clear H0
   by_cases hlt : k < 32
   ·obtain ⟨x,hx⟩ : ∃ x,sl[k]? = some x := ⟨_,List.getElem?_eq_getElem (by have := HSL.out; omega)⟩
    have q0 := HI.out.sl.cell zO (i := 0) hx rfl
    have q1 := HI.out.sl.cell zO (i := 1) hx rfl
    have q2 := HI.out.sl.cell zO (i := 2) hx rfl
    have q3 := HI.out.sl.cell zO (i := 3) hx rfl
    have q4 := HI.out.sl.cell zO (i := 4) hx rfl
    rw [Nat.add_zero] at q0
    have HS := hI' (xT1 hx)
    have HTL := hI' (xO9 sl k)
    have HA := hI' (HI.out.below ((Below.refl _ _).alloc (Nat.le_refl _) (wU x)))
    have hbx := xM wr (wU x)
    obtain ⟨x0,x1,x2,x3,x4⟩ := xSf hbx
    generalize usedNames (sl.take k) = T at HI HS HTL HA
    clear hx hbx HI
    go_upto_region 8 with fail
    clear q0 q1 q2 q3 q4
    obtain ⟨xu,xc,xb,xs,xn⟩ := x
    simp only at HS HA x0 x1 x2 x3 x4
    generalize wr.alloc (.cells #[.bool xu,.int .i64 xc,.int .i64 xb,.int .i64 xs,xU xn] 140) = w3 at HA x0 x1 x2 x3 x4 ⊢
    cases xu with
    | true =>
     rw [if_pos rfl] at HS
     go_upto_region 9 with fail
     have HAD : Hid (∀ v8 w8,xHn 9 1 txF (w3.alloc (.cells #[xU xn] 9)) w8 w.heap.size u5 v8 (T ++ [xn]) → Hid (NmM w gl sl v8 (usedNames (sl.take (k + 1))) w8)) := hI' fun v8 w8 h8 => hI' (by
      have h9 := xP HA.out.sl.blk (.cells #[xU xn] 9)
      exact ⟨h8.keep h9 (xX.neT (HA.out.own.alloc _) h9 (by decide)),by rw [HS.out]; exact h8.own,h8.bel (HA.out.own.alloc _) (Nat.le_refl _) (HA.out.bel.alloc HA.out.bel.size _) (by have := HA.out.bel.size; simp; omega)⟩)
     have hsz := HA.out.bel.size
     go_wp2_with (at_builtin; refine vS tyTx rfl _ _ rfl rfl rfl (HA.out.own.alloc _) (RdR.lit (m := [xn]) rZ _ _ rfl) (by have := HTL.out; simp; omega) (by simp; omega) ?_; intro v8 w8 h8; have HA8 := HAD.out _ _ h8; clear h8)
     exact ⟨⟨k + 1,by omega,by go_num,HA8⟩,by simp [intOf]; omega⟩
    | false =>
     rw [if_neg (by simp),List.append_nil] at HS
     have HA9 : Hid (NmM w gl sl u5 (usedNames (sl.take (k + 1))) w3) := hI' (by rw [HS.out]; exact HA.out)
     go_wp2
     exact ⟨⟨k + 1,by omega,by go_num,HA9⟩,by simp [intOf]; omega⟩
   ·obtain rfl : k = 32 := by omega
    have HE : Hid (usedNames (sl.take 32) = usedNames sl) := hI' (by rw [List.take_of_length_le (by rw [HSL.out]; omega)])
    rw [HE.out] at HI
    have HUL : Hid ((usedNames sl).length ≤ 32) := hI' (by rw [← HE.out]; exact xO9 sl 32)
    clear hlt hk HE HSL
    have HSS := hI' (xTc (yAr HI.out.own) (by have := HUL.out; omega))
    have HBI := hI' HI.out.bel
    have HSRT : Hid ((wK (usedNames sl)).length ≤ 32) := hI' (by unfold wK; rw [List.length_mergeSort]; exact HUL.out)
    clear HI HUL
    generalize usedNames sl = us at HN HSS HSRT
    go_wp2_with fail
    refine HSS.out.mono ?_
    rintro e w4 ⟨rfl,hb4,hor⟩
    have HB4 := hI' (HBI.out.trans hb4)
    clear hb4 HSS HBI
    rcases hor with ⟨h1,h2⟩ | ⟨g,c,h1,h2,h3,h4,h5⟩
    ·subst h1
     rw [h2]
     have HCO := hI' (Tryz.slices_Compact_string_empty none 0 w4)
     rw [show Go.Lib.compact (wK ([] : List Bs)) = [] by simp [wK,Go.Lib.compact,Go.Lib.compactUpTo]] at HN
     clear h2
     go_wp2_with fail
     refine HCO.out.mono ?_
     rintro e w5 ⟨rfl,hw5⟩
     rw [hw5]
     clear hw5 w5
     go_wp2
     go_ret
     exact ⟨_,rfl,by rw [HN.out]; exact ⟨none,0,rfl,Nat.le_refl _,fun h => by simp at h⟩,HB4.out⟩
    ·rw [h1]
     have HCO := hI' (xLm h5 h3 h4 (by have := HSRT.out; omega) h2)
     clear h1 h2 h3 h4 h5
     go_wp2_with fail
     refine HCO.out.mono ?_
     rintro e w5 ⟨rfl,hr5,hb5⟩
     have HR5 := hI' (And.intro hr5 (HB4.out.trans hb5))
     clear hr5 hb5 HCO HB4
     go_wp2
     go_ret
     exact ⟨_,rfl,by rw [HN.out]; exact HR5.out.1,HR5.out.2⟩
end Go.Proofs.ST
namespace Mailsack
def U64 (x : Int) : Prop := 0 ≤ x ∧ x < 18446744073709551616
theorem zH (op : Go.BinOp) (x y : Int) : U64 (Go.bits op .u64 x y) := by
 have h := Go.wf_bits op .u64 x y
 simp [Go.Lit.wf] at h
 have e1 : Go.IntKind.u64.min = 0 := (by decide)
 have e2 : Go.IntKind.u64.max = 18446744073709551615 := (by decide)
 unfold U64
 omega
theorem xE5 (x : Int) : U64 (x % 18446744073709551616) := ⟨by omega,by omega⟩
def xSy (c0 c1 c2 c3 : Int) : Int := Go.bits .or .u64 (Go.bits .or .u64 (Go.bits .or .u64 c0 (c1 * 256)) (c2 * 65536)) (c3 * 16777216)
def uL (s : ByteArray) (i : Nat) : Int := xSy (yZ (s.extract i (i + 4)) 0) (yZ (s.extract i (i + 4)) 1) (yZ (s.extract i (i + 4)) 2) (yZ (s.extract i (i + 4)) 3)
theorem pY (s : ByteArray) (i : Nat) : U64 (uL s i) := by unfold uL xSy; exact zH _ _ _
structure L5 where
 a : Int
 b : Int
 c : Int
 d : Int
 e : Int
def L5.list (l : L5) : List Int := [l.a,l.b,l.c,l.d,l.e]
def L5.ok (l : L5) : Prop := U64 l.a ∧ U64 l.b ∧ U64 l.c ∧ U64 l.d ∧ U64 l.e
def zT (s : ByteArray) : L5 :=
 ⟨Go.bits .and .u64 (uL s 0) 67108863,Go.bits .and .u64 (uL s 3 / 4) 67108863,Go.bits .and .u64 (uL s 6 / 16) 67108863,uL s 9 / 64,uL s 12 / 256⟩
theorem xAu (s : ByteArray) : (zT s).ok := by
 have h9 := pY s 9
 have h12 := pY s 12
 refine ⟨by simp only [zT]; exact zH _ _ _,by simp only [zT]; exact zH _ _ _,by simp only [zT]; exact zH _ _ _,?_,?_⟩
 ·unfold U64 at h9
  show U64 (uL s 9 / 64)
  unfold U64
  omega
 ·unfold U64 at h12
  show U64 (uL s 12 / 256)
  unfold U64
  omega
def jS (s : ByteArray) : L5 :=
 ⟨(zT s).a,Go.bits .and .u64 (zT s).b 67108611,Go.bits .and .u64 (zT s).c 67092735,Go.bits .and .u64 (zT s).d 66076671,Go.bits .and .u64 (zT s).e 1048575⟩
theorem xW1 (s : ByteArray) : (jS s).ok := ⟨(xAu s).1,by simp only [jS]; exact zH _ _ _,by simp only [jS]; exact zH _ _ _,by simp only [jS]; exact zH _ _ _,by simp only [jS]; exact zH _ _ _⟩
end Mailsack
namespace Go.Proofs.SH
open Go.RowKit Mailsack MM BB
theorem qF {w W : World} (h : Below w.heap.size w W) (i : Nat) (u : Value) : Below w.heap.size w (W.setCell ⟨w.heap.size,i,none⟩ u) := h.setCell (p := ⟨w.heap.size,i,none⟩) (Nat.le_refl _) u
theorem tF (s : ByteArray) (i : Nat) (w : World) (hi : i + 4 ≤ s.size) (hs : s.size ≤ 1099511627776) :
  Calls Tryz.prog 220 #[.string s,.int .i64 i] w fun e w' => e = .returned (.int .u64 (uL s i)) ∧ Below w.heap.size w w' := by
 obtain ⟨z,hz⟩ : ∃ z,uL s i = z := ⟨_,rfl⟩
 rw [hz]
 unfold uL at hz
 have hxs : (s.extract i (i + 4)).size = 4 := by rw [ByteArray.size_extract]; omega
 go_enter Tryz.func220,Tryz.ntmps220
 go_upto_region 2 with fail
 generalize s.extract i (i + 4) = x at hz hxs ⊢
 have i0 := fun w => zU (P := Tryz.prog) Tryz.underlying9 x 0 0 rfl (by omega) w
 have i1 := fun w => zU (P := Tryz.prog) Tryz.underlying9 x 1 1 rfl (by omega) w
 have i2 := fun w => zU (P := Tryz.prog) Tryz.underlying9 x 2 2 rfl (by omega) w
 have i3 := fun w => zU (P := Tryz.prog) Tryz.underlying9 x 3 3 rfl (by omega) w
 obtain ⟨r00,r01⟩ := zG x 0
 obtain ⟨r10,r11⟩ := zG x 1
 obtain ⟨r20,r21⟩ := zG x 2
 obtain ⟨r30,r31⟩ := zG x 3
 generalize yZ x 0 = c0 at i0 r00 r01 hz
 generalize yZ x 1 = c1 at i1 r10 r11 hz
 generalize yZ x 2 = c2 at i2 r20 r21 hz
 generalize yZ x 3 = c3 at i3 r30 r31 hz
 unfold xSy at hz
 have HZ := hI' hz
 clear hz hxs hi hs
 refine RG.xR (fun W => Hid (Below w.heap.size w W)) (by kernel_rfl) (by kernel_rfl) (hI' (Below.refl _ _).drew) ?_
 iterate 18
  apply RG.xC
  ·intro w9 hw9
   repeat go_step
   with_reducible exact RG.xB hw9
  ·rfl
 rw [HZ.out]
 apply RG.xC
 ·intro w9 hw9
  repeat go_step
  with_reducible exact RG.xB hw9
 ·rfl
 refine RG.xW (fun w9 hw9 => ?_)
 clear i0 i1 i2 i3
 go_wp2
 go_ret
 exact ⟨rfl,hw9.out⟩
theorem xKk (s : ByteArray) (w : World) (hs : s.size = 16) :
  Calls Tryz.prog 205 #[.string s] w fun e w' => e = .returned (.agg #[.int .u64 (zT s).a,.int .u64 (zT s).b,.int .u64 (zT s).c,.int .u64 (zT s).d,.int .u64 (zT s).e]) ∧ Below w.heap.size w w' := by
 have W0 : Hid (∀ W,Calls Tryz.prog 220 #[.string s,.int .i64 0] W fun e w' => e = .returned (.int .u64 (uL s 0)) ∧ Below W.heap.size W w') := hI' (fun W => tF s 0 W (by omega) (by omega))
 have W3 : Hid (∀ W,Calls Tryz.prog 220 #[.string s,.int .i64 3] W fun e w' => e = .returned (.int .u64 (uL s 3)) ∧ Below W.heap.size W w') := hI' (fun W => tF s 3 W (by omega) (by omega))
 have W6 : Hid (∀ W,Calls Tryz.prog 220 #[.string s,.int .i64 6] W fun e w' => e = .returned (.int .u64 (uL s 6)) ∧ Below W.heap.size W w') := hI' (fun W => tF s 6 W (by omega) (by omega))
 have W9 : Hid (∀ W,Calls Tryz.prog 220 #[.string s,.int .i64 9] W fun e w' => e = .returned (.int .u64 (uL s 9)) ∧ Below W.heap.size W w') := hI' (fun W => tF s 9 W (by omega) (by omega))
 have W12 : Hid (∀ W,Calls Tryz.prog 220 #[.string s,.int .i64 12] W fun e w' => e = .returned (.int .u64 (uL s 12)) ∧ Below W.heap.size W w') := hI' (fun W => tF s 12 W (by omega) (by omega))
 have HP : Hid (zT s = ⟨bits .and .u64 (uL s 0) 67108863,bits .and .u64 (uL s 3 / 4) 67108863,bits .and .u64 (uL s 6 / 16) 67108863,uL s 9 / 64,uL s 12 / 256⟩) := hI' rfl
 obtain ⟨u30,u31⟩ := pY s 3
 obtain ⟨u60,u61⟩ := pY s 6
 obtain ⟨u90,u91⟩ := pY s 9
 obtain ⟨uc0,uc1⟩ := pY s 12
 rw [HP.out]
 generalize uL s 0 = x0 at W0 HP ⊢
 generalize uL s 3 = x3 at W3 HP u30 u31 ⊢
 generalize uL s 6 = x6 at W6 HP u60 u61 ⊢
 generalize uL s 9 = x9 at W9 HP u90 u91 ⊢
 generalize uL s 12 = x12 at W12 HP uc0 uc1 ⊢
 have B0 := hI' ((Below.refl w.heap.size w).alloc (Nat.le_refl _) (.cells #[.int .u64 0,.int .u64 0,.int .u64 0,.int .u64 0,.int .u64 0] 276))
 have P0 := hI' (xM w (.cells #[.int .u64 0,.int .u64 0,.int .u64 0,.int .u64 0,.int .u64 0] 276))
 clear hs HP
 go_enter Tryz.func205,Tryz.ntmps205
 go_wp2_with fail
 refine (W0.out _).mono ?_
 rintro e w1 ⟨rfl,hb⟩
 have B1 := hI' (B0.out.trans (hb.mono B0.out.size))
 have P1 := hI' (xE P0.out hb (by simp))
 clear hb P0 B0
 go_wp2_with fail
 refine (W3.out _).mono ?_
 rintro e w2 ⟨rfl,hb⟩
 have B2 := hI' (B1.out.trans (hb.mono B1.out.size))
 have P2 := hI' (xE P1.out hb (xI P1.out))
 clear hb P1 B1
 go_wp2_with fail
 refine (W6.out _).mono ?_
 rintro e w3 ⟨rfl,hb⟩
 have B3 := hI' (B2.out.trans (hb.mono B2.out.size))
 have P3 := hI' (xE P2.out hb (xI P2.out))
 clear hb P2 B2
 go_wp2_with fail
 refine (W9.out _).mono ?_
 rintro e w4 ⟨rfl,hb⟩
 have B4 := hI' (B3.out.trans (hb.mono B3.out.size))
 have P4 := hI' (xE P3.out hb (xI P3.out))
 clear hb P3 B3
 go_wp2_with fail
 refine (W12.out _).mono ?_
 rintro e w5 ⟨rfl,hb⟩
 have B5 := hI' (B4.out.trans (hb.mono B4.out.size))
 have P5 := xE P4.out hb (xI P4.out)
 have f0 := xA P5 0
 have f1 := xA P5 1
 have f2 := xA P5 2
 have f3 := xA P5 3
 have f4 := xA P5 4
 have y0 := xK P5 0
 have y1 := xK P5 1
 have y2 := xK P5 2
 have y3 := xK P5 3
 have y4 := xK P5 4
 clear hb P4 B4 P5
 go_wp2
 refine bodyPost_ret (v := .agg #[.int .u64 (bits .and .u64 x0 67108863),.int .u64 (bits .and .u64 (x3 / 4) 67108863),.int .u64 (bits .and .u64 (x6 / 16) 67108863),.int .u64 (x9 / 64),.int .u64 (x12 / 256)]) (by simp [results,Tryz.results205,go_sem,f0,f1,f2,f3,f4]) rfl ?_
 refine ⟨rfl,?_⟩
 have h := B5.out
 clear f0 f1 f2 f3 f4 y0 y1 y2 y3 y4
 have k0 := qF h 0 (.int .u64 (bits .and .u64 x0 67108863))
 have k1 := qF k0 1 (.int .u64 (bits .and .u64 (x3 / 4) 67108863))
 have k2 := qF k1 2 (.int .u64 (bits .and .u64 (x6 / 16) 67108863))
 have k3 := qF k2 3 (.int .u64 (x9 / 64))
 have k4 := qF k3 4 (.int .u64 (x12 / 256))
 with_reducible exact k4
theorem xGt (s : ByteArray) (w : World) (hs : s.size = 16) :
  Calls Tryz.prog 204 #[.string s] w fun e w' => e = .returned (.agg #[.int .u64 (jS s).a,.int .u64 (jS s).b,.int .u64 (jS s).c,.int .u64 (jS s).d,.int .u64 (jS s).e]) ∧ Below w.heap.size w w' := by
 have HS := hI' (fun W => xKk s W hs)
 have HP : Hid (jS s = ⟨(zT s).a,bits .and .u64 (zT s).b 67108611,bits .and .u64 (zT s).c 67092735,bits .and .u64 (zT s).d 66076671,bits .and .u64 (zT s).e 1048575⟩) := hI' rfl
 rw [HP.out]
 generalize zT s = q at HS HP ⊢
 obtain ⟨a,b,c,d,e⟩ := q
 have B0 := hI' ((Below.refl w.heap.size w).alloc (Nat.le_refl _) (.cells #[.int .u64 0,.int .u64 0,.int .u64 0,.int .u64 0,.int .u64 0] 276))
 have P0 := hI' (xM w (.cells #[.int .u64 0,.int .u64 0,.int .u64 0,.int .u64 0,.int .u64 0] 276))
 clear hs HP
 go_enter Tryz.func204,Tryz.ntmps204
 go_wp2_with fail
 refine (HS.out _).mono ?_
 rintro e2 w1 ⟨rfl,hb⟩
 have B1 := hI' (B0.out.trans (hb.mono B0.out.size))
 have P1 := xP (xE P0.out hb (by simp)) (.cells #[.int .u64 a,.int .u64 (bits .and .u64 b 67108611),.int .u64 (bits .and .u64 c 67092735),.int .u64 (bits .and .u64 d 66076671),.int .u64 (bits .and .u64 e 1048575)] 276)
 have B2 := hI' (B1.out.alloc B1.out.size (.cells #[.int .u64 a,.int .u64 (bits .and .u64 b 67108611),.int .u64 (bits .and .u64 c 67092735),.int .u64 (bits .and .u64 d 66076671),.int .u64 (bits .and .u64 e 1048575)] 276))
 have f0 := xA P1 0
 have f1 := xA P1 1
 have f2 := xA P1 2
 have f3 := xA P1 3
 have f4 := xA P1 4
 have y0 := xK P1 0
 have y1 := xK P1 1
 have y2 := xK P1 2
 have y3 := xK P1 3
 have y4 := xK P1 4
 clear hb P0 B0 P1 B1
 go_wp2
 refine bodyPost_ret (v := .agg #[.int .u64 a,.int .u64 (bits .and .u64 b 67108611),.int .u64 (bits .and .u64 c 67092735),.int .u64 (bits .and .u64 d 66076671),.int .u64 (bits .and .u64 e 1048575)]) (by simp [results,Tryz.results204,go_sem,f0,f1,f2,f3,f4]) rfl ?_
 refine ⟨rfl,?_⟩
 have h := B2.out
 clear f0 f1 f2 f3 f4 y0 y1 y2 y3 y4
 have k0 := qF h 0 (.int .u64 a)
 have k1 := qF k0 1 (.int .u64 (bits .and .u64 b 67108611))
 have k2 := qF k1 2 (.int .u64 (bits .and .u64 c 67092735))
 have k3 := qF k2 3 (.int .u64 (bits .and .u64 d 66076671))
 have k4 := qF k3 4 (.int .u64 (bits .and .u64 e 1048575))
 with_reducible exact k4
end Go.Proofs.SH
namespace Mailsack
def yV (ws : List Int) : Prop := ∀ i,U64 (ws.getD i 0)
theorem yV.set {ws : List Int} (h : yV ws) (i : Nat) {x : Int} (hx : U64 x) : yV (ws.set i x) := by
 intro j
 rw [List.getD_eq_getElem?_getD,List.getElem?_set]
 split
 ·split
  ·exact hx
  ·exact ⟨by decide,by decide⟩
 ·have := h j
  rwa [List.getD_eq_getElem?_getD] at this
theorem xC4 (n : Nat) : yV (List.replicate n 0) := by
 intro i
 rw [List.getD_eq_getElem?_getD,List.getElem?_replicate]
 split <;> exact ⟨by decide,by decide⟩
theorem L5.all {l : L5} (h : l.ok) : yV l.list := by
 obtain ⟨h0,h1,h2,h3,h4⟩ := h
 intro i
 match i with
 | 0 => exact h0
 | 1 => exact h1
 | 2 => exact h2
 | 3 => exact h3
 | 4 => exact h4
 | n + 5 =>
  rw [List.getD_eq_getElem?_getD,List.getElem?_eq_none (by simp [L5.list])]
  exact ⟨by decide,by decide⟩
theorem wrap_u64 (x : Int) : U64 (Go.IntKind.u64.wrap x) := by
 rw [show Go.IntKind.u64.wrap x = x % 18446744073709551616 from by simp [Go.IntKind.wrap,Go.IntKind.signed,Go.IntKind.bits]]
 exact xE5 x
def yM (l : List Int) : Nat → List Int × Int
 | 0 => (l,0)
 | i + 1 => ((yM l i).1.set i (Go.bits .and .u64 (Go.IntKind.u64.wrap ((yM l i).1.getD i 0 + (yM l i).2)) 67108863),Go.IntKind.u64.wrap ((yM l i).1.getD i 0 + (yM l i).2) / 67108864)
theorem rV (l : List Int) : ∀ i,(yM l i).1.length = l.length
 | 0 => rfl
 | i + 1 => by simp [yM,rV l i]
theorem xDj {l : List Int} (h : yV l) : ∀ i,yV (yM l i).1
 | 0 => h
 | i + 1 => (xDj h i).set i (zH _ _ _)
theorem xGw (l : List Int) : ∀ i,0 ≤ (yM l i).2 ∧ (yM l i).2 < 274877906944
 | 0 => ⟨by simp [yM],by simp [yM]⟩
 | i + 1 => by
  have ⟨h0,h1⟩ := wrap_u64 ((yM l i).1.getD i 0 + (yM l i).2)
  simp only [yM]
  omega
def wZ (l : List Int) : List Int := (yM l 5).1.set 0 (Go.IntKind.u64.wrap ((yM l 5).1.getD 0 0 + 5 * (yM l 5).2))
theorem jI (l : List Int) : (wZ l).length = l.length := by unfold wZ; rw [List.length_set,rV]
theorem pV {l : List Int} (h : yV l) : yV (wZ l) := (xDj h 5).set 0 (wrap_u64 _)
end Mailsack
namespace Go.Proofs.SH
open Go.RowKit Mailsack MM BB
def xG (ws : List Int) : Array Value := (ws.map fun x => Value.int .u64 x).toArray
theorem xV (ws : List Int) : (xG ws).size = ws.length := by simp [xG]
theorem xBm {ws : List Int} {i : Nat} (h : i < ws.length) : (xG ws)[i]? = some (.int .u64 (ws.getD i 0)) := by
 simp [xG,List.getD_eq_getElem?_getD,List.getElem?_eq_getElem h]
theorem xPp (ws : List Int) (i : Nat) (x : Int) : (xG ws).setIfInBounds i (.int .u64 x) = xG (ws.set i x) := by
 simp [xG,List.map_set]
theorem xS (ws : List Int) : (xG ws).all (·.oneCell') = true := by
 simp [xG,Value.oneCell']
def uR (W : World) (g : Nat) (ws : List Int) : Prop := W.heap[g]? = some (.cells (xG ws) 276 (0,0))
theorem uR.blk {W : World} {g : Nat} {ws : List Int} (h : uR W g ws) : W.heap[g]? = some (.cells (xG ws) 276 (0,0)) := h
theorem uR.put {W : World} {g : Nat} {ws : List Int} (h : uR W g ws) (i : Nat) (x : Int) : uR (W.setCell ⟨g,i,none⟩ (.int .u64 x)) g (ws.set i x) := by
 have := yB h.blk i (.int .u64 x)
 rw [xPp] at this
 exact this
theorem uR.far {W : World} {g : Nat} {ws : List Int} (h : uR W g ws) {p : Addr} (hp : g ≠ p.block) (u : Value) : uR (W.setCell p u) g ws := xZ h.blk hp u
theorem uR.cell {W : World} {g : Nat} {ws : List Int} (h : uR W g ws) {i : Nat} (hi : i < ws.length) : W.cell? ⟨g,i,none⟩ = some (.int .u64 (ws.getD i 0)) := by rw [xA h.blk,xBm hi]
theorem uR.free {W : World} {g : Nat} {ws : List Int} (h : uR W g ws) (i : Nat) : W.frozen? ⟨g,i,none⟩ = false := xK h.blk i
theorem xBt {ws : List Int} (h : ws.length = 5) : (Tryz.prog.info? 276).map (·.size) = some (xG ws).size := by rw [xV,h]; kernel_rfl
structure xK8 (w : World) (ws : List Int) (W : World) : Prop where
 st : uR W w.heap.size ws
 res : uR W (w.heap.size + 1) (List.replicate 5 0)
 bel : Below w.heap.size w W
theorem xK8.put {w : World} {ws : List Int} {W : World} (h : xK8 w ws W) (i : Nat) (x : Int) : xK8 w (ws.set i x) (W.setCell ⟨w.heap.size,i,none⟩ (.int .u64 x)) :=
 ⟨h.st.put i x,h.res.far (p := ⟨w.heap.size,i,none⟩) (by simp) _,h.bel.setCell (p := ⟨w.heap.size,i,none⟩) (Nat.le_refl _) _⟩
theorem xGv (ws : List Int) (w : World) (hl : ws.length = 5) (hu : yV ws) :
  Calls Tryz.prog 221 #[.agg (xG ws)] w fun e w' => e = .returned (.agg (xG (wZ ws))) ∧ Below w.heap.size w w' := by
 have H0 : Hid (xK8 w (yM ws 0).1 ((w.alloc (.cells (xG ws) 276)).alloc (.cells (xG (List.replicate 5 0)) 276))) := hI' ⟨zQ _ _ _,zM _ _ _,((Below.refl w.heap.size w).alloc (Nat.le_refl _) _).alloc (by simp) _⟩
 have HL : Hid (∀ i,(yM ws i).1.length = 5) := hI' (fun i => by rw [rV,hl])
 have HU := hI' (fun i => xDj hu i)
 have HV := hI' (fun i => xGw ws i)
 have HS : Hid (∀ i,(yM ws (i + 1)).1 = (yM ws i).1.set i (bits .and .u64 (IntKind.u64.wrap ((yM ws i).1.getD i 0 + (yM ws i).2)) 67108863) ∧ (yM ws (i + 1)).2 = IntKind.u64.wrap ((yM ws i).1.getD i 0 + (yM ws i).2) / 67108864) := hI' (fun i => ⟨rfl,rfl⟩)
 have HP : Hid (∀ n,n = 5 → wZ ws = (yM ws n).1.set 0 (IntKind.u64.wrap ((yM ws n).1.getD 0 0 + 5 * (yM ws n).2))) := hI' (fun n hn => by rw [hn]; rfl)
 have HPL : Hid ((wZ ws).length = 5) := hI' (by rw [jI,hl])
 clear hl hu
 go_enter Tryz.func221,Tryz.ntmps221
 go_wp2_with fail
 go_loopw [3,5] (fun ov iv wr => ∃ i : Nat,i ≤ 5 ∧ iv = .int .i64 i ∧ ov = .int .u64 (yM ws i).2 ∧ Hid (xK8 w (yM ws i).1 wr)) (fun _ iv _ => 5 - (intOf iv).toNat)
 case atStart => exact ⟨0,by decide,rfl,rfl,H0⟩
 case round =>
  clear H0
  obtain ⟨i,hi,rfl,rfl,hr⟩ := hrel
  obtain ⟨v0,v1⟩ := HV.out i
  by_cases hlt : i < 5
  ·have hl := HL.out i
   obtain ⟨u0,u1⟩ := HU.out i i
   have hl5 := HL.out i
   obtain ⟨s1,s2⟩ := HS.out i
   obtain ⟨x1,hx1⟩ : ∃ x,(yM ws (i + 1)).1 = x := ⟨_,rfl⟩
   obtain ⟨o1,ho1⟩ : ∃ x,(yM ws (i + 1)).2 = x := ⟨_,rfl⟩
   rw [hx1] at s1
   rw [ho1] at s2
   have HX1 := hI' hx1
   have HO1 := hI' ho1
   clear hx1 ho1
   generalize (yM ws i).2 = o at v0 v1 s1 s2 ⊢
   generalize (yM ws i).1 = xs at hr hl5 u0 u1 s1 s2
   have q0 := hr.out.st.cell (i := i) (by omega)
   have q1 := hr.out.st.free i
   obtain ⟨x,hx⟩ : ∃ x,xs.getD i 0 = x := ⟨_,rfl⟩
   rw [hx] at q0 u0 u1 s1 s2
   obtain ⟨z,hz⟩ : ∃ z,IntKind.u64.wrap (x + o) = z := ⟨_,rfl⟩
   rw [hz] at s1 s2
   have hzr := wrap_u64 (x + o)
   rw [hz] at hzr
   obtain ⟨z0,z1⟩ := hzr
   have HZ := hI' hz
   have hlx : xs.length = 5 := hl5
   have HA : Hid (xK8 w (xs.set i z) (wr.setCell ⟨w.heap.size,i,none⟩ (.int .u64 z))) := hI' (hr.out.put i z)
   have HB : Hid (xK8 w x1 ((wr.setCell ⟨w.heap.size,i,none⟩ (.int .u64 z)).setCell ⟨w.heap.size,i,none⟩ (.int .u64 (bits .and .u64 z 67108863)))) := hI' (by
    have h := HA.out.put i (bits .and .u64 z 67108863)
    rw [List.set_set,← s1] at h
    exact h)
   have HS2 := hI' s2
   have HQ : Hid (∀ W,Hid (xK8 w (xs.set i z) W) → W.cell? ⟨w.heap.size,i,none⟩ = some (.int .u64 z) ∧ W.frozen? ⟨w.heap.size,i,none⟩ = false) := hI' (fun W h => by
    have q := h.out.st.cell (i := i) (by rw [List.length_set]; omega)
    rw [List.getD_eq_getElem?_getD,List.getElem?_set_self (by omega)] at q
    exact ⟨q,h.out.st.free i⟩)
   clear hx hz s1 s2 hr hlx hl5
   go_upto_region 6 with fail
   rw [HZ.out]
   clear q0 q1 u0 u1
   revert HB
   refine (fun (h : ∀ W3,Hid (xK8 w (xs.set i z) W3) → Hid (xK8 w x1 (W3.setCell ⟨w.heap.size,i,none⟩ (.int .u64 (bits .and .u64 z 67108863)))) → Code.wp _ _ _ _ W3) => h _ HA) ?_
   clear HA
   intro w3 hw3 HB
   obtain ⟨q0,q1⟩ := HQ.out w3 hw3
   clear HQ
   go_wp2
   refine ⟨⟨i + 1,by omega,?_,?_,?_⟩,?_⟩
   ·exact congrArg (Value.int .i64) (by omega)
   ·rw [HO1.out,HS2.out]
   ·rw [HX1.out]
    exact HB
   ·simp [intOf]
    omega
  ·have hi5 : i = 5 := by omega
   have hP := HP.out i hi5
   obtain ⟨u0,u1⟩ := HU.out i 0
   generalize (yM ws i).2 = o at v0 v1 hP ⊢
   have hl5 := HL.out i
   generalize (yM ws i).1 = xs at hr hl5 u0 u1 hP
   have q0 := hr.out.st.cell (i := 0) (by omega)
   have q1 := hr.out.st.free 0
   obtain ⟨x,hx⟩ : ∃ x,xs.getD 0 0 = x := ⟨_,rfl⟩
   rw [hx] at q0 u0 u1 hP
   obtain ⟨z,hz⟩ : ∃ z,IntKind.u64.wrap (x + 5 * o) = z := ⟨_,rfl⟩
   rw [hz] at hP
   have HZ := hI' hz
   have HF := hI' hP
   have HA : Hid (xK8 w (xs.set 0 z) (wr.setCell ⟨w.heap.size,0,none⟩ (.int .u64 z))) := hI' (hr.out.put 0 z)
   have HI : Hid ((Tryz.prog.info? 276).map (·.size) = some (xG (xs.set 0 z)).size) := hI' (xBt (by rw [List.length_set]; exact hl5))
   have HZ5 : Hid ((xG (List.replicate 5 0)).size = (xG (xs.set 0 z)).size) := hI' (by rw [xV,xV,List.length_set,hl5]; rfl)
   have hneg : ¬ ((i : Int) < 5) := by omega
   clear hx hz hP HP hr hl5 hi5 hlt hi
   go_upto_region 10 with fail
   rw [HZ.out]
   clear q0 q1 u0 u1 v0 v1
   refine (fun (h : ∀ W3,Hid (xK8 w (xs.set 0 z) W3) → Code.wp _ _ _ _ W3) => h _ HA) ?_
   clear HA
   intro w3 hw3
   refine wp_region_lit ?_
   refine wpList_load_row rfl _ _ rfl w.heap.size rfl _ (xG (xs.set 0 z)) (0,0) _ hw3.out.st Tryz.underlying276 rfl HI.out ?_
   refine wpList_store_row rfl _ _ _ rfl (w.heap.size + 1) (xG (xs.set 0 z)) rfl rfl _ _ hw3.out.res HI.out HZ5.out (xS _) ?_
   go_wp2
   refine bodyPost_ret (results_cell_row rfl _ _ (w.heap.size + 1) _ _ (0,0) _ rfl (setRow_heap _ _ _ _ _ _ hw3.out.res) Tryz.underlying276 rfl HI.out) rfl ?_
   rw [HF.out]
   exact ⟨rfl,below_setRow hw3.out.bel (by omega) _⟩
end Go.Proofs.SH

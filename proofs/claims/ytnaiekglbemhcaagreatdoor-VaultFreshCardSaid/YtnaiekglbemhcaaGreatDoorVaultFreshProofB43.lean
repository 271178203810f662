/- Contracts of functions of the program. Conditions: those that each theorem states. -/
import Derived.Test.YtnaiekglbemhcaaGreatDoorVaultFreshProofB42
import Derived.WalkKit
import Derived.ProofKit
import Derived.HandedShaped
import Derived.Below
import Derived.ChangeSame
import Derived.Carry
import Derived.Deep.DeepHandedRow
import Derived.Deep.Fields
import Derived.Lib.SmallJoins
import Derived.Test.YtnaiekglbemhcaaGreatDoorVaultFreshProofB04
import Derived.Lib.LaidTab
import Derived.KernelRfl
set_option maxHeartbeats 8000000
set_option maxRecDepth 100000
namespace Go.Proofs.VA
open Go.RowKit Mailsack MM BB SH SV RK DS IX Go.Proofs.ST
structure FrJ (w1 : World) (D : Dk) (ae : Int) (L : Nat → Bool) (α : Nat → Value) (W : World) : Prop where
 b : Below w1.heap.size w1 W
 f : L 0 = true → L 4 = false → ∃ va vb,α 0 = .agg #[va,vb] ∧ RdD W W.heap.size va vb kM
 a : L 4 = true → ∃ va vb,α 4 = .tuple #[.agg #[va,vb],.int .i64 ae] ∧ RdD W W.heap.size va vb D ∧ (L 5 = true → α 5 = .tuple #[.agg #[va,vb],.int .i64 ae]) ∧ (L 6 = true → α 6 = .agg #[va,vb]) ∧ (L 9 = true → ∃ g,α 8 = .pointer (some ⟨g,0,none⟩) ∧ W.heap[g]? = some (yD va vb))
 c : L 9 = true → L 8 = true
 n : L 8 = true → ∃ g,α 8 = .pointer (some ⟨g,0,none⟩) ∧ w1.heap.size ≤ g ∧ (L 9 = false → W.heap[g]? = some xIc)
theorem FrJ.congr {w1 : World} {D : Dk} {ae : Int} {L L' : Nat → Bool} {α α' : Nat → Value} {W : World} (h : FrJ w1 D ae L α W) (hl : ∀ i,i = 0 ∨ i = 4 ∨ i = 5 ∨ i = 6 ∨ i = 8 ∨ i = 9 → L i = L' i) (ha : ∀ i,i = 0 ∨ i = 4 ∨ i = 5 ∨ i = 6 ∨ i = 8 → L i = true → α i = α' i) : FrJ w1 D ae L' α' W := by
 have h98 := h.c
 have l0 := hl 0 (by simp)
 have l4 := hl 4 (by simp)
 have l5 := hl 5 (by simp)
 have l6 := hl 6 (by simp)
 have l8 := hl 8 (by simp)
 have l9 := hl 9 (by simp)
 refine ⟨h.b,fun e f4 => ?_,fun e => ?_,fun e => l8.symm.trans (h98 (l9.trans e)),fun e => ?_⟩
 ·rw [← ha 0 (by simp) (l0.trans e)]; exact h.f (l0.trans e) (l4.trans f4)
 ·obtain ⟨va,vb,h1,h2,h2',h3,h4⟩ := h.a (l4.trans e)
  refine ⟨va,vb,by rw [← ha 4 (by simp) (l4.trans e)]; exact h1,h2,fun e5 => by rw [← ha 5 (by simp) (l5.trans e5)]; exact h2' (l5.trans e5),fun e6 => by rw [← ha 6 (by simp) (l6.trans e6)]; exact h3 (l6.trans e6),fun e9 => ?_⟩
  obtain ⟨g,h5,h6⟩ := h4 (l9.trans e9)
  exact ⟨g,by rw [← ha 8 (by simp) (h98 (l9.trans e9))]; exact h5,h6⟩
 ·obtain ⟨g,h1,h2,h3⟩ := h.n (l8.trans e)
  exact ⟨g,by rw [← ha 8 (by simp) (l8.trans e)]; exact h1,h2,fun e9 => h3 (l9.trans e9)⟩
theorem xRk (u pw o xO xD priv : ByteArray) (r : Int) (w : World) (hT : vT w) (h1 : 100 < u.size ∨ 100 < pw.size ∨ 100 < o.size ∨ (300 : Int) < Go.RowKit.wrap64 (Go.RowKit.wrap64 ((xO.size : Int) + (xD.size : Int)) + (priv.size : Int))) :
  Calls Tryz.prog 3 #[.string u,.string pw,xB3 xO xD priv r,.string o] w fun e w' => e = .returned (.bool true) ∧ Below w.heap.size w w' := by
 have H0 := hI' (And.intro (xM w (uO xO xD priv r)) ((Below.refl w.heap.size w).alloc (Nat.le_refl _) (uO xO xD priv r)))
 have HAW := hI' (fun W (hb : Below w.heap.size w W) => xLv W (hT.below hb (Nat.le_refl _)))
 clear hT
 go_enter Tryz.func3,Tryz.ntmps3
 go_upto_region 1 with fail
 obtain ⟨w1,hw1⟩ : ∃ w1,w.alloc (uO xO xD priv r) = w1 := ⟨_,rfl⟩
 rw [hw1] at H0
 rw [hw1]
 clear hw1
 have H1 := H0
 clear H0
 have hb := H1.out.1
 obtain ⟨c0,c1,c2,c3⟩ := xM5 hb
 clear hb
 by_cases k1 : 100 < u.size
 ·have k1' : (100 : Int) < (u.size : Int) := by omega
  go_wp2_with fail
  refine (HAW.out _ H1.out.2).mono ?_
  rintro e w2 ⟨rfl,hb2⟩
  have HB := hI' (H1.out.2.trans (hb2.mono H1.out.2.size))
  clear hb2 H1 HAW
  go_wp2
  go_ret
  exact ⟨rfl,HB.out⟩
 ·have k1' : ¬ ((100 : Int) < (u.size : Int)) := by omega
  by_cases k2 : 100 < pw.size
  ·have k2' : (100 : Int) < (pw.size : Int) := by omega
   go_wp2_with fail
   refine (HAW.out _ H1.out.2).mono ?_
   rintro e w2 ⟨rfl,hb2⟩
   have HB := hI' (H1.out.2.trans (hb2.mono H1.out.2.size))
   clear hb2 H1 HAW
   go_wp2
   go_ret
   exact ⟨rfl,HB.out⟩
  ·have k2' : ¬ ((100 : Int) < (pw.size : Int)) := by omega
   by_cases k3 : 100 < o.size
   ·have k3' : (100 : Int) < (o.size : Int) := by omega
    go_wp2_with fail
    refine (HAW.out _ H1.out.2).mono ?_
    rintro e w2 ⟨rfl,hb2⟩
    have HB := hI' (H1.out.2.trans (hb2.mono H1.out.2.size))
    clear hb2 H1 HAW
    go_wp2
    go_ret
    exact ⟨rfl,HB.out⟩
   ·have k3' : ¬ ((100 : Int) < (o.size : Int)) := by omega
    have k4 : (300 : Int) < Go.RowKit.wrap64 (Go.RowKit.wrap64 ((xO.size : Int) + (xD.size : Int)) + (priv.size : Int)) := by
     rcases h1 with h1 | h1 | h1 | h1
     ·exact absurd h1 k1
     ·exact absurd h1 k2
     ·exact absurd h1 k3
     ·exact h1
    go_wp2_with fail
    refine (HAW.out _ H1.out.2).mono ?_
    rintro e w2 ⟨rfl,hb2⟩
    have HB := hI' (H1.out.2.trans (hb2.mono H1.out.2.size))
    clear hb2 H1 HAW
    go_wp2
    go_ret
    exact ⟨rfl,HB.out⟩
theorem xRj (u pw o xO xD priv : ByteArray) (r : Int) (w : World) (hT : vT w) (h1 : u.size ≤ 100 ∧ pw.size ≤ 100 ∧ o.size ≤ 100) (k4 : ¬ ((300 : Int) < Go.RowKit.wrap64 (Go.RowKit.wrap64 ((xO.size : Int) + (xD.size : Int)) + (priv.size : Int)))) :
  Calls Tryz.prog 3 #[.string u,.string pw,xB3 xO xD priv r,.string o] w fun e w' => e = .returned (.bool true) ∧ Below w.heap.size w w' := by
 have H0 := hI' (And.intro (xM w (uO xO xD priv r)) ((Below.refl w.heap.size w).alloc (Nat.le_refl _) (uO xO xD priv r)))
 have HAW := hI' (fun W (hb : Below w.heap.size w W) => xLv W (hT.below hb (Nat.le_refl _)))
 obtain ⟨ae,D,HAD,HDD⟩ : ∃ ae D,Hid (∀ W va vb,RdD W W.heap.size va vb kM → Below w.heap.size w W → Calls Tryz.prog 6 #[.agg #[va,vb],.string u,.string pw,xB3 xO xD priv r] W fun e w' => ∃ va' vb',e = .returned (.tuple #[.agg #[va',vb'],.int .i64 ae]) ∧ RdD w' w'.heap.size va' vb' D ∧ Below W.heap.size W w') ∧ Hid ((ae = 1 ∧ (yS u && yY xO xD priv r) = false) ∨ (ae = 0 ∧ ∃ rn : Nat,r = (rn : Int) ∧ yS u = true ∧ yY xO xD priv (rn : Int) = true ∧ D = frD u pw xO xD priv rn)) := by
  cases hok : (yS u && yY xO xD priv r) with
  | false =>
   refine ⟨1,⟨[],[]⟩,hI' fun W va vb hr hb => ?_,hI' (.inl ⟨rfl,rfl⟩)⟩
   refine (yC5 va vb kM u pw xO xD priv r W hr (by omega) hok).mono ?_
   rintro e w' ⟨rfl,hb'⟩
   exact ⟨_,_,rfl,⟨⟨none,0,rfl,Nat.le_refl _,fun h => absurd h (by decide)⟩,⟨none,0,rfl,Nat.le_refl _,fun h => absurd h (by decide)⟩,Nat.zero_le _,Nat.zero_le _⟩,hb'⟩
  | true =>
   rw [Bool.and_eq_true] at hok
   obtain ⟨rn,rfl⟩ : ∃ rn : Nat,r = (rn : Int) := by
    have := hok.2
    unfold yY vN at this
    simp only [Bool.and_eq_true,decide_eq_true_eq] at this
    exact ⟨r.toNat,by omega⟩
   refine ⟨0,frD u pw xO xD priv rn,hI' fun W va vb hr hb => ?_,hI' (.inr ⟨rfl,rn,rfl,hok.1,hok.2,rfl⟩)⟩
   have := add_ok va vb kM u pw xO xD priv rn W hr hok.1 hok.2 (by omega) (yBq _) (by decide) (hT.below hb (Nat.le_refl _))
   rw [(xEc (pw := pw) hok.1 hok.2).1] at this
   exact this
 have HFM := hI' (fun W => xVg W)
 have HT := hI' hT
 clear hT
 obtain ⟨g1,g2,g3⟩ := h1
 have k1 : ¬ ((100 : Int) < (u.size : Int)) := by omega
 have k2 : ¬ ((100 : Int) < (pw.size : Int)) := by omega
 have k3 : ¬ ((100 : Int) < (o.size : Int)) := by omega
 go_enter Tryz.func3,Tryz.ntmps3
 go_upto_region 1 with fail
 obtain ⟨w1,hw1⟩ : ∃ w1,w.alloc (uO xO xD priv r) = w1 := ⟨_,rfl⟩
 rw [hw1] at H0
 rw [hw1]
 clear hw1
 have hb := H0.out.1
 obtain ⟨c0,c1,c2,c3⟩ := xM5 hb
 clear hb
 go_upto_region 3 with fail
 clear c0 c1 c2 c3
 refine RG.uU [9] [0,4,5,6,8] (fun L α W => Hid (FrJ w1 D ae L α W)) (fun L L' α α' W hl ha h => hI' (h.out.congr (fun i hi => hl i (by simp; omega)) (fun i hi => ha i (by simp; omega)))) (by kernel_rfl) (by kernel_rfl) (by kernel_rfl) (hI' ⟨(Below.refl _ _).drew,fun e _ => (by cases e),fun e => (by cases e),fun e => (by cases e),fun e => (by cases e)⟩) ?_
 apply RG.xFd
 ·rfl
 ·intro α L w9 h0 hcl xH hw9
  have e4 : L 4 = false := hcl.not 11 (i := 4) h0 (by kernel_rfl)
  have e9 : L 9 = false := hcl.not 11 (i := 9) h0 (by kernel_rfl)
  repeat go_step
  refine (HFM.out _).mono ?_
  rintro e w10 ⟨va,vb,rfl,hr,hb⟩
  simp only []
  repeat go_step
  refine ⟨rfl,_,rfl,?_⟩
  refine hI' ⟨hw9.out.b.trans (hb.mono hw9.out.b.size),fun _ _ => ⟨va,vb,RG.uM _ _ _,hr⟩,fun e => absurd (show L 4 = true by simpa using e) (by rw [e4]; simp),fun e => absurd (show L 9 = true by simpa using e) (by rw [e9]; simp),fun e => ?_⟩
  obtain ⟨g,n1,n2,n3⟩ := hw9.out.n (by simpa using e)
  exact ⟨g,n1,n2,fun _ => xE (n3 e9) hb (xI (n3 e9))⟩
 ·intro b α; rfl
 iterate 2
  apply RG.yL
  ·rfl
  ·rfl
  ·intro α L w9 h0 hcl xH hw9
   repeat go_step
   with_reducible exact RG.xB hw9
  ·intro α; rfl
 apply RG.yL
 ·rfl
 ·rfl
 ·intro α L w9 h0 hcl xH hw9
  have hb := xE H0.out.1 hw9.out.b (xI H0.out.1)
  obtain ⟨c0,c1,c2,c3⟩ := xM5 hb
  repeat go_step
  with_reducible exact RG.xB hw9
 ·intro α; rfl
 apply RG.xFd
 ·rfl
 ·intro α L w9 h0 hcl xH hw9
  have f0 : L 0 = true := by
   have := xH.yes 11 (i := 4) (j := 0) (by simp) (by kernel_rfl)
   simpa using this
  have e5 : L 5 = false := hcl.not 11 (i := 5) h0 (by kernel_rfl)
  have e6 : L 6 = false := hcl.not 11 (i := 6) h0 (by kernel_rfl)
  have e9 : L 9 = false := hcl.not 11 (i := 9) h0 (by kernel_rfl)
  obtain ⟨va,vb,q1,q2⟩ := hw9.out.f f0 h0
  have Q1 := hI' q1
  rw [show α 0 = _ from q1]
  clear q1
  repeat go_step
  refine (HAD.out _ _ _ q2 (H0.out.2.trans (hw9.out.b.mono H0.out.2.size))).mono ?_
  rintro e w10 ⟨va',vb',rfl,hr,hb⟩
  simp only []
  repeat go_step
  refine ⟨rfl,_,rfl,?_⟩
  refine hI' ⟨hw9.out.b.trans (hb.mono hw9.out.b.size),fun _ e => absurd (show (4 == 0 + 1 + 1 + 1 + 1 || L 4) = false from e) (by simp),fun _ => ⟨va',vb',RG.uM _ _ _,hr,fun e => absurd (show L 5 = true by simpa using e) (by rw [e5]; simp),fun e => absurd (show L 6 = true by simpa using e) (by rw [e6]; simp),fun e => absurd (show L 9 = true by simpa using e) (by rw [e9]; simp)⟩,fun e => absurd (show L 9 = true by simpa using e) (by rw [e9]; simp),fun e => ?_⟩
  obtain ⟨g,n1,n2,n3⟩ := hw9.out.n (by simpa using e)
  exact ⟨g,n1,n2,fun _ => xE (n3 e9) hb (xI (n3 e9))⟩
 ·intro b α; rfl
 apply RG.xFd
 ·rfl
 ·intro α L w9 h0 hcl xH hw9
  have f4 : L 4 = true := by
   have := xH.yes 11 (i := 5) (j := 4) (by simp) (by kernel_rfl)
   simpa using this
  have e6 : L 6 = false := hcl.not 11 (i := 6) h0 (by kernel_rfl)
  have e9 : L 9 = false := hcl.not 11 (i := 9) h0 (by kernel_rfl)
  obtain ⟨va,vb,q1,q2,_,q3,q4⟩ := hw9.out.a f4
  have Q1 := hI' q1
  clear q1
  repeat go_step
  refine ⟨rfl,_,rfl,?_⟩
  refine hI' ⟨hw9.out.b,fun e e4 => hw9.out.f (by simpa using e) (by simpa using e4),fun _ => ⟨va,vb,Q1.out,q2,fun _ => (RG.uM _ _ _).trans Q1.out,fun e => absurd (show L 6 = true by simpa using e) (by rw [e6]; simp),fun e => absurd (show L 9 = true by simpa using e) (by rw [e9]; simp)⟩,fun e => absurd (show L 9 = true by simpa using e) (by rw [e9]; simp),fun e => ?_⟩
  obtain ⟨g,n1,n2,n3⟩ := hw9.out.n (by simpa using e)
  exact ⟨g,n1,n2,fun _ => n3 e9⟩
 ·intro b α; rfl
 apply RG.kN
 ·rfl
 ·intro α L w9 h0 hcl xH hw9
  have f4 : L 4 = true := by
   have := xH.yes 11 (i := 6) (j := 4) (by simp) (by kernel_rfl)
   simpa using this
  have f5 : L 5 = true := by
   have := xH.yes 11 (i := 6) (j := 5) (by simp) (by kernel_rfl)
   simpa using this
  have e9 : L 9 = false := hcl.not 11 (i := 9) h0 (by kernel_rfl)
  obtain ⟨va,vb,q1,q2,q5,q3,q4⟩ := hw9.out.a f4
  have Q5 := hI' (q5 f5)
  have Q1 := hI' q1
  have Q2 := hI' q2
  refine ⟨.agg #[va,vb],fun bv hbv => ?_⟩
  rw [show α (0 + 1 + 1 + 1 + 1 + 1) = _ from Q5.out]
  clear q1 q2 q3 q4 q5
  repeat go_step
  rw [← show α (0 + 1 + 1 + 1 + 1 + 1) = _ from Q5.out,← hbv]
  with_reducible refine RG.xB ?_
  refine hI' ⟨hw9.out.b,fun e e4 => hw9.out.f (by simpa using e) (by simpa using e4),fun _ => ⟨va,vb,Q1.out,Q2.out,fun _ => Q5.out,fun _ => (RG.uM _ _ _).trans hbv,fun e => absurd (show L 9 = true by simpa using e) (by rw [e9]; simp)⟩,fun e => absurd (show L 9 = true by simpa using e) (by rw [e9]; simp),fun e => ?_⟩
  obtain ⟨g,n1,n2,n3⟩ := hw9.out.n (by simpa using e)
  exact ⟨g,n1,n2,fun _ => n3 e9⟩
 ·intro b α; rfl
 apply RG.yL (v := .int .i64 ae)
 ·rfl
 ·rfl
 ·intro α L w9 h0 hcl xH hw9
  have f4 : L 4 = true := by
   have := xH.yes 11 (i := 7) (j := 4) (by simp) (by kernel_rfl)
   simpa using this
  have f5 : L 5 = true := by
   have := xH.yes 11 (i := 7) (j := 5) (by simp) (by kernel_rfl)
   simpa using this
  obtain ⟨va,vb,q1,q2,q5,q3,q4⟩ := hw9.out.a f4
  have Q5 := hI' (q5 f5)
  rw [show α (0 + 1 + 1 + 1 + 1 + 1) = _ from Q5.out]
  clear q1 q2 q3 q4 q5
  repeat go_step
  rw [← show α (0 + 1 + 1 + 1 + 1 + 1) = _ from Q5.out]
  with_reducible exact RG.xB hw9
 ·intro α; rfl
 apply RG.kN
 ·rfl
 ·intro α L w9 h0 hcl xH hw9
  have e9 : L 9 = false := hcl.not 11 (i := 9) h0 (by kernel_rfl)
  refine ⟨.pointer (some ⟨w9.heap.size,0,none⟩),fun bv hbv => ?_⟩
  repeat go_step
  rw [← hbv]
  with_reducible refine RG.xB ?_
  have hal := (Below.refl w9.heap.size w9).alloc (Nat.le_refl _) xIc
  refine hI' ⟨hw9.out.b.trans (hal.mono hw9.out.b.size),fun e e4 => ?_,fun e => ?_,fun e => absurd (show L 9 = true by simpa using e) (by rw [e9]; simp),fun _ => ⟨w9.heap.size,(RG.uM _ _ _).trans hbv,hw9.out.b.size,fun _ => xM _ _⟩⟩
  ·obtain ⟨va,vb,q1,q2⟩ := hw9.out.f (by simpa using e) (by simpa using e4)
   exact ⟨va,vb,q1,(q2.below hal (Nat.le_refl _)).more hal.size⟩
  ·obtain ⟨va,vb,q1,q2,q3,q4,_⟩ := hw9.out.a (by simpa using e)
   exact ⟨va,vb,q1,(q2.below hal (Nat.le_refl _)).more hal.size,fun e5 => q3 (by simpa using e5),fun e6 => q4 (by simpa using e6),fun e => absurd (show L 9 = true by simpa using e) (by rw [e9]; simp)⟩
 ·intro b α; rfl
 apply RG.xCj (v := undef)
 ·rfl
 ·rfl
 ·intro α L w9 h0 hcl xH hw9
  have f8 : L 8 = true := by
   have := xH.yes 11 (i := 9) (j := 8) (by simp) (by kernel_rfl)
   simpa using this
  have f6 : L 6 = true := by
   have := xH.yes 11 (i := 9) (j := 6) (by simp) (by kernel_rfl)
   simpa using this
  have f4 : L 4 = true := by
   have := xH.yes 11 (i := 9) (j := 4) (by simp) (by kernel_rfl)
   simpa using this
  obtain ⟨va,vb,q1,q2,q3,q4,_⟩ := hw9.out.a f4
  obtain ⟨g,n1,n2,n3⟩ := hw9.out.n f8
  have hx := n3 h0
  obtain ⟨A1,c1,A2,c2,rfl,rfl⟩ := yH q2
  have HS := hI' (xLh hx q2)
  have Q6 := hI' (q4 f6)
  have N1 := hI' n1
  have Q1 := hI' q1
  have Q3 := hI' q3
  obtain ⟨o0,y0,f0,o1,y1,f1,HB⟩ := xNv hx hw9.out.b (by omega) (.slice A1 D.secs.length c1) (.slice A2 D.cache.length c2) _ rfl
  have hx2 := uS (b := g) (l := [.slice A1 D.secs.length c1,.slice A2 D.cache.length c2]) hx rfl
  simp only [yR,Nat.reduceAdd] at hx2
  have HX := hI' hx2
  rw [show α (0 + 1 + 1 + 1 + 1 + 1 + 1) = _ from Q6.out,show α (0 + 1 + 1 + 1 + 1 + 1 + 1 + 1 + 1) = _ from N1.out]
  clear hx hx2 q1 q2 q3 q4 n1 n3
  repeat go_step
  rw [← show α (0 + 1 + 1 + 1 + 1 + 1 + 1) = _ from Q6.out,← show α (0 + 1 + 1 + 1 + 1 + 1 + 1 + 1 + 1) = _ from N1.out]
  with_reducible refine RG.xB ?_
  exact hI' ⟨HB.out,fun _ e4 => absurd (show L 4 = false by simpa using e4) (by rw [f4]; simp),fun _ => ⟨_,_,Q1.out,HS.out,fun e => Q3.out (by simpa using e),fun _ => Q6.out,fun _ => ⟨g,N1.out,HX.out⟩⟩,fun _ => by simpa using f8,fun _ => ⟨g,N1.out,n2,fun e => by simp at e⟩⟩
 ·intro α; rfl
 apply RG.yL
 ·rfl
 ·rfl
 ·intro α L w9 h0 hcl xH hw9
  repeat go_step
  with_reducible exact RG.xB hw9
 ·intro α; rfl
 refine RG.rY (fun α w2 hw2 => ?_)
 obtain ⟨va,vb,q1,q2,q5,q6,q9⟩ := hw2.out.a rfl
 obtain ⟨g,p8,hx⟩ := q9 rfl
 have q5 := q5 rfl
 have q6 := q6 rfl
 have H2 := hI' (And.intro q2 (And.intro hx (And.intro (H0.out.2.trans (hw2.out.b.mono H0.out.2.size)) (xE H0.out.1 hw2.out.b (xI H0.out.1)))))
 simp only [Nat.zero_add,Nat.reduceAdd]
 clear hw2 q2 hx q9 HAD HFM H0
 rcases HDD.out with ⟨rfl,hbad⟩ | ⟨rfl,rn,rfl,hu,hf,rfl⟩
 ·rw [show α 8 = _ from p8,show α 6 = _ from q6,show α 5 = _ from q5,show α 4 = _ from q1]
  clear p8 q1 q5 q6
  have HRU := hI' (fun W => tH u W (by omega))
  have hc := H2.out.2.2.2
  obtain ⟨c0,c1,c2,c3⟩ := xM5 hc
  clear hc
  have H1 := hI' (And.intro trivial H2.out.2.2.1)
  clear H2 HDD HT
  go_wp2_with fail
  refine (HRU.out _).mono ?_
  rintro e w3 ⟨rfl,hw3⟩
  rw [hw3]
  clear hw3 w3 HRU
  unfold yY vN at hbad
  cases hru : yS u with
  | false =>
   clear hbad
   go_wp2_with fail
   refine (HAW.out _ H1.out.2).mono ?_
   rintro e w2 ⟨rfl,hb2⟩
   have HB := hI' (H1.out.2.trans (hb2.mono H1.out.2.size))
   clear hb2 H1 HAW
   go_wp2
   go_ret
   exact ⟨rfl,HB.out⟩
  | true =>
   rw [hru,Bool.true_and] at hbad
   have hbad : ¬ (xO.size = 16 ∧ xD.size = 12 ∧ 1 ≤ r ∧ r ≤ 64 ∧ priv.size = 32) := by
    rintro ⟨b1,b2,b3,b4,b5⟩
    rw [b1,b2,b5,decide_eq_true b3,decide_eq_true b4] at hbad
    exact absurd hbad (by decide)
   by_cases b1 : xO.size = 16
   ·have d1 : ((xO.size : Int) == 16) = true := by simp; omega
    have d1' : ((xO.size : Int) != 16) = false := by simp; omega
    by_cases b2 : xD.size = 12
    ·have d2 : ((xD.size : Int) == 12) = true := by simp; omega
     have d2' : ((xD.size : Int) != 12) = false := by simp; omega
     by_cases b5 : priv.size = 32
     ·have d5 : ((priv.size : Int) == 32) = true := by simp; omega
      have d5' : ((priv.size : Int) != 32) = false := by simp; omega
      by_cases b3 : 1 ≤ r
      ·have d3 : ¬ (r < 1) := by omega
       have d4 : 64 < r := by omega
       clear hbad b1 b2 b5 b3
       go_wp2_with fail
       refine (HAW.out _ H1.out.2).mono ?_
       rintro e w2 ⟨rfl,hb2⟩
       have HB := hI' (H1.out.2.trans (hb2.mono H1.out.2.size))
       clear hb2 H1 HAW
       go_wp2
       go_ret
       exact ⟨rfl,HB.out⟩
      ·have d3 : r < 1 := by omega
       clear hbad b1 b2 b5 b3
       go_wp2_with fail
       refine (HAW.out _ H1.out.2).mono ?_
       rintro e w2 ⟨rfl,hb2⟩
       have HB := hI' (H1.out.2.trans (hb2.mono H1.out.2.size))
       clear hb2 H1 HAW
       go_wp2
       go_ret
       exact ⟨rfl,HB.out⟩
     ·have d5 : ((priv.size : Int) == 32) = false := by simp; omega
      have d5' : ((priv.size : Int) != 32) = true := by simp; omega
      clear hbad b1 b2 b5
      go_wp2_with fail
      refine (HAW.out _ H1.out.2).mono ?_
      rintro e w2 ⟨rfl,hb2⟩
      have HB := hI' (H1.out.2.trans (hb2.mono H1.out.2.size))
      clear hb2 H1 HAW
      go_wp2
      go_ret
      exact ⟨rfl,HB.out⟩
    ·have d2 : ((xD.size : Int) == 12) = false := by simp; omega
     have d2' : ((xD.size : Int) != 12) = true := by simp; omega
     clear hbad b1 b2
     go_wp2_with fail
     refine (HAW.out _ H1.out.2).mono ?_
     rintro e w2 ⟨rfl,hb2⟩
     have HB := hI' (H1.out.2.trans (hb2.mono H1.out.2.size))
     clear hb2 H1 HAW
     go_wp2
     go_ret
     exact ⟨rfl,HB.out⟩
   ·have d1 : ((xO.size : Int) == 16) = false := by simp; omega
    have d1' : ((xO.size : Int) != 16) = true := by simp; omega
    clear hbad b1
    go_wp2_with fail
    refine (HAW.out _ H1.out.2).mono ?_
    rintro e w2 ⟨rfl,hb2⟩
    have HB := hI' (H1.out.2.trans (hb2.mono H1.out.2.size))
    clear hb2 H1 HAW
    go_wp2
    go_ret
    exact ⟨rfl,HB.out⟩
 ·obtain ⟨-,hst,-⟩ := xEc (pw := pw) hu hf
  obtain ⟨hae,har⟩ := yBn (pw := pw) hu hf
  have hao : xCh (frD u pw xO xD priv rn) o = if o = u then 0 else 6 := by
   split
   ·rename_i e; rw [e]; exact hae
   ·rename_i e; exact xYg (pw := pw) hu hf e
  obtain ⟨huE,huL⟩ := fr_unl (pw := pw) hu hf
  obtain ⟨hoE,hoI⟩ := yBm (pw := pw) hu hf
  have hn113 := xI8 (pw := pw) hu hf (k := 113) (by decide) (by decide) u.data.toList
  have hn109 := xI8 (pw := pw) hu hf (k := 109) (by decide) (by decide) u.data.toList
  have hsz := kL (tO (pw := pw) hu hf)
  have hps : priv.size = 32 := by
   unfold yY at hf
   simp only [Bool.and_eq_true,decide_eq_true_eq] at hf
   exact hf.2
  generalize frD u pw xO xD priv rn = D at *
  rw [show α 8 = _ from p8,show α 6 = _ from q6,show α 5 = _ from q5,show α 4 = _ from q1]
  clear p8 q1 q5 q6
  have hus : (xBu D u).user = u := by rw [har]; rfl
  rw [← har] at huE huL hsz
  have HLG := hI' (fun W va vb (h : RdD W W.heap.size va vb D) (hb : Below w.heap.size w W) => xXw va vb D u pw xD priv W h (by omega) (by omega) (by have := (hsz.2.2.2.2.2.2.2.2.1); rw [har] at this; exact this) hae (by rw [hus]; omega) huE huL (by omega) hoE hn113 (HT.out.below hb (Nat.le_refl _)))
  have HNB := hI' (fun W va vb (h : RdD W W.heap.size va vb D) => xCa va vb D ⟨#[109]⟩ u W h (by decide) (by omega))
  have HSM := hI' (fun W va vb ua ub (h : RdD W W.heap.size va vb D) (h2 : RdD W W.heap.size ua ub D) => xCy va vb ua ub D W h h2 hst.right.2)
  have HA1 := hI' (fun W va vb (h : RdD W W.heap.size va vb D) => xAh va vb D u W h (by omega))
  have HA2 := hI' (fun W va vb (h : RdD W W.heap.size va vb D) => xAh va vb D o W h (by omega))
  rw [hae] at HA1
  rw [show (⟨#[109]⟩ : ByteArray).data.toList = [109] from rfl,hn109] at HNB
  obtain ⟨A1,c1,A2,c2,rfl,rfl⟩ := yH H2.out.1
  have HUS := hI' hus
  have HAO := hI' hao
  clear hst hae har hao huE huL hoE hn113 hn109 hsz hps HDD hus
  rw [hoI] at HLG
  clear hoI
  generalize xBu D u = ar at HA1 HLG HUS
  obtain ⟨tu,ts,tr,te,tp,tn,tw,to_⟩ := ar
  simp only [pF] at HA1 HLG HUS
  have hb := H2.out.2.1
  obtain ⟨e0,e1⟩ := uG hb
  clear hb
  go_wp2_with fail
  refine (HA1.out _ _ _ H2.out.1).mono ?_
  rintro e w3 ⟨rfl,hb3⟩
  have hb4 := hb3.alloc hb3.size (yI ⟨tu,ts,tr,te,tp,tn,tw,to_⟩)
  have H4 := hI' (And.intro ((H2.out.1.below hb4 (Nat.le_refl _)).more hb4.size) (And.intro (xE H2.out.2.1 hb4 (xI H2.out.2.1)) (And.intro (H2.out.2.2.1.trans (hb4.mono H2.out.2.2.1.size)) (And.intro (xE H2.out.2.2.2 hb4 (xI H2.out.2.2.2)) (xM w3 (yI ⟨tu,ts,tr,te,tp,tn,tw,to_⟩))))))
  clear hb3 hb4 H2 HA1 e0 e1
  go_upto_region 7 with fail
  obtain ⟨w4,hw4⟩ : ∃ w4,w3.alloc (yI ⟨tu,ts,tr,te,tp,tn,tw,to_⟩) = w4 := ⟨_,rfl⟩
  rw [hw4] at H4
  simp only [yI] at hw4 H4
  rw [hw4]
  clear hw4
  generalize w3.heap.size = g3 at H4 ⊢
  have hb := H4.out.2.1
  obtain ⟨e0,e1⟩ := uG hb
  clear hb
  obtain ⟨ao,hao⟩ : ∃ ao,xCh D o = ao := ⟨_,rfl⟩
  rw [hao] at HA2 HAO
  clear hao
  generalize xBu D o = ar2 at HA2
  obtain ⟨tu2,ts2,tr2,te2,tp2,tn2,tw2,to2⟩ := ar2
  simp only [pF] at HA2
  go_wp2_with fail
  refine (HA2.out _ _ _ H4.out.1).mono ?_
  rintro e w5 ⟨rfl,hb5⟩
  have hb6 := hb5.alloc hb5.size (yI ⟨tu2,ts2,tr2,te2,tp2,tn2,tw2,to2⟩)
  have H6 := hI' (And.intro ((H4.out.1.below hb6 (Nat.le_refl _)).more hb6.size) (And.intro (xE H4.out.2.1 hb6 (xI H4.out.2.1)) (And.intro (H4.out.2.2.1.trans (hb6.mono H4.out.2.2.1.size)) (And.intro (xE H4.out.2.2.2.1 hb6 (xI H4.out.2.2.2.1)) (xE H4.out.2.2.2.2 hb6 (xI H4.out.2.2.2.2))))))
  clear hb5 hb6 H4 HA2 e0 e1
  go_upto_region 8 with fail
  obtain ⟨w6,hw6⟩ : ∃ w6,w5.alloc (yI ⟨tu2,ts2,tr2,te2,tp2,tn2,tw2,to2⟩) = w6 := ⟨_,rfl⟩
  rw [hw6] at H6
  simp only [yI] at hw6
  rw [hw6]
  clear hw6
  generalize w5.heap.size = g5
  have hb := H6.out.2.1
  obtain ⟨e0,e1⟩ := uG hb
  clear hb
  have hc := H6.out.2.2.2.1
  obtain ⟨y0,y1,y2,y3⟩ := xM5 hc
  clear hc
  go_wp2_with fail
  refine (HLG.out _ _ _ H6.out.1 H6.out.2.2.1).mono ?_
  rintro e w7 ⟨bv,sv,rfl,ho,hb7⟩
  obtain ⟨A7,k7,rfl,hk7,hbx⟩ := ho.rd.boxes
  obtain ⟨A8,k8,rfl,-⟩ := ho.rd.subs
  obtain ⟨b7,f7,rfl,hb7l,hbx⟩ := hbx (by decide)
  obtain ⟨mv,-,-,-,hm1,hm2⟩ := hbx 0 _ rfl
  obtain ⟨A9,k9,rfl,-⟩ := hm2
  rw [show newP.boxes.length = 1 from rfl,show newP.subs.length = 0 from rfl]
  have hb8 := (hb7.alloc hb7.size (xH9 u priv ⟨#[]⟩ te (.slice (some ⟨b7,f7,none⟩) 1 k7) (.slice A8 0 k8) newP.given)).alloc (Nat.le_trans hb7.size (by simp)) (yD (.slice A1 D.secs.length c1) (.slice A2 D.cache.length c2))
  have hbc : Below w7.heap.size w7 ((w7.alloc (xH9 u priv ⟨#[]⟩ te (.slice (some ⟨b7,f7,none⟩) 1 k7) (.slice A8 0 k8) newP.given)).alloc (yD (.slice A1 D.secs.length c1) (.slice A2 D.cache.length c2))) := ((Below.refl w7.heap.size w7).alloc (Nat.le_refl _) _).alloc (by simp) _
  have hmm : ((w7.alloc (xH9 u priv ⟨#[]⟩ te (.slice (some ⟨b7,f7,none⟩) 1 k7) (.slice A8 0 k8) newP.given)).alloc (yD (.slice A1 D.secs.length c1) (.slice A2 D.cache.length c2))).cell? ⟨b7,f7 + 0 * 4 + 3,none⟩ = some (.slice A9 0 k9) := (hbc.cell (p := ⟨b7,f7 + 0 * 4 + 3,none⟩) hb7l).trans hm1
  have H8 := hI' (And.intro ((H6.out.1.below hb8 (Nat.le_refl _)).more hb8.size) (And.intro (xE H6.out.2.1 hb8 (xI H6.out.2.1)) (And.intro (H6.out.2.2.1.trans (hb8.mono H6.out.2.2.1.size)) (And.intro (xE H6.out.2.2.2.1 hb8 (xI H6.out.2.2.2.1)) (And.intro (xE H6.out.2.2.2.2 hb8 (xI H6.out.2.2.2.2)) (And.intro (zQ w7 (xH9 u priv ⟨#[]⟩ te (.slice (some ⟨b7,f7,none⟩) 1 k7) (.slice A8 0 k8) newP.given) (yD (.slice A1 D.secs.length c1) (.slice A2 D.cache.length c2))) (And.intro (zM w7 (xH9 u priv ⟨#[]⟩ te (.slice (some ⟨b7,f7,none⟩) 1 k7) (.slice A8 0 k8) newP.given) (yD (.slice A1 D.secs.length c1) (.slice A2 D.cache.length c2))) hmm)))))))
  clear ho hb7 hbx hm1 hb7l hb8 hbc hmm H6 e0 e1 y0 y1 y2 y3 HLG hk7
  go_upto_region 9 with fail
  obtain ⟨w8,hw8⟩ : ∃ w8,(w7.alloc (xH9 u priv ⟨#[]⟩ te (.slice (some ⟨b7,f7,none⟩) 1 k7) (.slice A8 0 k8) newP.given)).alloc (yD (.slice A1 D.secs.length c1) (.slice A2 D.cache.length c2)) = w8 := ⟨_,rfl⟩
  rw [hw8] at H8
  simp only [xH9,yD] at hw8
  rw [hw8]
  clear hw8
  generalize w7.heap.size = g7 at H8 ⊢
  clear q5 q6 hbx hu hf g1 g2
  have ha := H8.out.2.2.2.2.1
  obtain ⟨a0,a1,a2,a3,a4,a5,a6,a7⟩ := xRx ha
  have hb := H8.out.2.1
  obtain ⟨e0,e1⟩ := uG hb
  have hc := H8.out.2.2.2.1
  obtain ⟨y0,y1,y2,y3⟩ := xM5 hc
  have hs := H8.out.2.2.2.2.2.1
  obtain ⟨s0,s1,s2,s3,s4,s5,s6⟩ := xPx hs
  have hd := H8.out.2.2.2.2.2.2.1
  obtain ⟨d0,d1⟩ := uG hd
  have hm := H8.out.2.2.2.2.2.2.2
  clear ha hb hc hs hd a1 a2 a3 a4 a5 a6 a7 y0 y1 y3 s3 s5 s6
  have hus := HUS.out
  subst hus
  by_cases ho : o = tu
  ·have hao := HAO.out
   rw [if_pos ho] at hao
   subst hao
   subst ho
   go_wp2_with fail
   refine (HSM.out _ _ _ _ _ H8.out.1 H8.out.1).mono ?_
   rintro e w9 ⟨rfl,hb9⟩
   have H9 := hI' (And.intro ((H8.out.1.below hb9 (Nat.le_refl _)).more hb9.size) (And.intro (xE H8.out.2.1 hb9 (xI H8.out.2.1)) (H8.out.2.2.1.trans (hb9.mono H8.out.2.2.1.size))))
   clear hb9 H8 HSM a0 e0 e1 y2 s0 s1 s2 s4 d0 d1 hm
   have hb := H9.out.2.1
   obtain ⟨e0,e1⟩ := uG hb
   clear hb
   go_wp2_with fail
   refine (HNB.out _ _ _ H9.out.1).mono ?_
   rintro e w10 ⟨v,rfl,hr10,yA⟩
   obtain ⟨A10,k10,rfl,-⟩ := hr10
   have H10 := hI' (H9.out.2.2.trans (yA.mono H9.out.2.2.size))
   clear yA H9 HNB e0 e1
   rw [show ([] : List Int).length = 0 from rfl]
   go_wp2_with fail
   refine (HAW.out _ H10.out).mono ?_
   rintro e w11 ⟨rfl,xZn⟩
   have HB := hI' (H10.out.trans (xZn.mono H10.out.size))
   clear xZn H10 HAW
   go_wp2
   go_ret
   exact ⟨rfl,HB.out⟩
  ·have hao := HAO.out
   rw [if_neg ho] at hao
   subst hao
   have hou : decide (o = tu) = false := decide_eq_false ho
   have hou3 : (o.toList == tu.toList) = false := by
    rw [beq_eq_false_iff_ne]
    intro e
    rw [ByteArray.toList_eq,ByteArray.toList_eq] at e
    exact ho (ByteArray.ext (Array.toList_inj.1 e))
   go_wp2_with fail
   refine (HSM.out _ _ _ _ _ H8.out.1 H8.out.1).mono ?_
   rintro e w9 ⟨rfl,hb9⟩
   have H9 := hI' (And.intro ((H8.out.1.below hb9 (Nat.le_refl _)).more hb9.size) (And.intro (xE H8.out.2.1 hb9 (xI H8.out.2.1)) (H8.out.2.2.1.trans (hb9.mono H8.out.2.2.1.size))))
   clear hb9 H8 HSM a0 e0 e1 y2 s0 s1 s2 s4 d0 d1 hm
   have hb := H9.out.2.1
   obtain ⟨e0,e1⟩ := uG hb
   clear hb
   go_wp2_with fail
   refine (HNB.out _ _ _ H9.out.1).mono ?_
   rintro e w10 ⟨v,rfl,hr10,yA⟩
   obtain ⟨A10,k10,rfl,-⟩ := hr10
   have H10 := hI' (H9.out.2.2.trans (yA.mono H9.out.2.2.size))
   clear yA H9 HNB e0 e1
   rw [show ([] : List Int).length = 0 from rfl]
   go_wp2_with fail
   refine (HAW.out _ H10.out).mono ?_
   rintro e w11 ⟨rfl,xZn⟩
   have HB := hI' (H10.out.trans (xZn.mono H10.out.size))
   clear xZn H10 HAW
   go_wp2
   go_ret
   exact ⟨rfl,HB.out⟩
theorem xVc (u pw o xO xD priv : ByteArray) (r : Int) (w : World) (hT : vT w) :
  Calls Tryz.prog 3 #[.string u,.string pw,xB3 xO xD priv r,.string o] w fun e w' => e = .returned (.bool true) ∧ Below w.heap.size w w' := by
 by_cases h1 : 100 < u.size ∨ 100 < pw.size ∨ 100 < o.size ∨ (300 : Int) < Go.RowKit.wrap64 (Go.RowKit.wrap64 ((xO.size : Int) + (xD.size : Int)) + (priv.size : Int))
 ·exact xRk u pw o xO xD priv r w hT h1
 ·refine xRj u pw o xO xD priv r w hT ⟨?_,?_,?_⟩ fun h => h1 (.inr (.inr (.inr h)))
  ·exact Nat.le_of_not_lt fun h => h1 (.inl h)
  ·exact Nat.le_of_not_lt fun h => h1 (.inr (.inl h))
  ·exact Nat.le_of_not_lt fun h => h1 (.inr (.inr (.inl h)))
end Go.Proofs.VA
namespace Go.Proofs.LE
open Go.ChangeShapes Go.WideShapes Go.ChangeAt Go.RowKit
section
variable {H : Type} {enc : TypeId × Value → H} {P : Program}
theorem xCp (hl : laidOutB P = true) {W W' : World} (hb : Below W.heap.size W W') {sp : Nat → Bool} : ∀ {ts : List TypeId} {vs : List Value} {ds : List (DataW H)} {ps : List MemPlace},
  (∀ t ∈ ts,P.readableRec t = true ∧ t < P.types.size) → DataW.TrodAll enc P W 0 (fun _ => true) true ts vs ds ps → (∀ x ∈ ps,x.block < W.heap.size) → (∀ x ∈ ps,sp x.block = true) →
  DataW.TrodAll enc P W' 0 sp true ts vs ds ps
 | [],[],[],ps,_,h,_,_ => h
 | t :: ts,v :: vs,d :: ds,ps,hr,h,hlt,hsp => by
  obtain ⟨p,q,h1,h2,rfl⟩ := h
  exact ⟨p,q,WideElems.Trod_stays hl (hr t (by simp)).1 (hr t (by simp)).2 h1 (fun x hx => hb.same (hlt x (by simp [hx]))) (fun x hx => hsp x (by simp [hx])),
   xCp hl hb (fun t ht => hr t (by simp [ht])) h2 (fun x hx => hlt x (by simp [hx])) (fun x hx => hsp x (by simp [hx])),rfl⟩
 | [],[],_ :: _,_,_,h,_,_ => h.elim
 | [],_ :: _,_,_,_,h,_,_ => h.elim
 | _ :: _,[],_,_,_,h,_,_ => h.elim
 | _ :: _,_ :: _,[],_,_,h,_,_ => h.elim
theorem xP1 {f : Func} {s : ChangeSpec} {apart fresh handsOn again : Bool} {W W' : World} {args : Array Value} {ds gs : List (DataW H)} {before : List MemPlace} {tb : TypeId}
  (hl : laidOutB P = true) (hr : ∀ t ∈ f.params.toList,P.readableRec t = true ∧ t < P.types.size) (hrt : f.resultTypes = #[tb]) (htb : P.underlying tb = some .bool)
  (hW : DataW.Whole enc P f.params.toList s.vars apart W args.toList ds gs before) (hv : s.vars = [])
  (hfn : s.fn H ds = { results := [.lit (.bool true)],args := ds }) (hb : Below W.heap.size W W') :
  s.post enc P f apart fresh handsOn again W args (.bool true) W' := by
 have hlt : ∀ p ∈ before,p.block < W.heap.size := fun p hp => hW.lt p hp
 have hold : ∀ p ∈ before,(fun b => decide (b < W.heap.size)) p.block = true := fun p hp => by simpa using hlt p hp
 have hW' := hW
 obtain ⟨p,q,hA,hV,rfl,hz,hn⟩ := hW
 rw [hv] at hV
 obtain ⟨rfl,rfl⟩ := trodVars_none hV
 simp only [List.append_nil] at *
 have hres : ∀ (b : Nat) (sp : Nat → Bool) (hd : Bool),DataW.TrodAll enc P W' b sp hd f.resultTypes.toList ((Value.bool true).resultList f.resultTypes.size) [.lit (.bool true)] [] := by
  intro b sp hd
  rw [hrt]
  exact trodAll_mk1 (shut_bool htb _)
 have hargs : ∀ sp : Nat → Bool,(∀ x ∈ p,sp x.block = true) → DataW.TrodAll enc P W' 0 sp true f.params.toList args.toList ds p := fun sp hsp => xCp hl hb hr hA hlt hsp
 refine ⟨ds,[],p,[],p,[],hW',?_,?_,?_,World.keptBut_mono (fun x hx => ⟨hx,?_⟩) (hb.frame (· ∈ p)),fun _ => ?_⟩
 ·rw [List.append_nil,hfn]; exact hres _ _ _
 ·rw [List.append_nil,hfn]; exact hargs _ hold
 ·rw [List.append_nil,hfn,hv]; rfl
 ·simp [hx]
 ·refine ⟨?_,_,[],([] ++ p) ++ [],⟨[] ++ p,[],trodAll_append (hargs _ (fun _ _ => rfl)) (hres _ _ _),?_,rfl,?_,?_⟩,?_⟩
  ·exact ok_one hrt rfl (okWide_bool_mk htb _)
  ·rw [hv]; rfl
  ·intro b off hp
   have hin : MemPlace.cell b off ∈ p := by simpa using hp
   rw [hb.frozen (hlt _ hin)]
   exact hz b off hin
  ·intro ha
   simpa using hn ha
  ·intro x hx _
   simpa using hx
theorem trodAll_length {W : World} {sp : Nat → Bool} {held : Bool} {base : Nat} : ∀ {ts : List TypeId} {vs : List Value} {ds : List (DataW H)} {ps : List MemPlace},DataW.TrodAll enc P W base sp held ts vs ds ps → ds.length = ts.length
 | [],[],[],_,_ => rfl
 | _ :: _,_ :: _,_ :: _,_,h => by
  obtain ⟨_,_,_,h2,_⟩ := h
  simp [trodAll_length h2]
 | [],[],_ :: _,_,h => h.elim
 | [],_ :: _,_,_,h => h.elim
 | _ :: _,[],_,_,h => h.elim
 | _ :: _,_ :: _,[],_,h => h.elim
theorem law_lifted {C : Checked} {os : Os} {f : FuncId} {fn : Func} {s : ChangeSpec} {conds : List PathCond} {apart fresh handsOn again : Bool} {tb : TypeId}
  (own : ownKnob C.prog.godebug = none) (started : os.Started) (noInit : C.prog.inits.idxOf? f = none) (hfn : C.prog.funcs[f]? = some fn)
  (witness : ∃ (w : World) (tape : Tape) (i : Input),w.os = os ∧ (w.forCall tape i).Shaped C.prog ∧ i.vars = [] ∧ Input.okWide C.prog (w.forCall tape i) .any w.heap.size f i ∧
   s.pre6 enc C.prog fn conds apart (w.forCall tape i).memory i.args ∧ Assume.holds {} C.prog (lone (Frame.enter C.prog f i.args .normal) [] (w.forCall tape i)))
  (hl : laidOutB C.prog = true) (hr : ∀ t ∈ fn.params.toList,C.prog.readableRec t = true ∧ t < C.prog.types.size) (hrt : fn.resultTypes = #[tb]) (htb : C.prog.underlying tb = some .bool)
  (hv : s.vars = []) (hs : ∀ ds : List (DataW H),ds.length = fn.params.toList.length → s.fn H ds = { results := [.lit (.bool true)],args := ds })
  (walk : ∀ (W : World) (base : Nat) (args : Array Value) (ds : List (DataW H)) (p : List MemPlace),
   (∀ (j : Nat) t v,fn.params[j]? = some t → args[j]? = some v → Value.okWide C.prog W .any base t v) →
   DataW.TrodAll enc C.prog W 0 (fun _ => true) true fn.params.toList args.toList ds p →
   (DataW.weightsEach C.prog (fn.params.toList ++ s.plain.varTypes C.prog) (ds ++ [])).all (· ≤ reachBytes) = true →
   W.ShapedOpen C.prog → Calls C.prog f args W fun e w' => e = .returned (.bool true) ∧ Below W.heap.size W w') :
  ReturnsInHanded {} C os f .any (s.pre6 enc C.prog fn conds apart) (s.post enc C.prog fn apart fresh handsOn again) := by
 refine returnsInHanded_of_change_shaped own started noInit hfn witness ?_
 intro W base args ds gs before hval hW _ hwt hsh _
 have hW' := hW
 obtain ⟨p,q,hA,hV,rfl,_,_⟩ := hW
 rw [hv] at hV
 obtain ⟨rfl,rfl⟩ := trodVars_none hV
 refine (walk W base args ds p hval hA hwt hsh).mono fun e W' ⟨he,hb⟩ => ?_
 subst he
 exact ⟨_,rfl,xP1 hl hr hrt htb hW' hv (hs ds (trodAll_length hA)) hb⟩
end
end Go.Proofs.LE
namespace Go.Proofs.LE
open Go.ChangeShapes Go.WideShapes Go.ChangeAt Go.RowKit
section
variable {H : Type} {enc : TypeId × Value → H}
theorem yB6 {C : Checked} {os : Os} {f : FuncId} {fn : Func} {s : ChangeSpec} {F : Stop.Interp} {conds : List PathCond} {apart fresh handsOn again : Bool} {laid : List (String × DataW Unit)} {tb : TypeId}
  (own : ownKnob C.prog.godebug = none) (started : os.Started) (noInit : C.prog.inits.idxOf? f = none) (hfn : C.prog.funcs[f]? = some fn)
  (witness : ∃ (w : World) (tape : Tape) (i : Input),w.os = os ∧ (w.forCall tape i).Shaped C.prog ∧ i.vars = [] ∧ Input.okWide C.prog (w.forCall tape i) .any w.heap.size f i ∧
   (OpenSpec.ofChange s).preRow enc C.prog fn conds apart laid (w.forCall tape i).memory i.args ∧ ({} : Assume).holds C.prog (lone (Frame.enter C.prog f i.args .normal) [] (w.forCall tape i)))
  (hl : laidOutB C.prog = true) (hr : ∀ t ∈ fn.params.toList,C.prog.readableRec t = true ∧ t < C.prog.types.size) (hrt : fn.resultTypes = #[tb]) (htb : C.prog.underlying tb = some .bool)
  (hv : s.vars = []) (hs : ∀ ds : List (DataW H),ds.length = fn.params.toList.length → s.fn H ds = { results := [.lit (.bool true)],args := ds })
  (walk : ∀ (W : World) (base : Nat) (args : Array Value) (ds : List (DataW H)) (p : List MemPlace),
   (∀ (j : Nat) t v,fn.params[j]? = some t → args[j]? = some v → Value.okWide C.prog W .any base t v) →
   DataW.TrodAll enc C.prog W 0 (fun _ => true) true fn.params.toList args.toList ds p →
   W.ShapedOpen C.prog → laidMetH C.prog laid W → Calls C.prog f args W fun e w' => e = .returned (.bool true) ∧ Below W.heap.size W w') :
  ReturnsInHanded {} C os f .any ((OpenSpec.ofChange s).preRow enc C.prog fn conds apart laid) (((OpenSpec.ofChange s).at F).post enc C.prog fn apart fresh handsOn again) := by
 refine returnsInHanded_of_row own started noInit hfn witness ?_
 intro W base args ds gs before hval hW _ _ _ hL hsh _
 have hW' : DataW.Whole enc C.prog fn.params.toList s.vars apart W args.toList ds gs before := hW
 have hW2 := hW'
 obtain ⟨p,q,hA,hV,rfl,_,_⟩ := hW2
 rw [hv] at hV
 obtain ⟨rfl,rfl⟩ := trodVars_none hV
 refine (walk W base args ds p hval hA hsh hL).mono fun e W' ⟨he,hb⟩ => ?_
 subst he
 exact ⟨_,rfl,xP1 hl hr hrt htb hW' hv (hs ds (trodAll_length hA)) hb⟩
end
def xIh : DataW Unit → List Value
 | .agg l => l.map fun d => match d with
  | .lit (.int k n) => .int k n
  | _ => .bool false
 | _ => []
def put (l : List Value) : Obj → Obj
 | .cells _ t frozen => .cells l.toArray t frozen
 | o => o
end Go.Proofs.LE
namespace Go.Proofs.MM
open Go.Joins Go.ChangeShapes Go.WideShapes Go.RowKit Go.Deep
theorem xN2 {H : Type} {enc : TypeId × Value → H} {P : Program} {w : World} {base : Nat} {spare : Nat → Bool} {held : Bool} {r : Reach} {b0 : Nat} {t : TypeId} {fs : Array Field} {v : Value} {d : DataW H} {p : List MemPlace}
  (hs : P.underlying t = some (.struct fs)) (hone : oneCellFields P fs = true) (hC : P.cellsOf t = fs.size) (hv : Value.okWide P w r b0 t v) (h : DataW.Trod enc P w base spare held t v d p) :
  ∃ cs : List Value,v = .agg cs.toArray ∧ cs.length = fs.size ∧ ∀ (j : Nat) (f : Field),fs[j]? = some f → ∃ (c : Value) (y : DataW H × List MemPlace) (n : Nat),cs[j]? = some c ∧ DataW.trod enc P w base spare held n f.type [c] = some y := by
 obtain ⟨cs,rfl,hsz⟩ := okWide_struct hs hv
 obtain ⟨l⟩ := cs
 have hl : l.length = fs.size := by simpa using hsz.trans hC
 obtain ⟨fuel,hf⟩ := h
 obtain ⟨xs,n,_,hx,_,hlen,hg⟩ := DataW.trod_struct hs hf
 refine ⟨l,rfl,hl,fun j f hj => ?_⟩
 obtain ⟨ho,hk⟩ := hone_of hone j f hj
 have hjl : j < fs.size := (Array.getElem?_eq_some_iff.1 hj).1
 have h1 := hg j f hj
 rw [ho,hk] at h1
 have hv : (Value.agg l.toArray).cells.toList = l := rfl
 rw [hv] at h1
 have hone' : (l.drop j).take 1 = [l[j]'(by omega)] := by
  rw [List.drop_eq_getElem_cons (by omega)]
  rfl
 rw [hone'] at h1
 have hys : xs[j]? = some (xs[j]'(by omega)) := List.getElem?_eq_getElem (by omega)
 exact ⟨_,_,_,List.getElem?_eq_getElem (by omega),h1.trans hys⟩
end Go.Proofs.MM
namespace Go.Proofs.SV
open Go.Joins Go.ChangeShapes Go.WideShapes Go.RowKit Go.Deep MM Mailsack
theorem xIn {W : World} {name : String} {g : Nat} {cs : Array Value} (hg : Tryz.prog.globalNamed name = some g) (h : W.var? Tryz.prog name = some cs) : ∃ t fr,W.heap[g]? = some (.cells cs t fr) := by
 unfold World.var? at h
 rw [hg] at h
 simp only [Option.bind_some] at h
 split at h
 ·rename_i c t fr hw
  injection h with h
  subst h
  exact ⟨t,fr,hw⟩
 ·cases h
theorem xMp {W : World} {a b : String} (ha : Tryz.prog.globalNamed a = some 0) (hb : Tryz.prog.globalNamed b = some 2) (h1 : Lib.TabIs Tryz.prog W a .u32 xUx) (h2 : Lib.TabIs Tryz.prog W b .u32 xAk) : SH.vT W :=
 ⟨xIn ha h1,xIn hb h2⟩
theorem xR1 {H : Type} {enc : TypeId × Value → H} {w : World} {base : Nat} {v : Value} {d : DataW H} {p : List MemPlace}
  (hv : Value.okWide Tryz.prog w .any base 23 v) (h : DataW.Trod enc Tryz.prog w 0 (fun _ => true) true 23 v d p) :
  ∃ (a b c : ByteArray) (n : Int),v = .agg #[.string a,.string b,.string c,.int .i64 n] := by
 obtain ⟨cs,rfl,hl,hf⟩ := xN2 Tryz.underlying23 (by kernel_rfl) (by kernel_rfl) hv h
 obtain ⟨c0,y0,n0,e0,t0⟩ := hf 0 _ rfl
 obtain ⟨c1,y1,n1,e1,t1⟩ := hf 1 _ rfl
 obtain ⟨c2,y2,n2,e2,t2⟩ := hf 2 _ rfl
 obtain ⟨c3,y3,n3,e3,t3⟩ := hf 3 _ rfl
 obtain ⟨x0,r0,_⟩ := DataW.trod_string Tryz.underlying9 t0
 obtain ⟨x1,r1,_⟩ := DataW.trod_string Tryz.underlying9 t1
 obtain ⟨x2,r2,_⟩ := DataW.trod_string Tryz.underlying9 t2
 obtain ⟨x3,r3,_⟩ := DataW.trod_int Tryz.underlying3 t3
 injection r0 with r0; injection r1 with r1; injection r2 with r2; injection r3 with r3
 subst r0 r1 r2 r3
 refine ⟨x0,x1,x2,x3,?_⟩
 match cs,hl with
 | [_,_,_,_],_ =>
  simp at e0 e1 e2 e3
  subst e0 e1 e2 e3
  rfl
end Go.Proofs.SV

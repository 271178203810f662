/- Contracts of functions of the program. Conditions: those that each theorem states. -/
import Derived.Test.YtnaiekglbemhcaaGreatDoorVaultFreshProofB02
import Derived.Deep.WholeRow
import Derived.Test.YtnaiekglbemhcaaGreatDoorVaultFreshProofB00
import Derived.Test.YtnaiekglbemhcaaGreatDoorVaultFreshProofB01
import Derived.WalkKit
import Derived.WalkLawsBesides
import Derived.WalkSpells
import Derived.Lib.Hide
import Derived.Deep.Cut
set_option maxHeartbeats 8000000
set_option maxRecDepth 100000
namespace Mailsack
structure S8 where
 a : Int
 b : Int
 c : Int
 d : Int
 e : Int
 f : Int
 g : Int
 h : Int
def S8.list (s : S8) : List Int := [s.a,s.b,s.c,s.d,s.e,s.f,s.g,s.h]
def S8.ok (s : S8) : Prop := U32 s.a ∧ U32 s.b ∧ U32 s.c ∧ U32 s.d ∧ U32 s.e ∧ U32 s.f ∧ U32 s.g ∧ U32 s.h
def xAk : List Int := [0x428a2f98,0x71374491,0xb5c0fbcf,0xe9b5dba5,0x3956c25b,0x59f111f1,0x923f82a4,0xab1c5ed5,
 0xd807aa98,0x12835b01,0x243185be,0x550c7dc3,0x72be5d74,0x80deb1fe,0x9bdc06a7,0xc19bf174,
 0xe49b69c1,0xefbe4786,0x0fc19dc6,0x240ca1cc,0x2de92c6f,0x4a7484aa,0x5cb0a9dc,0x76f988da,
 0x983e5152,0xa831c66d,0xb00327c8,0xbf597fc7,0xc6e00bf3,0xd5a79147,0x06ca6351,0x14292967,
 0x27b70a85,0x2e1b2138,0x4d2c6dfc,0x53380d13,0x650a7354,0x766a0abb,0x81c2c92e,0x92722c85,
 0xa2bfe8a1,0xa81a664b,0xc24b8b70,0xc76c51a3,0xd192e819,0xd6990624,0xf40e3585,0x106aa070,
 0x19a4c116,0x1e376c08,0x2748774c,0x34b0bcb5,0x391c0cb3,0x4ed8aa4a,0x5b9cca4f,0x682e6ff3,
 0x748f82ee,0x78a5636f,0x84c87814,0x8cc70208,0x90befffa,0xa4506ceb,0xbef9a3f7,0xc67178f2]
def xUx : List Int := [0x6a09e667,0xbb67ae85,0x3c6ef372,0xa54ff53a,0x510e527f,0x9b05688c,0x1f83d9ab,0x5be0cd19]
theorem xXa : jO xAk := by
 intro i
 by_cases h : i < 64
 ·have : ∀ j : Fin 64,0 ≤ xAk.getD j 0 ∧ xAk.getD j 0 < 4294967296 := by decide +kernel
  exact this ⟨i,h⟩
 ·rw [List.getD_eq_getElem?_getD,List.getElem?_eq_none (by simp [xAk]; omega)]
  exact ⟨by decide,by decide⟩
def sumE (s : S8) : Int := Go.bits .xor .u32 (Go.bits .xor .u32 (xHt s.e 26) (xHt s.e 21)) (xHt s.e 7)
def chE (s : S8) : Int := Go.bits .xor .u32 (Go.bits .and .u32 s.e s.f) (Go.bits .and .u32 (Go.bits .xor .u32 (if Go.IntKind.u32.signed = true then -1 else Go.IntKind.u32.max) s.e) s.g)
def sumA (s : S8) : Int := Go.bits .xor .u32 (Go.bits .xor .u32 (xHt s.a 30) (xHt s.a 19)) (xHt s.a 10)
def majA (s : S8) : Int := Go.bits .xor .u32 (Go.bits .xor .u32 (Go.bits .and .u32 s.a s.b) (Go.bits .and .u32 s.a s.c)) (Go.bits .and .u32 s.b s.c)
def rnd (K W : Int) (s : S8) : S8 :=
 ⟨((s.h + sumE s + chE s + K + W) % 4294967296 + (sumA s + majA s) % 4294967296) % 4294967296,s.a,s.b,s.c,(s.d + (s.h + sumE s + chE s + K + W) % 4294967296) % 4294967296,s.e,s.f,s.g⟩
theorem rnd_ok (K W : Int) {s : S8} (h : s.ok) : (rnd K W s).ok := by
 obtain ⟨ha,hb,hc,hd,he,hf,hg,hh⟩ := h
 exact ⟨wG _,ha,hb,hc,wG _,he,hf,hg⟩
def rounds (ws : List Int) (s : S8) : Nat → S8
 | 0 => s
 | k + 1 => rnd (xAk.getD k 0) (ws.getD k 0) (rounds ws s k)
theorem xKt (ws : List Int) {s : S8} (h : s.ok) : ∀ k,(rounds ws s k).ok
 | 0 => h
 | k + 1 => rnd_ok _ _ (xKt ws h k)
def add8 (s r : S8) : S8 := ⟨(s.a + r.a) % 4294967296,(s.b + r.b) % 4294967296,(s.c + r.c) % 4294967296,(s.d + r.d) % 4294967296,(s.e + r.e) % 4294967296,(s.f + r.f) % 4294967296,(s.g + r.g) % 4294967296,(s.h + r.h) % 4294967296⟩
def xF3 (s : S8) (b : ByteArray) : S8 := add8 s (rounds (tT b) s 64)
theorem xW8 (s : S8) (b : ByteArray) : (xF3 s b).ok := ⟨wG _,wG _,wG _,wG _,wG _,wG _,wG _,wG _⟩
end Mailsack
namespace Go.Proofs.SH
open Go.RowKit Mailsack MM
structure vT (w : World) : Prop where
 ini : ∃ t fr,w.heap[0]? = some (.cells (yX xUx) t fr)
 rnd : ∃ t fr,w.heap[2]? = some (.cells (yX xAk) t fr)
theorem vT.below {w w' : World} {B : Nat} (h : vT w) (hb : Below B w w') (hB : w.heap.size ≤ B) : vT w' := by
 obtain ⟨⟨t,fr,h1⟩,t2,fr2,h2⟩ := h
 exact ⟨⟨t,fr,xE h1 hb (Nat.lt_of_lt_of_le (xI h1) hB)⟩,t2,fr2,xE h2 hb (Nat.lt_of_lt_of_le (xI h2) hB)⟩
theorem kD {P : Program} {t e : TypeId} {n : Nat} {k : IntKind} (ht : P.underlying t = some (.array n e)) (he : P.underlying e = some (.int k)) (hs : (P.info? e).map (·.size) = some 1) (cs : Array Value) (v : Value) (i : Nat) (hi : i < n) (hv : cs[i]? = some v) (w : World) :
  (Instr.index t (.agg cs) (.int .i64 (i : Int))).run P w = .ok v w := by
 have hz : ∀ w,(sizeOf e).run P w = .ok 1 w := fun w => by
  cases hq : P.info? e with
  | none => simp [hq] at hs
  | some j =>
   simp [hq] at hs
   simp [sizeOf,typeInfo,hq,hs]
 have ha : ∀ w,(isAgg e).run P w = .ok false w := fun w => by
  unfold isAgg
  rw [Sem.run_bind,run_underlying he]
  rfl
 simp [Instr.index,asIntOf,run_underlying ht,hi,hz,part,ha,hv]
structure xM8 (w : World) (s ws : List Int) (g : Nat) (W : World) : Prop where
 st : W.heap[w.heap.size]? = some (.cells (yX s) 228 (0,0))
 res : W.heap[w.heap.size + 1]? = some (.cells (yX (List.replicate 8 0)) 228 (0,0))
 wd : W.heap[g]? = some (.cells (yX ws) 268 (0,0))
 tab : vT W
 bel : Below w.heap.size w W
theorem vT.drew {w : World} (h : vT w) : vT w.drew := ⟨h.ini,h.rnd⟩
theorem xM8.drew {w : World} {s ws : List Int} {g : Nat} {W : World} (h : xM8 w s ws g W) : xM8 w s ws g W.drew := ⟨h.st,h.res,h.wd,h.tab.drew,h.bel.drew⟩
theorem pX {w W : World} (h : Below w.heap.size w W) (i : Nat) (u : Value) : Below w.heap.size w (W.setCell ⟨w.heap.size + 1,i,none⟩ u) := h.setCell (p := ⟨w.heap.size + 1,i,none⟩) (Nat.le_succ _) u
theorem xW7 (S : S8) (b : ByteArray) (w : World) (hS : S.ok) (hb : b.size = 64) (hT : vT w) :
  Calls Tryz.prog 156 #[.agg (yX S.list),.string b] w fun e w' => e = .returned (.agg (yX (xF3 S b).list)) ∧ Below w.heap.size w w' := by
 have HT := hI' hT
 have HSch := hI' (fun W => xKn b W hb)
 have HWl : (tT b).length = 64 := xCx b 48
 have HWu := hI' (show jO (tT b) from xTg b 48)
 have HI : Hid ((Tryz.prog.info? 268).map (·.size) = some (yX (tT b)).size) := hI' (by rw [zB,HWl]; kernel_rfl)
 have HO : Hid ((yX (List.replicate 64 0)).size = (yX (tT b)).size) := hI' (by rw [zB,zB,HWl,List.length_replicate])
 have H1 := hI' (pU (tT b))
 clear hT
 have HF : Hid (xF3 S b = add8 S (rounds (tT b) S 64)) := hI' rfl
 have HS := hI' hS
 generalize xF3 S b = R at HF ⊢
 generalize tT b = ws at HSch HWl HWu HI HO H1 HF
 obtain ⟨s0,s1,s2,s3,s4,s5,s6,s7⟩ := S
 obtain ⟨⟨l0,m0⟩,⟨l1,m1⟩,⟨l2,m2⟩,⟨l3,m3⟩,⟨l4,m4⟩,⟨l5,m5⟩,⟨l6,m6⟩,⟨l7,m7⟩⟩ := hS
 simp only at l0 m0 l1 m1 l2 m2 l3 m3 l4 m4 l5 m5 l6 m6 l7 m7
 show Calls _ _ #[.agg #[.int .u32 s0,.int .u32 s1,.int .u32 s2,.int .u32 s3,.int .u32 s4,.int .u32 s5,.int .u32 s6,.int .u32 s7],.string b] w _
 go_enter Tryz.func156,Tryz.ntmps156
 go_wp2_with fail
 refine (HSch.out _).mono ?_
 rintro e w1 ⟨rfl,hb1⟩
 have ha1 := ((Below.refl w.heap.size w).alloc (Nat.le_refl _) (.cells (yX [s0,s1,s2,s3,s4,s5,s6,s7]) 228)).alloc (by simp) (.cells (yX (List.replicate 8 0)) 228)
 have HB : Hid (xM8 w [s0,s1,s2,s3,s4,s5,s6,s7] ws w1.heap.size (w1.alloc (.cells (yX ws) 268))) := hI' ⟨
  xP (xE (zQ w (.cells (yX [s0,s1,s2,s3,s4,s5,s6,s7]) 228) (.cells (yX (List.replicate 8 0)) 228)) hb1 (by simp; omega)) _,
  xP (xE (zM w (.cells (yX [s0,s1,s2,s3,s4,s5,s6,s7]) 228) (.cells (yX (List.replicate 8 0)) 228)) hb1 (by simp)) _,
  xM _ _,
  HT.out.below ((ha1.trans (hb1.mono ha1.size)).alloc (Nat.le_trans ha1.size hb1.size) _) (Nat.le_refl _),
  (ha1.trans (hb1.mono ha1.size)).alloc (Nat.le_trans ha1.size hb1.size) _⟩
 clear hb1 ha1 HT HSch
 have hst : (storeCells ⟨w1.heap.size,0,none⟩ (yX ws).toList).run Tryz.prog (w1.alloc (.cells #[.int .u32 0,.int .u32 0,.int .u32 0,.int .u32 0,.int .u32 0,.int .u32 0,.int .u32 0,.int .u32 0,.int .u32 0,.int .u32 0,.int .u32 0,.int .u32 0,.int .u32 0,.int .u32 0,.int .u32 0,.int .u32 0,.int .u32 0,.int .u32 0,.int .u32 0,.int .u32 0,.int .u32 0,.int .u32 0,.int .u32 0,.int .u32 0,.int .u32 0,.int .u32 0,.int .u32 0,.int .u32 0,.int .u32 0,.int .u32 0,.int .u32 0,.int .u32 0,.int .u32 0,.int .u32 0,.int .u32 0,.int .u32 0,.int .u32 0,.int .u32 0,.int .u32 0,.int .u32 0,.int .u32 0,.int .u32 0,.int .u32 0,.int .u32 0,.int .u32 0,.int .u32 0,.int .u32 0,.int .u32 0,.int .u32 0,.int .u32 0,.int .u32 0,.int .u32 0,.int .u32 0,.int .u32 0,.int .u32 0,.int .u32 0,.int .u32 0,.int .u32 0,.int .u32 0,.int .u32 0,.int .u32 0,.int .u32 0,.int .u32 0,.int .u32 0] 268)) = .ok () (w1.alloc (.cells (yX ws) 268)) := run_storeCells_new w1 _ _ _ HI.out HO.out H1.out
 have hsz : (yX ws).size = 64 := by rw [zB,HWl]
 go_upto_region 4 with fail
 clear hst hsz
 generalize w1.alloc (.cells (yX ws) 268) = w2 at HB ⊢
 generalize w1.heap.size = g1 at HB ⊢
 refine RG.xR (fun W => Hid (xM8 w [s0,s1,s2,s3,s4,s5,s6,s7] ws g1 W)) (by kernel_rfl) (by kernel_rfl) (hI' HB.out.drew) ?_
 iterate 12
  apply RG.xC
  ·intro w9 hw9
   have q0 : w9.cell? ⟨w.heap.size,0,none⟩ = some (.int .u32 s0) := xA hw9.out.st 0
   have q1 : w9.cell? ⟨w.heap.size,1,none⟩ = some (.int .u32 s1) := xA hw9.out.st 1
   have q2 : w9.cell? ⟨w.heap.size,2,none⟩ = some (.int .u32 s2) := xA hw9.out.st 2
   have q3 : w9.cell? ⟨w.heap.size,3,none⟩ = some (.int .u32 s3) := xA hw9.out.st 3
   repeat go_step
   with_reducible exact RG.xB hw9
  ·rfl
 refine RG.xW (fun w3 hw3 => ?_)
 clear HB
 go_upto_region 5 with fail
 refine RG.xR (fun W => Hid (xM8 w [s0,s1,s2,s3,s4,s5,s6,s7] ws g1 W)) (by kernel_rfl) (by kernel_rfl) (hI' hw3.out.drew) ?_
 iterate 12
  apply RG.xC
  ·intro w9 hw9
   have q0 : w9.cell? ⟨w.heap.size,4,none⟩ = some (.int .u32 s4) := xA hw9.out.st 4
   have q1 : w9.cell? ⟨w.heap.size,5,none⟩ = some (.int .u32 s5) := xA hw9.out.st 5
   have q2 : w9.cell? ⟨w.heap.size,6,none⟩ = some (.int .u32 s6) := xA hw9.out.st 6
   have q3 : w9.cell? ⟨w.heap.size,7,none⟩ = some (.int .u32 s7) := xA hw9.out.st 7
   repeat go_step
   with_reducible exact RG.xB hw9
  ·rfl
 refine RG.xW (fun w4 hw4 => ?_)
 clear hw3
 go_wp2_with (refine wpList_load_row rfl _ _ rfl g1 rfl _ _ (0,0) _ hw4.out.wd Tryz.underlying268 rfl HI.out ?_)
 go_loopw [6,7,8,9,10,11,12,13,45] (fun va vb vc vd ve vf vg vh iv wr => ∃ (k : Nat) (a b c d e f g h : Int),k ≤ 64 ∧ iv = .int .i64 k ∧ va = .int .u32 a ∧ vb = .int .u32 b ∧ vc = .int .u32 c ∧ vd = .int .u32 d ∧ ve = .int .u32 e ∧ vf = .int .u32 f ∧ vg = .int .u32 g ∧ vh = .int .u32 h ∧ Hid ((⟨a,b,c,d,e,f,g,h⟩ : S8) = rounds ws ⟨s0,s1,s2,s3,s4,s5,s6,s7⟩ k ∧ xM8 w [s0,s1,s2,s3,s4,s5,s6,s7] ws g1 wr)) (fun _ _ _ _ _ _ _ _ iv _ => 64 - (intOf iv).toNat)
 case atStart => exact ⟨0,s0,s1,s2,s3,s4,s5,s6,s7,by decide,rfl,rfl,rfl,rfl,rfl,rfl,rfl,rfl,rfl,hI' ⟨rfl,hw4.out⟩⟩
 case round =>
  obtain ⟨k,xa,xb,xc,xd,xe,xf,xg,xh,hk,rfl,rfl,rfl,rfl,rfl,rfl,rfl,rfl,rfl,hr⟩ := hrel
  clear hw4
  by_cases hlt : k < 64
  ·have HBK := hI' hr.out.2
   have hok := xKt ws HS.out k
   rw [← hr.out.1] at hok
   have HRR := hI' hr.out.1
   obtain ⟨ua,ub,uc,ud,ue,uf,ug,uh⟩ := hok
   clear hr
   simp only at ua ub uc ud ue uf ug uh
   obtain ⟨W,hW⟩ : ∃ W,ws.getD k 0 = W := ⟨_,rfl⟩
   have uW := HWu.out k
   rw [hW] at uW
   have ix := fun w => kD (P := Tryz.prog) Tryz.underlying268 Tryz.underlying184 (by kernel_rfl) (yX ws) (.int .u32 W) k hlt (by rw [uV (by omega),hW]) w
   obtain ⟨K,hK⟩ : ∃ K,xAk.getD k 0 = K := ⟨_,rfl⟩
   have uK := xXa k
   rw [hK] at uK
   have gK : ∀ X,Hid (xM8 w [s0,s1,s2,s3,s4,s5,s6,s7] ws g1 X) → X.cell? ⟨2,k,none⟩ = some (.int .u32 K) := fun X h => by
    obtain ⟨t,fr,hh⟩ := h.out.tab.rnd
    rw [cell_of_row _ _ _ _ _ _ hh,uV (by simp [xAk]; omega),hK]
   have GK := hI' gK
   have R1 := hI' (fun X => kR xe (-6) 26 X ue (by decide) (by decide))
   have R2 := hI' (fun X => kR xe (-11) 21 X ue (by decide) (by decide))
   have R3 := hI' (fun X => kR xe (-25) 7 X ue (by decide) (by decide))
   have R4 := hI' (fun X => kR xa (-2) 30 X ua (by decide) (by decide))
   have R5 := hI' (fun X => kR xa (-13) 19 X ua (by decide) (by decide))
   have R6 := hI' (fun X => kR xa (-22) 10 X ua (by decide) (by decide))
   have HU : Hid (rnd K W ⟨xa,xb,xc,xd,xe,xf,xg,xh⟩ = rounds ws ⟨s0,s1,s2,s3,s4,s5,s6,s7⟩ (k + 1)) := hI' (by rw [HRR.out,← hK,← hW]; rfl)
   obtain ⟨ua0,ua1⟩ := ua
   obtain ⟨ub0,ub1⟩ := ub
   obtain ⟨uc0,uc1⟩ := uc
   obtain ⟨ud0,ud1⟩ := ud
   obtain ⟨ue0,ue1⟩ := ue
   obtain ⟨uf0,uf1⟩ := uf
   obtain ⟨ug0,ug1⟩ := ug
   obtain ⟨uh0,uh1⟩ := uh
   obtain ⟨uW0,uW1⟩ := uW
   obtain ⟨uK0,uK1⟩ := uK
   clear gK hW hK
   go_upto_region 9 with fail
   clear ix
   refine RG.zK (fun X => Hid (xM8 w [s0,s1,s2,s3,s4,s5,s6,s7] ws g1 X)) HBK ?_
   apply RG.xC
   ·intro w9 hw9
    repeat go_step
    with_reducible exact RG.xB hw9
   ·rfl
   apply RG.xC
   ·intro w9 hw9
    repeat go_step
    refine (R1.out _).mono ?_
    rintro e w10 ⟨rfl,rfl⟩
    simp only []
    repeat go_step
    with_reducible exact RG.xB hw9
   ·rfl
   apply RG.xC
   ·intro w9 hw9
    repeat go_step
    with_reducible exact RG.xB hw9
   ·rfl
   apply RG.xC
   ·intro w9 hw9
    repeat go_step
    refine (R2.out _).mono ?_
    rintro e w10 ⟨rfl,rfl⟩
    simp only []
    repeat go_step
    with_reducible exact RG.xB hw9
   ·rfl
   iterate 2
    apply RG.xC
    ·intro w9 hw9
     repeat go_step
     with_reducible exact RG.xB hw9
    ·rfl
   apply RG.xC
   ·intro w9 hw9
    repeat go_step
    refine (R3.out _).mono ?_
    rintro e w10 ⟨rfl,rfl⟩
    simp only []
    repeat go_step
    with_reducible exact RG.xB hw9
   ·rfl
   iterate 2
    apply RG.xC
    ·intro w9 hw9
     repeat go_step
     with_reducible exact RG.xB hw9
    ·rfl
   refine RG.xW (fun w5 hw5 => ?_)
   clear HBK
   go_upto_region 10 with fail
   refine RG.zK (fun X => Hid (xM8 w [s0,s1,s2,s3,s4,s5,s6,s7] ws g1 X)) hw5 ?_
   clear hw5
   iterate 9
    apply RG.xC
    ·intro w9 hw9
     repeat go_step
     with_reducible exact RG.xB hw9
    ·rfl
   refine RG.xW (fun w5 hw5 => ?_)
   go_upto_region 11 with fail
   refine RG.zK (fun X => Hid (xM8 w [s0,s1,s2,s3,s4,s5,s6,s7] ws g1 X)) hw5 ?_
   clear hw5
   iterate 6
    apply RG.xC
    ·intro w9 hw9
     repeat go_step
     with_reducible exact RG.xB hw9
    ·rfl
   iterate 2
    apply RG.xC
    ·intro w9 hw9
     have q := GK.out _ hw9
     repeat go_step
     with_reducible exact RG.xB hw9
    ·rfl
   iterate 4
    apply RG.xC
    ·intro w9 hw9
     repeat go_step
     with_reducible exact RG.xB hw9
    ·rfl
   refine RG.xW (fun w5 hw5 => ?_)
   go_upto_region 12 with fail
   refine RG.zK (fun X => Hid (xM8 w [s0,s1,s2,s3,s4,s5,s6,s7] ws g1 X)) hw5 ?_
   clear hw5
   apply RG.xC
   ·intro w9 hw9
    repeat go_step
    with_reducible exact RG.xB hw9
   ·rfl
   apply RG.xC
   ·intro w9 hw9
    repeat go_step
    refine (R4.out _).mono ?_
    rintro e w10 ⟨rfl,rfl⟩
    simp only []
    repeat go_step
    with_reducible exact RG.xB hw9
   ·rfl
   apply RG.xC
   ·intro w9 hw9
    repeat go_step
    with_reducible exact RG.xB hw9
   ·rfl
   apply RG.xC
   ·intro w9 hw9
    repeat go_step
    refine (R5.out _).mono ?_
    rintro e w10 ⟨rfl,rfl⟩
    simp only []
    repeat go_step
    with_reducible exact RG.xB hw9
   ·rfl
   iterate 2
    apply RG.xC
    ·intro w9 hw9
     repeat go_step
     with_reducible exact RG.xB hw9
    ·rfl
   apply RG.xC
   ·intro w9 hw9
    repeat go_step
    refine (R6.out _).mono ?_
    rintro e w10 ⟨rfl,rfl⟩
    simp only []
    repeat go_step
    with_reducible exact RG.xB hw9
   ·rfl
   iterate 2
    apply RG.xC
    ·intro w9 hw9
     repeat go_step
     with_reducible exact RG.xB hw9
    ·rfl
   refine RG.xW (fun w5 hw5 => ?_)
   go_upto_region 13 with fail
   refine RG.zK (fun X => Hid (xM8 w [s0,s1,s2,s3,s4,s5,s6,s7] ws g1 X)) hw5 ?_
   clear hw5
   iterate 12
    apply RG.xC
    ·intro w9 hw9
     repeat go_step
     with_reducible exact RG.xB hw9
    ·rfl
   refine RG.xW (fun w5 hw5 => ?_)
   go_upto_region 14 with fail
   refine RG.zK (fun X => Hid (xM8 w [s0,s1,s2,s3,s4,s5,s6,s7] ws g1 X)) hw5 ?_
   clear hw5
   iterate 4
    apply RG.xC
    ·intro w9 hw9
     repeat go_step
     with_reducible exact RG.xB hw9
    ·rfl
   refine RG.xW (fun w5 hw5 => ?_)
   go_upto_region 15 with fail
   refine RG.zK (fun X => Hid (xM8 w [s0,s1,s2,s3,s4,s5,s6,s7] ws g1 X)) hw5 ?_
   clear hw5
   iterate 10
    apply RG.xC
    ·intro w9 hw9
     repeat go_step
     with_reducible exact RG.xB hw9
    ·rfl
   refine RG.xW (fun w5 hw5 => ?_)
   go_upto_region 16 with fail
   refine RG.zK (fun X => Hid (xM8 w [s0,s1,s2,s3,s4,s5,s6,s7] ws g1 X)) hw5 ?_
   clear hw5
   iterate 10
    apply RG.xC
    ·intro w9 hw9
     repeat go_step
     with_reducible exact RG.xB hw9
    ·rfl
   refine RG.xW (fun w5 hw5 => ?_)
   go_wp2
   exact ⟨⟨k + 1,_,_,_,_,_,_,_,_,by omega,by go_num,rfl,rfl,rfl,rfl,rfl,rfl,rfl,rfl,hI' ⟨HU.out,hw5.out⟩⟩,by simp [intOf]; omega⟩
  ·obtain rfl : k = 64 := by omega
   rw [← hr.out.1] at HF
   have q0 : wr.cell? ⟨w.heap.size,0,none⟩ = some (.int .u32 s0) := xA hr.out.2.st 0
   have q1 : wr.cell? ⟨w.heap.size,1,none⟩ = some (.int .u32 s1) := xA hr.out.2.st 1
   have q2 : wr.cell? ⟨w.heap.size,2,none⟩ = some (.int .u32 s2) := xA hr.out.2.st 2
   have q3 : wr.cell? ⟨w.heap.size,3,none⟩ = some (.int .u32 s3) := xA hr.out.2.st 3
   have q4 : wr.cell? ⟨w.heap.size,4,none⟩ = some (.int .u32 s4) := xA hr.out.2.st 4
   have q5 : wr.cell? ⟨w.heap.size,5,none⟩ = some (.int .u32 s5) := xA hr.out.2.st 5
   have q6 : wr.cell? ⟨w.heap.size,6,none⟩ = some (.int .u32 s6) := xA hr.out.2.st 6
   have q7 : wr.cell? ⟨w.heap.size,7,none⟩ = some (.int .u32 s7) := xA hr.out.2.st 7
   have f0 : wr.cell? ⟨w.heap.size + 1,0,none⟩ = some (.int .u32 0) := xA hr.out.2.res 0
   have x0 := xK hr.out.2.res 0
   have f1 : wr.cell? ⟨w.heap.size + 1,1,none⟩ = some (.int .u32 0) := xA hr.out.2.res 1
   have x1 := xK hr.out.2.res 1
   have f2 : wr.cell? ⟨w.heap.size + 1,2,none⟩ = some (.int .u32 0) := xA hr.out.2.res 2
   have x2 := xK hr.out.2.res 2
   have f3 : wr.cell? ⟨w.heap.size + 1,3,none⟩ = some (.int .u32 0) := xA hr.out.2.res 3
   have x3 := xK hr.out.2.res 3
   have f4 : wr.cell? ⟨w.heap.size + 1,4,none⟩ = some (.int .u32 0) := xA hr.out.2.res 4
   have x4 := xK hr.out.2.res 4
   have f5 : wr.cell? ⟨w.heap.size + 1,5,none⟩ = some (.int .u32 0) := xA hr.out.2.res 5
   have x5 := xK hr.out.2.res 5
   have f6 : wr.cell? ⟨w.heap.size + 1,6,none⟩ = some (.int .u32 0) := xA hr.out.2.res 6
   have x6 := xK hr.out.2.res 6
   have f7 : wr.cell? ⟨w.heap.size + 1,7,none⟩ = some (.int .u32 0) := xA hr.out.2.res 7
   have x7 := xK hr.out.2.res 7
   have HRS := hI' hr.out.2.res
   have HBL := hI' hr.out.2.bel
   clear hr
   go_wp2
   refine bodyPost_ret (v := .agg (yX (add8 ⟨s0,s1,s2,s3,s4,s5,s6,s7⟩ ⟨xa,xb,xc,xd,xe,xf,xg,xh⟩).list)) (by simp [results,Tryz.results156,go_sem,f0,f1,f2,f3,f4,f5,f6,f7]; rfl) rfl ?_
   rw [HF.out]
   refine ⟨rfl,?_⟩
   have h := HBL.out
   clear f0 q0 x0 f1 q1 x1 f2 q2 x2 f3 q3 x3 f4 q4 x4 f5 q5 x5 f6 q6 x6 f7 q7 x7
   have k0 := pX h 0 (.int .u32 ((s0 + xa) % 4294967296))
   have k1 := pX k0 1 (.int .u32 ((s1 + xb) % 4294967296))
   have k2 := pX k1 2 (.int .u32 ((s2 + xc) % 4294967296))
   have k3 := pX k2 3 (.int .u32 ((s3 + xd) % 4294967296))
   have k4 := pX k3 4 (.int .u32 ((s4 + xe) % 4294967296))
   have k5 := pX k4 5 (.int .u32 ((s5 + xf) % 4294967296))
   have k6 := pX k5 6 (.int .u32 ((s6 + xg) % 4294967296))
   have k7 := pX k6 7 (.int .u32 ((s7 + xh) % 4294967296))
   with_reducible exact k7
end Go.Proofs.SH
namespace Mailsack
def xSd (r : Bs) : Nat := if 64 < r.length + 9 then 128 else 64
def endA (r : Bs) : Bs := (r ++ (xQ (xSd r)).drop r.length).set r.length (oct 128)
def xNr (r : Bs) (count : Int) : Nat → Bs
 | 0 => endA r
 | k + 1 => (xNr r count k).set (xSd r - 1 - k) (oct (count / 2 ^ (8 * k)))
def endP (r : Bs) (count : Int) : Bs := xNr r count 8
theorem yBx (r : Bs) (h : r.length < 64) : r.length < xSd r := by unfold xSd; split <;> omega
theorem xJy (r : Bs) (count : Int) (h : r.length < 64) : ∀ k,(xNr r count k).length = xSd r
 | 0 => by have := yBx r h; simp [xNr,endA,yT]; omega
 | k + 1 => by simp [xNr,xJy r count h k]
end Mailsack
namespace Go.Proofs.SH
open Go.RowKit Mailsack MM BB
theorem xRq (b : ByteArray) (count : Int) (w : World) (hb : b.size < 64) :
  Calls Tryz.prog 157 #[.string b,.int .u64 count] w fun e w' => e = .returned (.string ⟨(endP b.data.toList count).toArray⟩) ∧ Below w.heap.size w w' := by
 have hbl : b.data.toList.length = b.size := by simp
 have HL := hI' (fun k => xJy b.data.toList count (by omega) k)
 by_cases hn : 64 < b.size + 9
 ·have HN : Hid (xSd b.data.toList = 128) := hI' (by unfold xSd; rw [if_pos (by omega)])
  have hmk : ∀ W : World,(Instr.makeSlice 113 (.int .i64 128) (.int .i64 128)).run Tryz.prog W = .ok (.slice (some ⟨W.heap.size,0,none⟩) 128 128) (W.alloc (.cells (yJ (xQ 128)) 5)) := fun W => made W 128 128 (by decide) (by decide)
  have HB0 : Hid (jN (w.alloc (.cells (yJ (xQ 128)) 5)) w.heap.size (xQ 128)) := hI' (xM _ _)
  have HW0 := hI' ((Below.refl w.heap.size w).alloc (Nat.le_refl _) (.cells (yJ (xQ 128)) 5))
  go_enter Tryz.func157,Tryz.ntmps157
  go_upto_region 5 with fail
  refine wp_region_lit ?_
  iterate 6 go_step
  refine Lib.wpList_copy_run _ rfl _ _ _ _ rfl _ _ rfl rfl (copied HB0.out _ _ _ _ (by omega) (by rw [yT]; omega)) ?_
  have HB1 := hI' (HB0.out.row (b.data.toList ++ (xQ 128).drop b.size))
  have HW1 := hI' (below_setRow HW0.out (Nat.le_refl _) (yJ (b.data.toList ++ (xQ 128).drop b.size)))
  clear hmk HB0 HW0
  generalize (w.alloc (.cells (yJ (xQ 128)) 5)).setRow w.heap.size (yJ (b.data.toList ++ (xQ 128).drop b.size)) = w1 at HB1 HW1 ⊢
  have q0 := HB1.out.cell (i := b.size) (by simp [yT]; omega)
  have q1 := HB1.out.free b.size
  have HB2 : Hid (jN (w1.setCell ⟨w.heap.size,b.size,none⟩ (.int .u8 128)) w.heap.size (xNr b.data.toList count 0)) := hI' (by
   have h := HB1.out.put b.size 128
   unfold xNr endA
   rw [HN.out,hbl]
   exact h)
  have HW2 := hI' (HW1.out.setCell (p := ⟨w.heap.size,b.size,none⟩) (Nat.le_refl _) (.int .u8 128))
  clear HB1 HW1
  go_wp2_with fail
  clear q0 q1
  go_loopw [21] (fun iv wr => ∃ k : Nat,k ≤ 8 ∧ iv = .int .i64 k ∧ Hid (jN wr w.heap.size (xNr b.data.toList count k) ∧ Below w.heap.size w wr)) (fun iv _ => 8 - (intOf iv).toNat)
  case atStart => exact ⟨0,by decide,rfl,hI' ⟨HB2.out,HW2.out⟩⟩
  case round =>
   obtain ⟨k,hk,rfl,hr⟩ := hrel
   clear HB2 HW2
   by_cases hlt : k < 8
   ·have q0 := hr.out.1.cell (i := 127 - k) (by rw [HL.out k,HN.out]; omega)
    have q1 := hr.out.1.free (127 - k)
    have HK : Hid (jN (wr.setCell ⟨w.heap.size,127 - k,none⟩ (.int .u8 (count / 2 ^ (8 * k) % 256))) w.heap.size (xNr b.data.toList count (k + 1))) := hI' (by
     have h := hr.out.1.put (127 - k) (count / 2 ^ (8 * k))
     unfold xNr
     rw [HN.out]
     exact h)
    have HKW := hI' (hr.out.2.setCell (p := ⟨w.heap.size,127 - k,none⟩) (Nat.le_refl _) (.int .u8 (count / 2 ^ (8 * k) % 256)))
    clear hr
    go_wp2
    exact ⟨⟨k + 1,by omega,by go_num,hI' ⟨HK.out,HKW.out⟩⟩,by simp [intOf]; omega⟩
   ·obtain rfl : k = 8 := by omega
    have ht := xMh hr.out.1 128 128 (by rw [HL.out 8,HN.out]; exact Nat.le_refl _)
    rw [List.take_of_length_le (by rw [HL.out 8,HN.out]; exact Nat.le_refl _)] at ht
    have HBW := hI' hr.out.2
    clear hr
    go_wp2
    go_ret
    exact ⟨rfl,HBW.out⟩
 ·have HN : Hid (xSd b.data.toList = 64) := hI' (by unfold xSd; rw [if_neg (by omega)])
  have hmk : ∀ W : World,(Instr.makeSlice 113 (.int .i64 64) (.int .i64 64)).run Tryz.prog W = .ok (.slice (some ⟨W.heap.size,0,none⟩) 64 64) (W.alloc (.cells (yJ (xQ 64)) 5)) := fun W => made W 64 64 (by decide) (by decide)
  have HB0 : Hid (jN (w.alloc (.cells (yJ (xQ 64)) 5)) w.heap.size (xQ 64)) := hI' (xM _ _)
  have HW0 := hI' ((Below.refl w.heap.size w).alloc (Nat.le_refl _) (.cells (yJ (xQ 64)) 5))
  go_enter Tryz.func157,Tryz.ntmps157
  go_upto_region 5 with fail
  refine wp_region_lit ?_
  iterate 6 go_step
  refine Lib.wpList_copy_run _ rfl _ _ _ _ rfl _ _ rfl rfl (copied HB0.out _ _ _ _ (by omega) (by rw [yT]; omega)) ?_
  have HB1 := hI' (HB0.out.row (b.data.toList ++ (xQ 64).drop b.size))
  have HW1 := hI' (below_setRow HW0.out (Nat.le_refl _) (yJ (b.data.toList ++ (xQ 64).drop b.size)))
  clear hmk HB0 HW0
  generalize (w.alloc (.cells (yJ (xQ 64)) 5)).setRow w.heap.size (yJ (b.data.toList ++ (xQ 64).drop b.size)) = w1 at HB1 HW1 ⊢
  have q0 := HB1.out.cell (i := b.size) (by simp [yT]; omega)
  have q1 := HB1.out.free b.size
  have HB2 : Hid (jN (w1.setCell ⟨w.heap.size,b.size,none⟩ (.int .u8 128)) w.heap.size (xNr b.data.toList count 0)) := hI' (by
   have h := HB1.out.put b.size 128
   unfold xNr endA
   rw [HN.out,hbl]
   exact h)
  have HW2 := hI' (HW1.out.setCell (p := ⟨w.heap.size,b.size,none⟩) (Nat.le_refl _) (.int .u8 128))
  clear HB1 HW1
  go_wp2_with fail
  clear q0 q1
  go_loopw [21] (fun iv wr => ∃ k : Nat,k ≤ 8 ∧ iv = .int .i64 k ∧ Hid (jN wr w.heap.size (xNr b.data.toList count k) ∧ Below w.heap.size w wr)) (fun iv _ => 8 - (intOf iv).toNat)
  case atStart => exact ⟨0,by decide,rfl,hI' ⟨HB2.out,HW2.out⟩⟩
  case round =>
   obtain ⟨k,hk,rfl,hr⟩ := hrel
   clear HB2 HW2
   by_cases hlt : k < 8
   ·have q0 := hr.out.1.cell (i := 63 - k) (by rw [HL.out k,HN.out]; omega)
    have q1 := hr.out.1.free (63 - k)
    have HK : Hid (jN (wr.setCell ⟨w.heap.size,63 - k,none⟩ (.int .u8 (count / 2 ^ (8 * k) % 256))) w.heap.size (xNr b.data.toList count (k + 1))) := hI' (by
     have h := hr.out.1.put (63 - k) (count / 2 ^ (8 * k))
     unfold xNr
     rw [HN.out]
     exact h)
    have HKW := hI' (hr.out.2.setCell (p := ⟨w.heap.size,63 - k,none⟩) (Nat.le_refl _) (.int .u8 (count / 2 ^ (8 * k) % 256)))
    clear hr
    go_wp2
    exact ⟨⟨k + 1,by omega,by go_num,hI' ⟨HK.out,HKW.out⟩⟩,by simp [intOf]; omega⟩
   ·obtain rfl : k = 8 := by omega
    have ht := xMh hr.out.1 64 64 (by rw [HL.out 8,HN.out]; exact Nat.le_refl _)
    rw [List.take_of_length_le (by rw [HL.out 8,HN.out]; exact Nat.le_refl _)] at ht
    have HBW := hI' hr.out.2
    clear hr
    go_wp2
    go_ret
    exact ⟨rfl,HBW.out⟩
end Go.Proofs.SH

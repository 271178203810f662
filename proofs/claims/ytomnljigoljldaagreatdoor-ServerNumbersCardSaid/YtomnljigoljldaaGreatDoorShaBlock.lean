/- What sha.Block returns. Conditions: a state of eight numbers of 32 bits; a block of 64 bytes; the table of rounds. -/
import Derived.Test.YtomnljigoljldaaGreatDoorShaSched
import Derived.Deep.WholeRow
namespace Mailsack
structure S8 where
  a : Int
  b : Int
  c : Int
  d : Int
  e : Int
  f : Int
  g : Int
  h : Int
def S8.list (s : S8) : List Int := [s.a, s.b, s.c, s.d, s.e, s.f, s.g, s.h]
def S8.ok (s : S8) : Prop := U32 s.a ∧ U32 s.b ∧ U32 s.c ∧ U32 s.d ∧ U32 s.e ∧ U32 s.f ∧ U32 s.g ∧ U32 s.h
def roundL : List Int := [0x428a2f98, 0x71374491, 0xb5c0fbcf, 0xe9b5dba5, 0x3956c25b, 0x59f111f1, 0x923f82a4, 0xab1c5ed5,
  0xd807aa98, 0x12835b01, 0x243185be, 0x550c7dc3, 0x72be5d74, 0x80deb1fe, 0x9bdc06a7, 0xc19bf174,
  0xe49b69c1, 0xefbe4786, 0x0fc19dc6, 0x240ca1cc, 0x2de92c6f, 0x4a7484aa, 0x5cb0a9dc, 0x76f988da,
  0x983e5152, 0xa831c66d, 0xb00327c8, 0xbf597fc7, 0xc6e00bf3, 0xd5a79147, 0x06ca6351, 0x14292967,
  0x27b70a85, 0x2e1b2138, 0x4d2c6dfc, 0x53380d13, 0x650a7354, 0x766a0abb, 0x81c2c92e, 0x92722c85,
  0xa2bfe8a1, 0xa81a664b, 0xc24b8b70, 0xc76c51a3, 0xd192e819, 0xd6990624, 0xf40e3585, 0x106aa070,
  0x19a4c116, 0x1e376c08, 0x2748774c, 0x34b0bcb5, 0x391c0cb3, 0x4ed8aa4a, 0x5b9cca4f, 0x682e6ff3,
  0x748f82ee, 0x78a5636f, 0x84c87814, 0x8cc70208, 0x90befffa, 0xa4506ceb, 0xbef9a3f7, 0xc67178f2]
def initL : List Int := [0x6a09e667, 0xbb67ae85, 0x3c6ef372, 0xa54ff53a, 0x510e527f, 0x9b05688c, 0x1f83d9ab, 0x5be0cd19]
theorem roundL_u : AllU roundL := by
  intro i
  by_cases h : i < 64
  · have : ∀ j : Fin 64, 0 ≤ roundL.getD j 0 ∧ roundL.getD j 0 < 4294967296 := by decide +kernel
    exact this ⟨i, h⟩
  · rw [List.getD_eq_getElem?_getD, List.getElem?_eq_none (by simp [roundL]; omega)]
    exact ⟨by decide, by decide⟩
def sumE (s : S8) : Int := Go.bits .xor .u32 (Go.bits .xor .u32 (rotU s.e 26) (rotU s.e 21)) (rotU s.e 7)
def chE (s : S8) : Int := Go.bits .xor .u32 (Go.bits .and .u32 s.e s.f) (Go.bits .and .u32 (Go.bits .xor .u32 (if Go.IntKind.u32.signed = true then -1 else Go.IntKind.u32.max) s.e) s.g)
def sumA (s : S8) : Int := Go.bits .xor .u32 (Go.bits .xor .u32 (rotU s.a 30) (rotU s.a 19)) (rotU s.a 10)
def majA (s : S8) : Int := Go.bits .xor .u32 (Go.bits .xor .u32 (Go.bits .and .u32 s.a s.b) (Go.bits .and .u32 s.a s.c)) (Go.bits .and .u32 s.b s.c)
def rnd (K W : Int) (s : S8) : S8 :=
  ⟨((s.h + sumE s + chE s + K + W) % 4294967296 + (sumA s + majA s) % 4294967296) % 4294967296, s.a, s.b, s.c, (s.d + (s.h + sumE s + chE s + K + W) % 4294967296) % 4294967296, s.e, s.f, s.g⟩
theorem rnd_ok (K W : Int) {s : S8} (h : s.ok) : (rnd K W s).ok := by
  obtain ⟨ha, hb, hc, hd, he, hf, hg, hh⟩ := h
  exact ⟨mod_u32 _, ha, hb, hc, mod_u32 _, he, hf, hg⟩
def rounds (ws : List Int) (s : S8) : Nat → S8
  | 0 => s
  | k + 1 => rnd (roundL.getD k 0) (ws.getD k 0) (rounds ws s k)
theorem rounds_ok (ws : List Int) {s : S8} (h : s.ok) : ∀ k, (rounds ws s k).ok
  | 0 => h
  | k + 1 => rnd_ok _ _ (rounds_ok ws h k)
def add8 (s r : S8) : S8 := ⟨(s.a + r.a) % 4294967296, (s.b + r.b) % 4294967296, (s.c + r.c) % 4294967296, (s.d + r.d) % 4294967296, (s.e + r.e) % 4294967296, (s.f + r.f) % 4294967296, (s.g + r.g) % 4294967296, (s.h + r.h) % 4294967296⟩
def blockF (s : S8) (b : ByteArray) : S8 := add8 s (rounds (schedW b) s 64)
theorem blockF_ok (s : S8) (b : ByteArray) : (blockF s b).ok := ⟨mod_u32 _, mod_u32 _, mod_u32 _, mod_u32 _, mod_u32 _, mod_u32 _, mod_u32 _, mod_u32 _⟩
end Mailsack
namespace Go.Proofs.YtomnljigoljldaaGreatDoor.SH
open Go.RowKit Mailsack MM

/-- the package's two tables lie where they lie -/
structure ShaT (w : World) : Prop where
  ini : ∃ t fr, w.heap[0]? = some (.cells (encW initL) t fr)
  rnd : ∃ t fr, w.heap[2]? = some (.cells (encW roundL) t fr)
theorem ShaT.below {w w' : World} {B : Nat} (h : ShaT w) (hb : Below B w w') (hB : w.heap.size ≤ B) : ShaT w' := by
  obtain ⟨⟨t, fr, h1⟩, t2, fr2, h2⟩ := h
  exact ⟨⟨t, fr, blk_below h1 hb (Nat.lt_of_lt_of_le (blk_lt h1) hB)⟩, t2, fr2, blk_below h2 hb (Nat.lt_of_lt_of_le (blk_lt h2) hB)⟩

theorem run_idx_arr {P : Program} {t e : TypeId} {n : Nat} {k : IntKind} (ht : P.underlying t = some (.array n e)) (he : P.underlying e = some (.int k)) (hs : (P.info? e).map (·.size) = some 1) (cs : Array Value) (v : Value) (i : Nat) (hi : i < n) (hv : cs[i]? = some v) (w : World) :
    (Instr.index t (.agg cs) (.int .i64 (i : Int))).run P w = .ok v w := by
  have hz : ∀ w, (sizeOf e).run P w = .ok 1 w := fun w => by
    cases hq : P.info? e with
    | none => simp [hq] at hs
    | some j =>
      simp [hq] at hs
      simp [sizeOf, typeInfo, hq, hs]
  have ha : ∀ w, (isAgg e).run P w = .ok false w := fun w => by
    unfold isAgg
    rw [Sem.run_bind, run_underlying he]
    rfl
  simp [Instr.index, asIntOf, run_underlying ht, hi, hz, part, ha, hv]

/-- the memory of Block's walk -/
structure BlkI (w : World) (s ws : List Int) (g : Nat) (W : World) : Prop where
  st : W.heap[w.heap.size]? = some (.cells (encW s) 353 (0, 0))
  res : W.heap[w.heap.size + 1]? = some (.cells (encW (List.replicate 8 0)) 353 (0, 0))
  wd : W.heap[g]? = some (.cells (encW ws) 432 (0, 0))
  tab : ShaT W
  bel : Below w.heap.size w W
theorem ShaT.drew {w : World} (h : ShaT w) : ShaT w.drew := ⟨h.ini, h.rnd⟩
theorem BlkI.drew {w : World} {s ws : List Int} {g : Nat} {W : World} (h : BlkI w s ws g W) : BlkI w s ws g W.drew := ⟨h.st, h.res, h.wd, h.tab.drew, h.bel.drew⟩

theorem bel_set1 {w W : World} (h : Below w.heap.size w W) (i : Nat) (u : Value) : Below w.heap.size w (W.setCell ⟨w.heap.size + 1, i, none⟩ u) := h.setCell (p := ⟨w.heap.size + 1, i, none⟩) (Nat.le_succ _) u

set_option maxHeartbeats 4000000 in
set_option maxRecDepth 100000 in
theorem block_any (S : S8) (b : ByteArray) (w : World) (hS : S.ok) (hb : b.size = 64) (hT : ShaT w) :
    Calls Tryz.prog 273 #[.agg (encW S.list), .string b] w fun e w' => e = .returned (.agg (encW (blockF S b).list)) ∧ Below w.heap.size w w' := by
  have HT := Lib.hid hT
  have HSch := Lib.hid (fun W => schedule_any b W hb)
  have HWl : (schedW b).length = 64 := schB_len b 48
  have HWu := Lib.hid (show AllU (schedW b) from schB_u b 48)
  have HI : Hid ((Tryz.prog.info? 432).map (·.size) = some (encW (schedW b)).size) := Lib.hid (by rw [encW_size, HWl]; kernel_rfl)
  have HO : Hid ((encW (List.replicate 64 0)).size = (encW (schedW b)).size) := Lib.hid (by rw [encW_size, encW_size, HWl, List.length_replicate])
  have H1 := Lib.hid (encW_one (schedW b))
  clear hT
  have HF : Hid (blockF S b = add8 S (rounds (schedW b) S 64)) := Lib.hid rfl
  have HS := Lib.hid hS
  generalize blockF S b = R at HF ⊢
  generalize schedW b = ws at HSch HWl HWu HI HO H1 HF
  obtain ⟨s0, s1, s2, s3, s4, s5, s6, s7⟩ := S
  obtain ⟨⟨l0, m0⟩, ⟨l1, m1⟩, ⟨l2, m2⟩, ⟨l3, m3⟩, ⟨l4, m4⟩, ⟨l5, m5⟩, ⟨l6, m6⟩, ⟨l7, m7⟩⟩ := hS
  simp only at l0 m0 l1 m1 l2 m2 l3 m3 l4 m4 l5 m5 l6 m6 l7 m7
  show Calls _ _ #[.agg #[.int .u32 s0, .int .u32 s1, .int .u32 s2, .int .u32 s3, .int .u32 s4, .int .u32 s5, .int .u32 s6, .int .u32 s7], .string b] w _
  go_enter Tryz.func273, Tryz.ntmps273
  go_wp2_with fail
  refine (HSch.out _).mono ?_
  rintro e w1 ⟨rfl, hb1⟩
  have ha1 := ((Below.refl w.heap.size w).alloc (Nat.le_refl _) (.cells (encW [s0, s1, s2, s3, s4, s5, s6, s7]) 353)).alloc (by simp) (.cells (encW (List.replicate 8 0)) 353)
  have HB : Hid (BlkI w [s0, s1, s2, s3, s4, s5, s6, s7] ws w1.heap.size (w1.alloc (.cells (encW ws) 432))) := Lib.hid ⟨
    blk_alloc (blk_below (two_old w (.cells (encW [s0, s1, s2, s3, s4, s5, s6, s7]) 353) (.cells (encW (List.replicate 8 0)) 353)) hb1 (by simp; omega)) _,
    blk_alloc (blk_below (two_new w (.cells (encW [s0, s1, s2, s3, s4, s5, s6, s7]) 353) (.cells (encW (List.replicate 8 0)) 353)) hb1 (by simp)) _,
    blk_new _ _,
    HT.out.below ((ha1.trans (hb1.mono ha1.size)).alloc (Nat.le_trans ha1.size hb1.size) _) (Nat.le_refl _),
    (ha1.trans (hb1.mono ha1.size)).alloc (Nat.le_trans ha1.size hb1.size) _⟩
  clear hb1 ha1 HT HSch
  have hst : (storeCells ⟨w1.heap.size, 0, none⟩ (encW ws).toList).run Tryz.prog (w1.alloc (.cells #[.int .u32 0, .int .u32 0, .int .u32 0, .int .u32 0, .int .u32 0, .int .u32 0, .int .u32 0, .int .u32 0, .int .u32 0, .int .u32 0, .int .u32 0, .int .u32 0, .int .u32 0, .int .u32 0, .int .u32 0, .int .u32 0, .int .u32 0, .int .u32 0, .int .u32 0, .int .u32 0, .int .u32 0, .int .u32 0, .int .u32 0, .int .u32 0, .int .u32 0, .int .u32 0, .int .u32 0, .int .u32 0, .int .u32 0, .int .u32 0, .int .u32 0, .int .u32 0, .int .u32 0, .int .u32 0, .int .u32 0, .int .u32 0, .int .u32 0, .int .u32 0, .int .u32 0, .int .u32 0, .int .u32 0, .int .u32 0, .int .u32 0, .int .u32 0, .int .u32 0, .int .u32 0, .int .u32 0, .int .u32 0, .int .u32 0, .int .u32 0, .int .u32 0, .int .u32 0, .int .u32 0, .int .u32 0, .int .u32 0, .int .u32 0, .int .u32 0, .int .u32 0, .int .u32 0, .int .u32 0, .int .u32 0, .int .u32 0, .int .u32 0, .int .u32 0] 432)) = .ok () (w1.alloc (.cells (encW ws) 432)) := run_storeCells_new w1 _ _ _ HI.out HO.out H1.out
  have hsz : (encW ws).size = 64 := by rw [encW_size, HWl]
  go_upto_region 4 with fail
  clear hst hsz
  generalize w1.alloc (.cells (encW ws) 432) = w2 at HB ⊢
  generalize w1.heap.size = g1 at HB ⊢
  refine RG.wp_region_det (fun W => Hid (BlkI w [s0, s1, s2, s3, s4, s5, s6, s7] ws g1 W)) (by kernel_rfl) (by kernel_rfl) (Lib.hid HB.out.drew) ?_
  iterate 12
    apply RG.wpDet_cons
    · intro w9 hw9
      have q0 : w9.cell? ⟨w.heap.size, 0, none⟩ = some (.int .u32 s0) := cell_blk hw9.out.st 0
      have q1 : w9.cell? ⟨w.heap.size, 1, none⟩ = some (.int .u32 s1) := cell_blk hw9.out.st 1
      have q2 : w9.cell? ⟨w.heap.size, 2, none⟩ = some (.int .u32 s2) := cell_blk hw9.out.st 2
      have q3 : w9.cell? ⟨w.heap.size, 3, none⟩ = some (.int .u32 s3) := cell_blk hw9.out.st 3
      repeat go_step
      with_reducible refine RG.only_mk ?_
      exact hw9
    · rfl
  refine RG.wpDet_nil (fun w3 hw3 => ?_)
  clear HB
  go_upto_region 5 with fail
  refine RG.wp_region_det (fun W => Hid (BlkI w [s0, s1, s2, s3, s4, s5, s6, s7] ws g1 W)) (by kernel_rfl) (by kernel_rfl) (Lib.hid hw3.out.drew) ?_
  iterate 12
    apply RG.wpDet_cons
    · intro w9 hw9
      have q0 : w9.cell? ⟨w.heap.size, 4, none⟩ = some (.int .u32 s4) := cell_blk hw9.out.st 4
      have q1 : w9.cell? ⟨w.heap.size, 5, none⟩ = some (.int .u32 s5) := cell_blk hw9.out.st 5
      have q2 : w9.cell? ⟨w.heap.size, 6, none⟩ = some (.int .u32 s6) := cell_blk hw9.out.st 6
      have q3 : w9.cell? ⟨w.heap.size, 7, none⟩ = some (.int .u32 s7) := cell_blk hw9.out.st 7
      repeat go_step
      with_reducible refine RG.only_mk ?_
      exact hw9
    · rfl
  refine RG.wpDet_nil (fun w4 hw4 => ?_)
  clear hw3
  go_wp2_with (refine wpList_load_row rfl _ _ rfl g1 rfl _ _ (0, 0) _ hw4.out.wd Tryz.underlying432 rfl HI.out ?_)
  go_loopw [6, 7, 8, 9, 10, 11, 12, 13, 45] (fun va vb vc vd ve vf vg vh iv wr => ∃ (k : Nat) (a b c d e f g h : Int), k ≤ 64 ∧ iv = .int .i64 k ∧ va = .int .u32 a ∧ vb = .int .u32 b ∧ vc = .int .u32 c ∧ vd = .int .u32 d ∧ ve = .int .u32 e ∧ vf = .int .u32 f ∧ vg = .int .u32 g ∧ vh = .int .u32 h ∧ Hid ((⟨a, b, c, d, e, f, g, h⟩ : S8) = rounds ws ⟨s0, s1, s2, s3, s4, s5, s6, s7⟩ k ∧ BlkI w [s0, s1, s2, s3, s4, s5, s6, s7] ws g1 wr)) (fun _ _ _ _ _ _ _ _ iv _ => 64 - (intOf iv).toNat)
  case atStart => exact ⟨0, s0, s1, s2, s3, s4, s5, s6, s7, by decide, rfl, rfl, rfl, rfl, rfl, rfl, rfl, rfl, rfl, Lib.hid ⟨rfl, hw4.out⟩⟩
  case round =>
    obtain ⟨k, xa, xb, xc, xd, xe, xf, xg, xh, hk, rfl, rfl, rfl, rfl, rfl, rfl, rfl, rfl, rfl, hr⟩ := hrel
    clear hw4
    by_cases hlt : k < 64
    · have HBK := Lib.hid hr.out.2
      have hok := rounds_ok ws HS.out k
      rw [← hr.out.1] at hok
      have HRR := Lib.hid hr.out.1
      obtain ⟨ua, ub, uc, ud, ue, uf, ug, uh⟩ := hok
      clear hr
      simp only at ua ub uc ud ue uf ug uh
      obtain ⟨W, hW⟩ : ∃ W, ws.getD k 0 = W := ⟨_, rfl⟩
      have uW := HWu.out k
      rw [hW] at uW
      have ix := fun w => run_idx_arr (P := Tryz.prog) Tryz.underlying432 Tryz.underlying214 (by kernel_rfl) (encW ws) (.int .u32 W) k hlt (by rw [encW_get (by omega), hW]) w
      obtain ⟨K, hK⟩ : ∃ K, roundL.getD k 0 = K := ⟨_, rfl⟩
      have uK := roundL_u k
      rw [hK] at uK
      have gK : ∀ X, Hid (BlkI w [s0, s1, s2, s3, s4, s5, s6, s7] ws g1 X) → X.cell? ⟨2, k, none⟩ = some (.int .u32 K) := fun X h => by
        obtain ⟨t, fr, hh⟩ := h.out.tab.rnd
        rw [cell_of_row _ _ _ _ _ _ hh, encW_get (by simp [roundL]; omega), hK]
      have GK := Lib.hid gK
      have R1 := Lib.hid (fun X => rot_any xe (-6) 26 X ue (by decide) (by decide))
      have R2 := Lib.hid (fun X => rot_any xe (-11) 21 X ue (by decide) (by decide))
      have R3 := Lib.hid (fun X => rot_any xe (-25) 7 X ue (by decide) (by decide))
      have R4 := Lib.hid (fun X => rot_any xa (-2) 30 X ua (by decide) (by decide))
      have R5 := Lib.hid (fun X => rot_any xa (-13) 19 X ua (by decide) (by decide))
      have R6 := Lib.hid (fun X => rot_any xa (-22) 10 X ua (by decide) (by decide))
      have HU : Hid (rnd K W ⟨xa, xb, xc, xd, xe, xf, xg, xh⟩ = rounds ws ⟨s0, s1, s2, s3, s4, s5, s6, s7⟩ (k + 1)) := Lib.hid (by rw [HRR.out, ← hK, ← hW]; rfl)
      obtain ⟨ua0, ua1⟩ := ua
      obtain ⟨ub0, ub1⟩ := ub
      obtain ⟨uc0, uc1⟩ := uc
      obtain ⟨ud0, ud1⟩ := ud
      obtain ⟨ue0, ue1⟩ := ue
      obtain ⟨uf0, uf1⟩ := uf
      obtain ⟨ug0, ug1⟩ := ug
      obtain ⟨uh0, uh1⟩ := uh
      obtain ⟨uW0, uW1⟩ := uW
      obtain ⟨uK0, uK1⟩ := uK
      clear gK hW hK
      go_upto_region 9 with fail
      clear ix
      refine RG.wp_region_plain (fun X => Hid (BlkI w [s0, s1, s2, s3, s4, s5, s6, s7] ws g1 X)) HBK ?_
      apply RG.wpDet_cons
      · intro w9 hw9
        repeat go_step
        with_reducible refine RG.only_mk ?_
        exact hw9
      · rfl
      apply RG.wpDet_cons
      · intro w9 hw9
        repeat go_step
        refine (R1.out _).mono ?_
        rintro e w10 ⟨rfl, rfl⟩
        simp only []
        repeat go_step
        with_reducible refine RG.only_mk ?_
        exact hw9
      · rfl
      apply RG.wpDet_cons
      · intro w9 hw9
        repeat go_step
        with_reducible refine RG.only_mk ?_
        exact hw9
      · rfl
      apply RG.wpDet_cons
      · intro w9 hw9
        repeat go_step
        refine (R2.out _).mono ?_
        rintro e w10 ⟨rfl, rfl⟩
        simp only []
        repeat go_step
        with_reducible refine RG.only_mk ?_
        exact hw9
      · rfl
      iterate 2
        apply RG.wpDet_cons
        · intro w9 hw9
          repeat go_step
          with_reducible refine RG.only_mk ?_
          exact hw9
        · rfl
      apply RG.wpDet_cons
      · intro w9 hw9
        repeat go_step
        refine (R3.out _).mono ?_
        rintro e w10 ⟨rfl, rfl⟩
        simp only []
        repeat go_step
        with_reducible refine RG.only_mk ?_
        exact hw9
      · rfl
      iterate 2
        apply RG.wpDet_cons
        · intro w9 hw9
          repeat go_step
          with_reducible refine RG.only_mk ?_
          exact hw9
        · rfl
      refine RG.wpDet_nil (fun w5 hw5 => ?_)
      clear HBK
      go_upto_region 10 with fail
      refine RG.wp_region_plain (fun X => Hid (BlkI w [s0, s1, s2, s3, s4, s5, s6, s7] ws g1 X)) hw5 ?_
      clear hw5
      iterate 9
        apply RG.wpDet_cons
        · intro w9 hw9
          repeat go_step
          with_reducible refine RG.only_mk ?_
          exact hw9
        · rfl
      refine RG.wpDet_nil (fun w5 hw5 => ?_)
      go_upto_region 11 with fail
      refine RG.wp_region_plain (fun X => Hid (BlkI w [s0, s1, s2, s3, s4, s5, s6, s7] ws g1 X)) hw5 ?_
      clear hw5
      iterate 6
        apply RG.wpDet_cons
        · intro w9 hw9
          repeat go_step
          with_reducible refine RG.only_mk ?_
          exact hw9
        · rfl
      iterate 2
        apply RG.wpDet_cons
        · intro w9 hw9
          have q := GK.out _ hw9
          repeat go_step
          with_reducible refine RG.only_mk ?_
          exact hw9
        · rfl
      iterate 4
        apply RG.wpDet_cons
        · intro w9 hw9
          repeat go_step
          with_reducible refine RG.only_mk ?_
          exact hw9
        · rfl
      refine RG.wpDet_nil (fun w5 hw5 => ?_)
      go_upto_region 12 with fail
      refine RG.wp_region_plain (fun X => Hid (BlkI w [s0, s1, s2, s3, s4, s5, s6, s7] ws g1 X)) hw5 ?_
      clear hw5
      apply RG.wpDet_cons
      · intro w9 hw9
        repeat go_step
        with_reducible refine RG.only_mk ?_
        exact hw9
      · rfl
      apply RG.wpDet_cons
      · intro w9 hw9
        repeat go_step
        refine (R4.out _).mono ?_
        rintro e w10 ⟨rfl, rfl⟩
        simp only []
        repeat go_step
        with_reducible refine RG.only_mk ?_
        exact hw9
      · rfl
      apply RG.wpDet_cons
      · intro w9 hw9
        repeat go_step
        with_reducible refine RG.only_mk ?_
        exact hw9
      · rfl
      apply RG.wpDet_cons
      · intro w9 hw9
        repeat go_step
        refine (R5.out _).mono ?_
        rintro e w10 ⟨rfl, rfl⟩
        simp only []
        repeat go_step
        with_reducible refine RG.only_mk ?_
        exact hw9
      · rfl
      iterate 2
        apply RG.wpDet_cons
        · intro w9 hw9
          repeat go_step
          with_reducible refine RG.only_mk ?_
          exact hw9
        · rfl
      apply RG.wpDet_cons
      · intro w9 hw9
        repeat go_step
        refine (R6.out _).mono ?_
        rintro e w10 ⟨rfl, rfl⟩
        simp only []
        repeat go_step
        with_reducible refine RG.only_mk ?_
        exact hw9
      · rfl
      iterate 2
        apply RG.wpDet_cons
        · intro w9 hw9
          repeat go_step
          with_reducible refine RG.only_mk ?_
          exact hw9
        · rfl
      refine RG.wpDet_nil (fun w5 hw5 => ?_)
      go_upto_region 13 with fail
      refine RG.wp_region_plain (fun X => Hid (BlkI w [s0, s1, s2, s3, s4, s5, s6, s7] ws g1 X)) hw5 ?_
      clear hw5
      iterate 12
        apply RG.wpDet_cons
        · intro w9 hw9
          repeat go_step
          with_reducible refine RG.only_mk ?_
          exact hw9
        · rfl
      refine RG.wpDet_nil (fun w5 hw5 => ?_)
      go_upto_region 14 with fail
      refine RG.wp_region_plain (fun X => Hid (BlkI w [s0, s1, s2, s3, s4, s5, s6, s7] ws g1 X)) hw5 ?_
      clear hw5
      iterate 4
        apply RG.wpDet_cons
        · intro w9 hw9
          repeat go_step
          with_reducible refine RG.only_mk ?_
          exact hw9
        · rfl
      refine RG.wpDet_nil (fun w5 hw5 => ?_)
      go_upto_region 15 with fail
      refine RG.wp_region_plain (fun X => Hid (BlkI w [s0, s1, s2, s3, s4, s5, s6, s7] ws g1 X)) hw5 ?_
      clear hw5
      iterate 10
        apply RG.wpDet_cons
        · intro w9 hw9
          repeat go_step
          with_reducible refine RG.only_mk ?_
          exact hw9
        · rfl
      refine RG.wpDet_nil (fun w5 hw5 => ?_)
      go_upto_region 16 with fail
      refine RG.wp_region_plain (fun X => Hid (BlkI w [s0, s1, s2, s3, s4, s5, s6, s7] ws g1 X)) hw5 ?_
      clear hw5
      iterate 10
        apply RG.wpDet_cons
        · intro w9 hw9
          repeat go_step
          with_reducible refine RG.only_mk ?_
          exact hw9
        · rfl
      refine RG.wpDet_nil (fun w5 hw5 => ?_)
      go_wp2
      exact ⟨⟨k + 1, _, _, _, _, _, _, _, _, by omega, by go_num, rfl, rfl, rfl, rfl, rfl, rfl, rfl, rfl, Lib.hid ⟨HU.out, hw5.out⟩⟩, by simp [intOf]; omega⟩
    · obtain rfl : k = 64 := by omega
      rw [← hr.out.1] at HF
      have q0 : wr.cell? ⟨w.heap.size, 0, none⟩ = some (.int .u32 s0) := cell_blk hr.out.2.st 0
      have q1 : wr.cell? ⟨w.heap.size, 1, none⟩ = some (.int .u32 s1) := cell_blk hr.out.2.st 1
      have q2 : wr.cell? ⟨w.heap.size, 2, none⟩ = some (.int .u32 s2) := cell_blk hr.out.2.st 2
      have q3 : wr.cell? ⟨w.heap.size, 3, none⟩ = some (.int .u32 s3) := cell_blk hr.out.2.st 3
      have q4 : wr.cell? ⟨w.heap.size, 4, none⟩ = some (.int .u32 s4) := cell_blk hr.out.2.st 4
      have q5 : wr.cell? ⟨w.heap.size, 5, none⟩ = some (.int .u32 s5) := cell_blk hr.out.2.st 5
      have q6 : wr.cell? ⟨w.heap.size, 6, none⟩ = some (.int .u32 s6) := cell_blk hr.out.2.st 6
      have q7 : wr.cell? ⟨w.heap.size, 7, none⟩ = some (.int .u32 s7) := cell_blk hr.out.2.st 7
      have f0 : wr.cell? ⟨w.heap.size + 1, 0, none⟩ = some (.int .u32 0) := cell_blk hr.out.2.res 0
      have x0 := free_blk hr.out.2.res 0
      have f1 : wr.cell? ⟨w.heap.size + 1, 1, none⟩ = some (.int .u32 0) := cell_blk hr.out.2.res 1
      have x1 := free_blk hr.out.2.res 1
      have f2 : wr.cell? ⟨w.heap.size + 1, 2, none⟩ = some (.int .u32 0) := cell_blk hr.out.2.res 2
      have x2 := free_blk hr.out.2.res 2
      have f3 : wr.cell? ⟨w.heap.size + 1, 3, none⟩ = some (.int .u32 0) := cell_blk hr.out.2.res 3
      have x3 := free_blk hr.out.2.res 3
      have f4 : wr.cell? ⟨w.heap.size + 1, 4, none⟩ = some (.int .u32 0) := cell_blk hr.out.2.res 4
      have x4 := free_blk hr.out.2.res 4
      have f5 : wr.cell? ⟨w.heap.size + 1, 5, none⟩ = some (.int .u32 0) := cell_blk hr.out.2.res 5
      have x5 := free_blk hr.out.2.res 5
      have f6 : wr.cell? ⟨w.heap.size + 1, 6, none⟩ = some (.int .u32 0) := cell_blk hr.out.2.res 6
      have x6 := free_blk hr.out.2.res 6
      have f7 : wr.cell? ⟨w.heap.size + 1, 7, none⟩ = some (.int .u32 0) := cell_blk hr.out.2.res 7
      have x7 := free_blk hr.out.2.res 7
      have HRS := Lib.hid hr.out.2.res
      have HBL := Lib.hid hr.out.2.bel
      clear hr
      go_wp2
      refine bodyPost_ret (v := .agg (encW (add8 ⟨s0, s1, s2, s3, s4, s5, s6, s7⟩ ⟨xa, xb, xc, xd, xe, xf, xg, xh⟩).list)) (by simp [results, Tryz.results273, go_sem, f0, f1, f2, f3, f4, f5, f6, f7]; rfl) rfl ?_
      rw [HF.out]
      refine ⟨rfl, ?_⟩
      have h := HBL.out
      clear f0 q0 x0 f1 q1 x1 f2 q2 x2 f3 q3 x3 f4 q4 x4 f5 q5 x5 f6 q6 x6 f7 q7 x7
      have k0 := bel_set1 h 0 (.int .u32 ((s0 + xa) % 4294967296))
      have k1 := bel_set1 k0 1 (.int .u32 ((s1 + xb) % 4294967296))
      have k2 := bel_set1 k1 2 (.int .u32 ((s2 + xc) % 4294967296))
      have k3 := bel_set1 k2 3 (.int .u32 ((s3 + xd) % 4294967296))
      have k4 := bel_set1 k3 4 (.int .u32 ((s4 + xe) % 4294967296))
      have k5 := bel_set1 k4 5 (.int .u32 ((s5 + xf) % 4294967296))
      have k6 := bel_set1 k5 6 (.int .u32 ((s6 + xg) % 4294967296))
      have k7 := bel_set1 k6 7 (.int .u32 ((s7 + xh) % 4294967296))
      with_reducible exact k7
end Go.Proofs.YtomnljigoljldaaGreatDoor.SH

/- What imap.Do returns at a command of two words that needs nothing: NOOP, CAPABILITY, LOGOUT. Conditions: the command's rows read as these texts; lengths. -/
import Derived.Test.YtomnljigoljldaaGreatDoorImapFin
import Derived.Laws.EntriesVeiled
import Derived.Test.YtomnljigoljldaaGreatDoorVerbAwake
namespace Go.Proofs.YtomnljigoljldaaGreatDoor.IM
open Go.RowKit MM BU Mailsack

theorem bel_more {B : Nat} {a w : World} (h : Below B a w) (hB : B ≤ a.heap.size) (o : Obj) : Below B a (w.alloc o) := h.alloc (Nat.le_trans hB h.size) o
/-- six new blocks -/
structure Six (w : World) (o0 o1 o2 o3 o4 o5 : Obj) (W : World) : Prop where
  p0 : W.heap[w.heap.size]? = some o0
  p1 : W.heap[w.heap.size + 1]? = some o1
  p2 : W.heap[w.heap.size + 2]? = some o2
  p3 : W.heap[w.heap.size + 3]? = some o3
  p4 : W.heap[w.heap.size + 4]? = some o4
  p5 : W.heap[w.heap.size + 5]? = some o5
  size : W.heap.size = w.heap.size + 6
  bel : Below w.heap.size w W
theorem six (w : World) (o0 o1 o2 o3 o4 o5 : Obj) : Six w o0 o1 o2 o3 o4 o5 ((((((w.alloc o0).alloc o1).alloc o2).alloc o3).alloc o4).alloc o5) := by
  have hp : ∀ (w : World) (o : Obj), (w.alloc o).heap = w.heap.push o := fun _ _ => rfl
  refine ⟨?_, ?_, ?_, ?_, ?_, ?_, by simp, ?_⟩
  · simp only [hp]; rw [Array.getElem?_eq_getElem (by simp <;> omega)]; simp [Array.getElem_push]; repeat rw [if_pos (by omega)]
  · simp only [hp]; rw [Array.getElem?_eq_getElem (by simp)]; simp [Array.getElem_push]
  · simp only [hp]; rw [Array.getElem?_eq_getElem (by simp)]; simp [Array.getElem_push]
  · simp only [hp]; rw [Array.getElem?_eq_getElem (by simp)]; simp [Array.getElem_push]
  · simp only [hp]; rw [Array.getElem?_eq_getElem (by simp)]; simp [Array.getElem_push]
  · simp only [hp]; rw [Array.getElem?_eq_getElem (by simp)]; simp [Array.getElem_push]
  · have hB := Nat.le_refl w.heap.size
    exact bel_more (bel_more (bel_more (bel_more (bel_more (bel_more (Below.refl _ _) hB _) hB _) hB _) hB _) hB _) hB _
theorem done_txt (out tag : Bs) : (⟨out.toArray⟩ : ByteArray) ++ ⟨tag.toArray⟩ ++ ⟨#[32, 79, 75]⟩ ++ ⟨#[13, 10]⟩ = ⟨(out ++ tag ++ [32, 79, 75, 13, 10]).toArray⟩ := by
  apply ByteArray.ext
  simp
theorem cmd_new {w : World} {b : Nat} {cs : Array Value} (h : w.heap[b]? = some (.cells cs 157 (0, 0))) (hs : cs.size = 22) (h1 : cs[20]? = some (.pointer none)) (h2 : cs[21]? = some (.slice none 0 0)) : Cmd b cs [] w :=
  ⟨h, hs, _, _, h1, h2, .inl rfl, World.ownsRow_nil _ _ _ _, by simp [Value.ownBlock], fun _ => rfl⟩

set_option maxHeartbeats 16000000 in
set_option maxRecDepth 100000 in
theorem do_noop (d0 d1 s0 s1 s2 s3 s4 s5 s6 s7 s8 s9 n0 n1 n2 n3 n4 n5 xv lv : Value) (X L : List Bs) (tag nm : Bs) (w : World)
    (hx : RdS w w.heap.size xv X) (hl : RdS w w.heap.size lv L) (hX : ∀ x ∈ X, x.length ≤ 1000000) (hn : X.length ≤ 1000) (hn2 : L.length ≤ 1000)
    (hone : ∀ v ∈ [d0, d1, s0, s1, s2, s3, s4, s5, s6, s7, s8, s9], v.oneCell' = true)
    (hT : tokensP X L = some [(0, tag), (0, nm)]) (htag : tag ≠ [42]) (hnm : upP nm = [78, 79, 79, 80]) (htl : tag.length ≤ 1000000) (hnl : nm.length ≤ 1000000) :
    Calls Tryz.prog 38 #[.agg #[d0, d1], .agg #[s0, s1, s2, s3, s4, s5, s6, s7, s8, s9], .agg #[xv, lv], .agg #[n0, n1, n2, n3, n4, n5]] w fun e w' =>
      e = .returned (.tuple #[.agg #[d0, d1], .agg #[s0, s1, s2, s3, s4, s5, s6, s7, s8, s9], strV (([] : Bs) ++ tag ++ [32, 79, 75, 13, 10])]) ∧ Below w.heap.size w w' := by
  have HT := Lib.hid (fun W (h : Below w.heap.size w W) => by
    have := VB.tokens_any xv lv X L W ((hx.below h (Nat.le_refl _)).more h.size) ((hl.below h (Nat.le_refl _)).more h.size) hX hn hn2
    rw [hT] at this
    exact this)
  have Hone := Lib.hid hone
  clear hx hl hX hn hn2 hT hone
  have H6 := Lib.hid (six w (dskO d0 d1) (staO s0 s1 s2 s3 s4 s5 s6 s7 s8 s9) (.cells #[xv, lv] 100) (drwO n0 n1 n2 n3 n4 n5) (dskO (.slice none 0 0) (.slice none 0 0)) staZ)
  obtain ⟨tb, htb⟩ : ∃ tb : ByteArray, (⟨tag.toArray⟩ : ByteArray) = tb := ⟨_, rfl⟩
  have hts : tb.size ≤ 1000000 := by rw [← htb]; exact htl
  have hstar : (tb.toList == [42]) = false := by rw [← htb, ByteArray.toList_eq]; exact beq_eq_false_iff_ne.2 htag
  have HTB := Lib.hid htb
  have HU : Hid (∀ W, Calls Tryz.prog 72 #[strV nm] W fun e w' => e = .returned (.string ⟨#[78, 79, 79, 80]⟩) ∧ Below W.heap.size W w') := Lib.hid (fun W => by
    have := VB.upper_any ⟨nm.toArray⟩ W (by show nm.length < _; omega)
    rw [show (⟨nm.toArray⟩ : ByteArray).data.toList = nm from rfl, hnm] at this
    exact this)
  clear htag hnm htl htb
  go_enter Tryz.func38, Tryz.ntmps38
  go_wp2_with fail
  refine (HT.out _ H6.out.bel).mono ?_
  rintro e w1 ⟨v, rfl, hown, hb1⟩
  obtain ⟨g, cap, rfl, hcap, hg, hcl⟩ := VB.own_cell hown (by simp)
  have k0 : w1.cell? ⟨g, 0, none⟩ = some (.int .i64 0) := hcl 0 _ rfl
  have k1 : w1.cell? ⟨g, 1, none⟩ = some (.string tb) := by rw [← HTB.out]; exact hcl 1 _ rfl
  have k2 : w1.cell? ⟨g, 2, none⟩ = some (.int .i64 0) := hcl 2 _ rfl
  have k3 : w1.cell? ⟨g, 3, none⟩ = some (strV nm) := hcl 3 _ rfl
  have HB1 := Lib.hid (H6.out.bel.trans (hb1.mono H6.out.bel.size))
  have hz6 := H6.out.size
  have P0 := Lib.hid (blk_below H6.out.p0 hb1 (by omega))
  have P1 := Lib.hid (blk_below H6.out.p1 hb1 (by omega))
  have P3 : Hid (w1.heap[w.heap.size + 1 + 1 + 1]? = some (drwO n0 n1 n2 n3 n4 n5)) := Lib.hid (blk_below H6.out.p3 hb1 (by omega))
  have P4 : Hid (w1.heap[w.heap.size + 1 + 1 + 1 + 1]? = some (dskO (.slice none 0 0) (.slice none 0 0))) := Lib.hid (blk_below H6.out.p4 hb1 (by omega))
  have P5 : Hid (w1.heap[w.heap.size + 1 + 1 + 1 + 1 + 1]? = some staZ) := Lib.hid (blk_below H6.out.p5 hb1 (by omega))
  have hz1 : w.heap.size + 6 ≤ w1.heap.size := by have := hb1.size; omega
  clear hown hb1 hcl hz6 H6 HT
  simp only [List.length_cons, List.length_nil] at hcap ⊢
  by_cases hc2 : cap = 2
  · subst hc2
    go_upto_region 4 with fail
    refine RG.wp_region_det (fun W => Hid (Below w1.heap.size w1 W)) (by kernel_rfl) (by kernel_rfl) (Lib.hid (Below.refl _ _).drew) ?_
    iterate 8
      apply RG.wpDet_cons
      · intro w9 hw9
        have q1 := (hw9.out.cell (p := ⟨g, 1, none⟩) hg).trans k1
        have q3 := (hw9.out.cell (p := ⟨g, 3, none⟩) hg).trans k3
        repeat go_step
        with_reducible refine RG.only_mk ?_
        exact hw9
      · rfl
    apply RG.wpDet_cons
    · intro w9 hw9
      repeat go_step
      refine (HU.out w9).mono ?_
      rintro e w10 ⟨rfl, hb10⟩
      simp only []
      repeat go_step
      with_reducible refine RG.only_mk ?_
      exact Lib.hid (hw9.out.trans (hb10.mono hw9.out.size))
    · rfl
    iterate 5
      apply RG.wpDet_cons
      · intro w9 hw9
        repeat go_step
        with_reducible refine RG.only_mk ?_
        exact hw9
      · rfl
    refine RG.wpDet_nil (fun w2 hb2 => ?_)
    have HB2 := Lib.hid (HB1.out.trans (hb2.out.mono HB1.out.size))
    have Q0 := Lib.hid (blk_below P0.out hb2.out (blk_lt P0.out))
    have Q1 := Lib.hid (blk_below P1.out hb2.out (blk_lt P1.out))
    have Q3 := Lib.hid (blk_below P3.out hb2.out (blk_lt P3.out))
    have Q4 := Lib.hid (blk_below P4.out hb2.out (blk_lt P4.out))
    have Q5 := Lib.hid (blk_below P5.out hb2.out (blk_lt P5.out))
    have hz2 : w.heap.size + 6 ≤ w2.heap.size := Nat.le_trans hz1 hb2.out.size
    clear hb2 P0 P1 P3 P4 P5 HB1 k0 k1 k2 k3 hg hz1 HU hstar hnl
    have a0 : w2.cell? ⟨w.heap.size, 0, none⟩ = some d0 := cell_blk Q0.out 0
    have a1 : w2.cell? ⟨w.heap.size, 1, none⟩ = some d1 := cell_blk Q0.out 1
    have c0 : w2.cell? ⟨w.heap.size + 1, 0, none⟩ = some s0 := cell_blk Q1.out 0
    have c1 : w2.cell? ⟨w.heap.size + 1, 1, none⟩ = some s1 := cell_blk Q1.out 1
    have c2 : w2.cell? ⟨w.heap.size + 1, 2, none⟩ = some s2 := cell_blk Q1.out 2
    have c3 : w2.cell? ⟨w.heap.size + 1, 3, none⟩ = some s3 := cell_blk Q1.out 3
    have c4 : w2.cell? ⟨w.heap.size + 1, 4, none⟩ = some s4 := cell_blk Q1.out 4
    have c5 : w2.cell? ⟨w.heap.size + 1, 5, none⟩ = some s5 := cell_blk Q1.out 5
    have c6 : w2.cell? ⟨w.heap.size + 1, 6, none⟩ = some s6 := cell_blk Q1.out 6
    have c7 : w2.cell? ⟨w.heap.size + 1, 7, none⟩ = some s7 := cell_blk Q1.out 7
    have c8 : w2.cell? ⟨w.heap.size + 1, 8, none⟩ = some s8 := cell_blk Q1.out 8
    have c9 : w2.cell? ⟨w.heap.size + 1, 9, none⟩ = some s9 := cell_blk Q1.out 9
    have e0 : w2.cell? ⟨w.heap.size + 1 + 1 + 1, 0, none⟩ = some n0 := cell_blk Q3.out 0
    have e1 : w2.cell? ⟨w.heap.size + 1 + 1 + 1, 1, none⟩ = some n1 := cell_blk Q3.out 1
    have e2 : w2.cell? ⟨w.heap.size + 1 + 1 + 1, 2, none⟩ = some n2 := cell_blk Q3.out 2
    have e3 : w2.cell? ⟨w.heap.size + 1 + 1 + 1, 3, none⟩ = some n3 := cell_blk Q3.out 3
    have e4 : w2.cell? ⟨w.heap.size + 1 + 1 + 1, 4, none⟩ = some n4 := cell_blk Q3.out 4
    have e5 : w2.cell? ⟨w.heap.size + 1 + 1 + 1, 5, none⟩ = some n5 := cell_blk Q3.out 5
    go_wp2_with fail
    generalize hsl : Value.slice (some ⟨g, 0, none⟩) 0 0 = sl
    have HSL : Hid (∃ A c, sl = .slice A 0 c) := Lib.hid ⟨_, _, hsl.symm⟩
    clear hsl
    have HC0 := Lib.hid (cmd_new (blk_new w2 (.cells #[d0, d1, s0, s1, s2, s3, s4, s5, s6, s7, s8, s9, n0, n1, n2, n3, n4, n5, sl, .bool false, .pointer none, .slice none 0 0] 157)) rfl rfl rfl)
    clear a0 a1 c0 c1 c2 c3 c4 c5 c6 c7 c8 c9 e0 e1 e2 e3 e4 e5
    refine (table_any _).mono ?_
    rintro e w3 ⟨rfl, hmap, hb3⟩
    have hz2' : (w2.alloc (.cells #[d0, d1, s0, s1, s2, s3, s4, s5, s6, s7, s8, s9, n0, n1, n2, n3, n4, n5, sl, .bool false, .pointer none, .slice none 0 0] 157)).heap.size = w2.heap.size + 1 := by simp
    have hlook : (Instr.lookup 163 (.map (some (w2.heap.size + 1))) (.string ⟨#[78, 79, 79, 80]⟩) true).run Tryz.prog w3 = .ok (.tuple #[.agg #[.int .i64 0, .func (.func 133) #[] #[]], .bool true]) w3 := by
      rw [hz2'] at hmap
      exact hmap.hit tabL_short Tryz.underlying163 (s := [78, 79, 79, 80]) (by decide) (List.mem_of_getElem? (i := 1) rfl) (fun u hu => by simpa [tabL] using hu)
    have R0 := Lib.hid (blk_below (blk_alloc Q0.out _) hb3 (Nat.lt_trans (blk_lt Q0.out) (by rw [hz2']; omega)))
    have R1 := Lib.hid (blk_below (blk_alloc Q1.out _) hb3 (Nat.lt_trans (blk_lt Q1.out) (by rw [hz2']; omega)))
    have R4 := Lib.hid (blk_below (blk_alloc Q4.out _) hb3 (Nat.lt_trans (blk_lt Q4.out) (by rw [hz2']; omega)))
    have R5 := Lib.hid (blk_below (blk_alloc Q5.out _) hb3 (Nat.lt_trans (blk_lt Q5.out) (by rw [hz2']; omega)))
    have RC := Lib.hid (blk_below HC0.out.blk hb3 (by rw [hz2']; omega))
    have HB3 := Lib.hid ((HB2.out.alloc HB2.out.size _).trans (hb3.mono (by rw [hz2']; have := HB2.out.size; omega)))
    have hz3 : w2.heap.size + 1 ≤ w3.heap.size := by have := hb3.size; omega
    clear hmap hb3 hz2' Q0 Q1 Q3 Q4 Q5 HC0 HB2
    have m1 : (w3.alloc (.cells #[.int .i64 0, .nilFunc] 161)).cell? ⟨w3.heap.size, 1, none⟩ = some .nilFunc := cell_blk (blk_new _ _) 1
    have m2 : (w3.alloc (.cells #[.int .i64 0, .nilFunc] 161)).frozen? ⟨w3.heap.size, 1, none⟩ = false := free_blk (blk_new _ _) 1
    go_wp2_with fail
    refine (meets_none _ _).mono ?_
    rintro e w4 ⟨rfl, rfl⟩
    obtain ⟨A9, c9, rfl⟩ := HSL.out
    have S4 := Lib.hid (blk_alloc R4.out (.cells #[.int .i64 0, .func (.func 133) #[] #[]] 161))
    have S5 := Lib.hid (blk_alloc R5.out (.cells #[.int .i64 0, .func (.func 133) #[] #[]] 161))
    have SC := Lib.hid (blk_alloc RC.out (.cells #[.int .i64 0, .func (.func 133) #[] #[]] 161))
    have HB4 := Lib.hid (HB3.out.alloc HB3.out.size (.cells #[.int .i64 0, .func (.func 133) #[] #[]] 161))
    clear R0 R1 R4 R5 RC HB3 m1 m2 HSL
    have k18 : (w3.alloc (.cells #[.int .i64 0, .func (.func 133) #[] #[]] 161)).cell? ⟨w2.heap.size, 18, none⟩ = some (.slice A9 0 c9) := cell_blk SC.out 18
    go_wp2_with fail
    refine (noop_any _ A9 c9 _ k18).mono ?_
    rintro e w5 ⟨rfl, rfl⟩
    clear k18 hlook
    generalize (w3.alloc (.cells #[.int .i64 0, .func (.func 133) #[] #[]] 161)) = w4 at S4 S5 SC HB4 ⊢
    go_upto_region 18 with fail
    obtain ⟨l, hl⟩ : ∃ l : Bs, ([] : Bs) = l := ⟨_, rfl⟩
    have HF : Hid (FinI w w2.heap.size (w.heap.size + 1 + 1 + 1 + 1) (w.heap.size + 1 + 1 + 1 + 1 + 1) #[d0, d1, s0, s1, s2, s3, s4, s5, s6, s7, s8, s9, n0, n1, n2, n3, n4, n5, .slice A9 0 c9, .bool false, .pointer none, .slice none 0 0] l false false false (dskO d0 d1) (staO s0 s1 s2 s3 s4 s5 s6 s7 s8 s9) w4) :=
      Lib.hid ⟨HB4.out, SC.out, fun _ => hl ▸ cmd_new SC.out rfl rfl rfl, S4.out, S5.out⟩
    clear S4 S5 SC HB4
    have HL : Hid (([] : Bs) = l) := Lib.hid hl
    have hlb : (⟨l.toArray⟩ : ByteArray).size ≤ 100 := by rw [← hl]; decide
    clear hl
    obtain ⟨lb, hlb2⟩ : ∃ lb : ByteArray, (⟨l.toArray⟩ : ByteArray) = lb := ⟨_, rfl⟩
    have HLB := Lib.hid hlb2
    have HSTR := Lib.hid (fun w9 (h : Cmd w2.heap.size #[d0, d1, s0, s1, s2, s3, s4, s5, s6, s7, s8, s9, n0, n1, n2, n3, n4, n5, .slice A9 0 c9, .bool false, .pointer none, .slice none 0 0] l w9) => stringE_any w2.heap.size #[d0, d1, s0, s1, s2, s3, s4, s5, s6, s7, s8, s9, n0, n1, n2, n3, n4, n5, .slice A9 0 c9, .bool false, .pointer none, .slice none 0 0] l w9 h)
    rw [hlb2] at hlb HSTR
    clear hlb2
    have big0 : ¬ 9223372036854775807 < lb.size + tb.size := by omega
    have big1 : ¬ 9223372036854775807 < lb.size + tb.size + 3 := by omega
    have big2 : ¬ 9223372036854775807 < lb.size + tb.size + 3 + 2 := by omega
    have T0 := fun (W : World) (a : Addr) => run_store Tryz.prog W a d0 .plain (Hone.out d0 (by simp))
    have T1 := fun (W : World) (a : Addr) => run_store Tryz.prog W a d1 .plain (Hone.out d1 (by simp))
    have T2 := fun (W : World) (a : Addr) => run_store Tryz.prog W a s0 .plain (Hone.out s0 (by simp))
    have T3 := fun (W : World) (a : Addr) => run_store Tryz.prog W a s1 .plain (Hone.out s1 (by simp))
    have T4 := fun (W : World) (a : Addr) => run_store Tryz.prog W a s2 .plain (Hone.out s2 (by simp))
    have T5 := fun (W : World) (a : Addr) => run_store Tryz.prog W a s3 .plain (Hone.out s3 (by simp))
    have T6 := fun (W : World) (a : Addr) => run_store Tryz.prog W a s4 .plain (Hone.out s4 (by simp))
    have T7 := fun (W : World) (a : Addr) => run_store Tryz.prog W a s5 .plain (Hone.out s5 (by simp))
    have T8 := fun (W : World) (a : Addr) => run_store Tryz.prog W a s6 .plain (Hone.out s6 (by simp))
    have T9 := fun (W : World) (a : Addr) => run_store Tryz.prog W a s7 .plain (Hone.out s7 (by simp))
    have T10 := fun (W : World) (a : Addr) => run_store Tryz.prog W a s8 .plain (Hone.out s8 (by simp))
    have T11 := fun (W : World) (a : Addr) => run_store Tryz.prog W a s9 .plain (Hone.out s9 (by simp))
    refine RG.wp_region_detL [11, 16, 17] (fun L W => Hid (FinI w w2.heap.size (w.heap.size + 1 + 1 + 1 + 1) (w.heap.size + 1 + 1 + 1 + 1 + 1) #[d0, d1, s0, s1, s2, s3, s4, s5, s6, s7, s8, s9, n0, n1, n2, n3, n4, n5, .slice A9 0 c9, .bool false, .pointer none, .slice none 0 0] l (L 11) (L 16) (L 17) (dskO d0 d1) (staO s0 s1 s2 s3 s4 s5 s6 s7 s8 s9) W)) (fun L L' W h hI => by rw [← h 11 (by decide), ← h 16 (by decide), ← h 17 (by decide)]; exact hI) (by kernel_rfl) (by kernel_rfl) (by decide) (Lib.hid HF.out.drew) ?_
    iterate 3
      apply RG.wpDetL_still
      · rfl
      · intro L w9 hw9
        repeat go_step
        with_reducible refine RG.only_mk ?_
        exact hw9
      · rfl
    iterate 1
      apply RG.wpDetL_still
      · rfl
      · intro L w9 hw9
        have q0 := cell_blk hw9.out.cmd 0
        have q1 := cell_blk hw9.out.cmd 1
        repeat go_step
        with_reducible refine RG.only_mk ?_
        exact hw9
      · rfl
    iterate 3
      apply RG.wpDetL_still
      · rfl
      · intro L w9 hw9
        repeat go_step
        with_reducible refine RG.only_mk ?_
        exact hw9
      · rfl
    iterate 1
      apply RG.wpDetL_still
      · rfl
      · intro L w9 hw9
        have q2 := cell_blk hw9.out.cmd 2
        have q3 := cell_blk hw9.out.cmd 3
        have q4 := cell_blk hw9.out.cmd 4
        have q5 := cell_blk hw9.out.cmd 5
        have q6 := cell_blk hw9.out.cmd 6
        have q7 := cell_blk hw9.out.cmd 7
        have q8 := cell_blk hw9.out.cmd 8
        have q9 := cell_blk hw9.out.cmd 9
        have q10 := cell_blk hw9.out.cmd 10
        have q11 := cell_blk hw9.out.cmd 11
        repeat go_step
        with_reducible refine RG.only_mk ?_
        exact hw9
      · rfl
    iterate 3
      apply RG.wpDetL_still
      · rfl
      · intro L w9 hw9
        repeat go_step
        with_reducible refine RG.only_mk ?_
        exact hw9
      · rfl
    apply RG.wpDetL_turn
    · rfl
    · intro L w9 h0 _ hw9
      have hcmd := hw9.out.bld h0
      repeat go_step
      refine (HSTR.out w9 hcmd).mono ?_
      rintro e w10 ⟨rfl, hb10, he10⟩
      simp only []
      repeat go_step
      with_reducible refine RG.only_mk ?_
      exact Lib.hid (hw9.out.call hb10 he10 (by omega) (by omega) (by omega))
    · rfl
    iterate 4
      apply RG.wpDetL_still
      · rfl
      · intro L w9 hw9
        repeat go_step
        with_reducible refine RG.only_mk ?_
        exact hw9
      · rfl
    apply RG.wpDetL_turn
    · rfl
    · intro L w9 h0 _ hw9
      have hh := hw9.out
      rw [h0] at hh
      have r4 := hh.r4
      rw [if_neg (by simp)] at r4
      have f0 := cell_blk r4 0
      have f1 := cell_blk r4 1
      have y0 := free_blk r4 0
      have y1 := free_blk r4 1
      have HH := Lib.hid hh
      clear hw9 hh r4
      repeat go_step
      with_reducible refine RG.only_mk ?_
      show Hid (FinI w _ _ _ _ _ (L 11) true (L 17) _ _ _)
      with_reducible exact Lib.hid (FinI.st1 HH.out (by omega) (by omega) (by omega))
    · rfl
    apply RG.wpDetL_turn
    · rfl
    · intro L w9 h0 _ hw9
      have hh := hw9.out
      rw [h0] at hh
      have r5 := hh.r5
      rw [if_neg (by simp)] at r5
      have f0 := cell_blk r5 0
      have y0 := free_blk r5 0
      have f1 := cell_blk r5 1
      have y1 := free_blk r5 1
      have f2 := cell_blk r5 2
      have y2 := free_blk r5 2
      have f3 := cell_blk r5 3
      have y3 := free_blk r5 3
      have f4 := cell_blk r5 4
      have y4 := free_blk r5 4
      have f5 := cell_blk r5 5
      have y5 := free_blk r5 5
      have f6 := cell_blk r5 6
      have y6 := free_blk r5 6
      have f7 := cell_blk r5 7
      have y7 := free_blk r5 7
      have f8 := cell_blk r5 8
      have y8 := free_blk r5 8
      have f9 := cell_blk r5 9
      have y9 := free_blk r5 9
      have HH := Lib.hid hh
      clear hw9 hh r5
      repeat go_step
      with_reducible refine RG.only_mk ?_
      show Hid (FinI w _ _ _ _ _ (L 11) (L 16) true _ _ _)
      with_reducible exact Lib.hid (FinI.st2 HH.out (by omega) (by omega) (by omega))
    · rfl
    iterate 1
      apply RG.wpDetL_still
      · rfl
      · intro L w9 hw9
        repeat go_step
        with_reducible refine RG.only_mk ?_
        exact hw9
      · rfl
    refine RG.wpDetL_nil (fun w9 hw9 => ?_)
    have fin : FinI w w2.heap.size (w.heap.size + 1 + 1 + 1 + 1) (w.heap.size + 1 + 1 + 1 + 1 + 1) #[d0, d1, s0, s1, s2, s3, s4, s5, s6, s7, s8, s9, n0, n1, n2, n3, n4, n5, .slice A9 0 c9, .bool false, .pointer none, .slice none 0 0] l true true true (dskO d0 d1) (staO s0 s1 s2 s3 s4 s5 s6 s7 s8 s9) w9 := hw9.out
    have r4 := fin.r4
    have r5 := fin.r5
    rw [if_pos rfl] at r4 r5
    have f0 := cell_blk r4 0
    have f1 := cell_blk r4 1
    have g0 := cell_blk r5 0
    have g1 := cell_blk r5 1
    have g2 := cell_blk r5 2
    have g3 := cell_blk r5 3
    have g4 := cell_blk r5 4
    have g5 := cell_blk r5 5
    have g6 := cell_blk r5 6
    have g7 := cell_blk r5 7
    have g8 := cell_blk r5 8
    have g9 := cell_blk r5 9
    have HBE := Lib.hid fin.bel
    clear hw9 fin r4 r5 HF T0 T1 T2 T3 T4 T5 T6 T7 T8 T9 T10 T11
    go_wp2
    refine bodyPost_ret (v := .tuple #[.agg #[d0, d1], .agg #[s0, s1, s2, s3, s4, s5, s6, s7, s8, s9], .string (lb ++ tb ++ ⟨#[32, 79, 75]⟩ ++ ⟨#[13, 10]⟩)]) (by simp [results, Tryz.results38, go_sem, f0, f1, g0, g1, g2, g3, g4, g5, g6, g7, g8, g9]) rfl ?_
    refine ⟨?_, HBE.out⟩
    rw [← HTB.out, ← HLB.out, done_txt, ← HL.out]
    rfl
  · go_upto_region 4 with fail
    refine RG.wp_region_det (fun W => Hid (Below w1.heap.size w1 W)) (by kernel_rfl) (by kernel_rfl) (Lib.hid (Below.refl _ _).drew) ?_
    iterate 8
      apply RG.wpDet_cons
      · intro w9 hw9
        have q1 := (hw9.out.cell (p := ⟨g, 1, none⟩) hg).trans k1
        have q3 := (hw9.out.cell (p := ⟨g, 3, none⟩) hg).trans k3
        repeat go_step
        with_reducible refine RG.only_mk ?_
        exact hw9
      · rfl
    apply RG.wpDet_cons
    · intro w9 hw9
      repeat go_step
      refine (HU.out w9).mono ?_
      rintro e w10 ⟨rfl, hb10⟩
      simp only []
      repeat go_step
      with_reducible refine RG.only_mk ?_
      exact Lib.hid (hw9.out.trans (hb10.mono hw9.out.size))
    · rfl
    iterate 5
      apply RG.wpDet_cons
      · intro w9 hw9
        repeat go_step
        with_reducible refine RG.only_mk ?_
        exact hw9
      · rfl
    refine RG.wpDet_nil (fun w2 hb2 => ?_)
    have HB2 := Lib.hid (HB1.out.trans (hb2.out.mono HB1.out.size))
    have Q0 := Lib.hid (blk_below P0.out hb2.out (blk_lt P0.out))
    have Q1 := Lib.hid (blk_below P1.out hb2.out (blk_lt P1.out))
    have Q3 := Lib.hid (blk_below P3.out hb2.out (blk_lt P3.out))
    have Q4 := Lib.hid (blk_below P4.out hb2.out (blk_lt P4.out))
    have Q5 := Lib.hid (blk_below P5.out hb2.out (blk_lt P5.out))
    have hz2 : w.heap.size + 6 ≤ w2.heap.size := Nat.le_trans hz1 hb2.out.size
    clear hb2 P0 P1 P3 P4 P5 HB1 k0 k1 k2 k3 hg hz1 HU hstar hnl
    have a0 : w2.cell? ⟨w.heap.size, 0, none⟩ = some d0 := cell_blk Q0.out 0
    have a1 : w2.cell? ⟨w.heap.size, 1, none⟩ = some d1 := cell_blk Q0.out 1
    have c0 : w2.cell? ⟨w.heap.size + 1, 0, none⟩ = some s0 := cell_blk Q1.out 0
    have c1 : w2.cell? ⟨w.heap.size + 1, 1, none⟩ = some s1 := cell_blk Q1.out 1
    have c2 : w2.cell? ⟨w.heap.size + 1, 2, none⟩ = some s2 := cell_blk Q1.out 2
    have c3 : w2.cell? ⟨w.heap.size + 1, 3, none⟩ = some s3 := cell_blk Q1.out 3
    have c4 : w2.cell? ⟨w.heap.size + 1, 4, none⟩ = some s4 := cell_blk Q1.out 4
    have c5 : w2.cell? ⟨w.heap.size + 1, 5, none⟩ = some s5 := cell_blk Q1.out 5
    have c6 : w2.cell? ⟨w.heap.size + 1, 6, none⟩ = some s6 := cell_blk Q1.out 6
    have c7 : w2.cell? ⟨w.heap.size + 1, 7, none⟩ = some s7 := cell_blk Q1.out 7
    have c8 : w2.cell? ⟨w.heap.size + 1, 8, none⟩ = some s8 := cell_blk Q1.out 8
    have c9 : w2.cell? ⟨w.heap.size + 1, 9, none⟩ = some s9 := cell_blk Q1.out 9
    have e0 : w2.cell? ⟨w.heap.size + 1 + 1 + 1, 0, none⟩ = some n0 := cell_blk Q3.out 0
    have e1 : w2.cell? ⟨w.heap.size + 1 + 1 + 1, 1, none⟩ = some n1 := cell_blk Q3.out 1
    have e2 : w2.cell? ⟨w.heap.size + 1 + 1 + 1, 2, none⟩ = some n2 := cell_blk Q3.out 2
    have e3 : w2.cell? ⟨w.heap.size + 1 + 1 + 1, 3, none⟩ = some n3 := cell_blk Q3.out 3
    have e4 : w2.cell? ⟨w.heap.size + 1 + 1 + 1, 4, none⟩ = some n4 := cell_blk Q3.out 4
    have e5 : w2.cell? ⟨w.heap.size + 1 + 1 + 1, 5, none⟩ = some n5 := cell_blk Q3.out 5
    go_wp2_with fail
    generalize hsl : Value.slice (some ⟨g, 4, none⟩) 0 (cap - 2) = sl
    have HSL : Hid (∃ A c, sl = .slice A 0 c) := Lib.hid ⟨_, _, hsl.symm⟩
    clear hsl
    have HC0 := Lib.hid (cmd_new (blk_new w2 (.cells #[d0, d1, s0, s1, s2, s3, s4, s5, s6, s7, s8, s9, n0, n1, n2, n3, n4, n5, sl, .bool false, .pointer none, .slice none 0 0] 157)) rfl rfl rfl)
    clear a0 a1 c0 c1 c2 c3 c4 c5 c6 c7 c8 c9 e0 e1 e2 e3 e4 e5
    refine (table_any _).mono ?_
    rintro e w3 ⟨rfl, hmap, hb3⟩
    have hz2' : (w2.alloc (.cells #[d0, d1, s0, s1, s2, s3, s4, s5, s6, s7, s8, s9, n0, n1, n2, n3, n4, n5, sl, .bool false, .pointer none, .slice none 0 0] 157)).heap.size = w2.heap.size + 1 := by simp
    have hlook : (Instr.lookup 163 (.map (some (w2.heap.size + 1))) (.string ⟨#[78, 79, 79, 80]⟩) true).run Tryz.prog w3 = .ok (.tuple #[.agg #[.int .i64 0, .func (.func 133) #[] #[]], .bool true]) w3 := by
      rw [hz2'] at hmap
      exact hmap.hit tabL_short Tryz.underlying163 (s := [78, 79, 79, 80]) (by decide) (List.mem_of_getElem? (i := 1) rfl) (fun u hu => by simpa [tabL] using hu)
    have R0 := Lib.hid (blk_below (blk_alloc Q0.out _) hb3 (Nat.lt_trans (blk_lt Q0.out) (by rw [hz2']; omega)))
    have R1 := Lib.hid (blk_below (blk_alloc Q1.out _) hb3 (Nat.lt_trans (blk_lt Q1.out) (by rw [hz2']; omega)))
    have R4 := Lib.hid (blk_below (blk_alloc Q4.out _) hb3 (Nat.lt_trans (blk_lt Q4.out) (by rw [hz2']; omega)))
    have R5 := Lib.hid (blk_below (blk_alloc Q5.out _) hb3 (Nat.lt_trans (blk_lt Q5.out) (by rw [hz2']; omega)))
    have RC := Lib.hid (blk_below HC0.out.blk hb3 (by rw [hz2']; omega))
    have HB3 := Lib.hid ((HB2.out.alloc HB2.out.size _).trans (hb3.mono (by rw [hz2']; have := HB2.out.size; omega)))
    have hz3 : w2.heap.size + 1 ≤ w3.heap.size := by have := hb3.size; omega
    clear hmap hb3 hz2' Q0 Q1 Q3 Q4 Q5 HC0 HB2
    have m1 : (w3.alloc (.cells #[.int .i64 0, .nilFunc] 161)).cell? ⟨w3.heap.size, 1, none⟩ = some .nilFunc := cell_blk (blk_new _ _) 1
    have m2 : (w3.alloc (.cells #[.int .i64 0, .nilFunc] 161)).frozen? ⟨w3.heap.size, 1, none⟩ = false := free_blk (blk_new _ _) 1
    go_wp2_with fail
    refine (meets_none _ _).mono ?_
    rintro e w4 ⟨rfl, rfl⟩
    obtain ⟨A9, c9, rfl⟩ := HSL.out
    have S4 := Lib.hid (blk_alloc R4.out (.cells #[.int .i64 0, .func (.func 133) #[] #[]] 161))
    have S5 := Lib.hid (blk_alloc R5.out (.cells #[.int .i64 0, .func (.func 133) #[] #[]] 161))
    have SC := Lib.hid (blk_alloc RC.out (.cells #[.int .i64 0, .func (.func 133) #[] #[]] 161))
    have HB4 := Lib.hid (HB3.out.alloc HB3.out.size (.cells #[.int .i64 0, .func (.func 133) #[] #[]] 161))
    clear R0 R1 R4 R5 RC HB3 m1 m2 HSL
    have k18 : (w3.alloc (.cells #[.int .i64 0, .func (.func 133) #[] #[]] 161)).cell? ⟨w2.heap.size, 18, none⟩ = some (.slice A9 0 c9) := cell_blk SC.out 18
    go_wp2_with fail
    refine (noop_any _ A9 c9 _ k18).mono ?_
    rintro e w5 ⟨rfl, rfl⟩
    clear k18 hlook
    generalize (w3.alloc (.cells #[.int .i64 0, .func (.func 133) #[] #[]] 161)) = w4 at S4 S5 SC HB4 ⊢
    go_upto_region 18 with fail
    obtain ⟨l, hl⟩ : ∃ l : Bs, ([] : Bs) = l := ⟨_, rfl⟩
    have HF : Hid (FinI w w2.heap.size (w.heap.size + 1 + 1 + 1 + 1) (w.heap.size + 1 + 1 + 1 + 1 + 1) #[d0, d1, s0, s1, s2, s3, s4, s5, s6, s7, s8, s9, n0, n1, n2, n3, n4, n5, .slice A9 0 c9, .bool false, .pointer none, .slice none 0 0] l false false false (dskO d0 d1) (staO s0 s1 s2 s3 s4 s5 s6 s7 s8 s9) w4) :=
      Lib.hid ⟨HB4.out, SC.out, fun _ => hl ▸ cmd_new SC.out rfl rfl rfl, S4.out, S5.out⟩
    clear S4 S5 SC HB4
    have HL : Hid (([] : Bs) = l) := Lib.hid hl
    have hlb : (⟨l.toArray⟩ : ByteArray).size ≤ 100 := by rw [← hl]; decide
    clear hl
    obtain ⟨lb, hlb2⟩ : ∃ lb : ByteArray, (⟨l.toArray⟩ : ByteArray) = lb := ⟨_, rfl⟩
    have HLB := Lib.hid hlb2
    have HSTR := Lib.hid (fun w9 (h : Cmd w2.heap.size #[d0, d1, s0, s1, s2, s3, s4, s5, s6, s7, s8, s9, n0, n1, n2, n3, n4, n5, .slice A9 0 c9, .bool false, .pointer none, .slice none 0 0] l w9) => stringE_any w2.heap.size #[d0, d1, s0, s1, s2, s3, s4, s5, s6, s7, s8, s9, n0, n1, n2, n3, n4, n5, .slice A9 0 c9, .bool false, .pointer none, .slice none 0 0] l w9 h)
    rw [hlb2] at hlb HSTR
    clear hlb2
    have big0 : ¬ 9223372036854775807 < lb.size + tb.size := by omega
    have big1 : ¬ 9223372036854775807 < lb.size + tb.size + 3 := by omega
    have big2 : ¬ 9223372036854775807 < lb.size + tb.size + 3 + 2 := by omega
    have T0 := fun (W : World) (a : Addr) => run_store Tryz.prog W a d0 .plain (Hone.out d0 (by simp))
    have T1 := fun (W : World) (a : Addr) => run_store Tryz.prog W a d1 .plain (Hone.out d1 (by simp))
    have T2 := fun (W : World) (a : Addr) => run_store Tryz.prog W a s0 .plain (Hone.out s0 (by simp))
    have T3 := fun (W : World) (a : Addr) => run_store Tryz.prog W a s1 .plain (Hone.out s1 (by simp))
    have T4 := fun (W : World) (a : Addr) => run_store Tryz.prog W a s2 .plain (Hone.out s2 (by simp))
    have T5 := fun (W : World) (a : Addr) => run_store Tryz.prog W a s3 .plain (Hone.out s3 (by simp))
    have T6 := fun (W : World) (a : Addr) => run_store Tryz.prog W a s4 .plain (Hone.out s4 (by simp))
    have T7 := fun (W : World) (a : Addr) => run_store Tryz.prog W a s5 .plain (Hone.out s5 (by simp))
    have T8 := fun (W : World) (a : Addr) => run_store Tryz.prog W a s6 .plain (Hone.out s6 (by simp))
    have T9 := fun (W : World) (a : Addr) => run_store Tryz.prog W a s7 .plain (Hone.out s7 (by simp))
    have T10 := fun (W : World) (a : Addr) => run_store Tryz.prog W a s8 .plain (Hone.out s8 (by simp))
    have T11 := fun (W : World) (a : Addr) => run_store Tryz.prog W a s9 .plain (Hone.out s9 (by simp))
    refine RG.wp_region_detL [11, 16, 17] (fun L W => Hid (FinI w w2.heap.size (w.heap.size + 1 + 1 + 1 + 1) (w.heap.size + 1 + 1 + 1 + 1 + 1) #[d0, d1, s0, s1, s2, s3, s4, s5, s6, s7, s8, s9, n0, n1, n2, n3, n4, n5, .slice A9 0 c9, .bool false, .pointer none, .slice none 0 0] l (L 11) (L 16) (L 17) (dskO d0 d1) (staO s0 s1 s2 s3 s4 s5 s6 s7 s8 s9) W)) (fun L L' W h hI => by rw [← h 11 (by decide), ← h 16 (by decide), ← h 17 (by decide)]; exact hI) (by kernel_rfl) (by kernel_rfl) (by decide) (Lib.hid HF.out.drew) ?_
    iterate 3
      apply RG.wpDetL_still
      · rfl
      · intro L w9 hw9
        repeat go_step
        with_reducible refine RG.only_mk ?_
        exact hw9
      · rfl
    iterate 1
      apply RG.wpDetL_still
      · rfl
      · intro L w9 hw9
        have q0 := cell_blk hw9.out.cmd 0
        have q1 := cell_blk hw9.out.cmd 1
        repeat go_step
        with_reducible refine RG.only_mk ?_
        exact hw9
      · rfl
    iterate 3
      apply RG.wpDetL_still
      · rfl
      · intro L w9 hw9
        repeat go_step
        with_reducible refine RG.only_mk ?_
        exact hw9
      · rfl
    iterate 1
      apply RG.wpDetL_still
      · rfl
      · intro L w9 hw9
        have q2 := cell_blk hw9.out.cmd 2
        have q3 := cell_blk hw9.out.cmd 3
        have q4 := cell_blk hw9.out.cmd 4
        have q5 := cell_blk hw9.out.cmd 5
        have q6 := cell_blk hw9.out.cmd 6
        have q7 := cell_blk hw9.out.cmd 7
        have q8 := cell_blk hw9.out.cmd 8
        have q9 := cell_blk hw9.out.cmd 9
        have q10 := cell_blk hw9.out.cmd 10
        have q11 := cell_blk hw9.out.cmd 11
        repeat go_step
        with_reducible refine RG.only_mk ?_
        exact hw9
      · rfl
    iterate 3
      apply RG.wpDetL_still
      · rfl
      · intro L w9 hw9
        repeat go_step
        with_reducible refine RG.only_mk ?_
        exact hw9
      · rfl
    apply RG.wpDetL_turn
    · rfl
    · intro L w9 h0 _ hw9
      have hcmd := hw9.out.bld h0
      repeat go_step
      refine (HSTR.out w9 hcmd).mono ?_
      rintro e w10 ⟨rfl, hb10, he10⟩
      simp only []
      repeat go_step
      with_reducible refine RG.only_mk ?_
      exact Lib.hid (hw9.out.call hb10 he10 (by omega) (by omega) (by omega))
    · rfl
    iterate 4
      apply RG.wpDetL_still
      · rfl
      · intro L w9 hw9
        repeat go_step
        with_reducible refine RG.only_mk ?_
        exact hw9
      · rfl
    apply RG.wpDetL_turn
    · rfl
    · intro L w9 h0 _ hw9
      have hh := hw9.out
      rw [h0] at hh
      have r4 := hh.r4
      rw [if_neg (by simp)] at r4
      have f0 := cell_blk r4 0
      have f1 := cell_blk r4 1
      have y0 := free_blk r4 0
      have y1 := free_blk r4 1
      have HH := Lib.hid hh
      clear hw9 hh r4
      repeat go_step
      with_reducible refine RG.only_mk ?_
      show Hid (FinI w _ _ _ _ _ (L 11) true (L 17) _ _ _)
      with_reducible exact Lib.hid (FinI.st1 HH.out (by omega) (by omega) (by omega))
    · rfl
    apply RG.wpDetL_turn
    · rfl
    · intro L w9 h0 _ hw9
      have hh := hw9.out
      rw [h0] at hh
      have r5 := hh.r5
      rw [if_neg (by simp)] at r5
      have f0 := cell_blk r5 0
      have y0 := free_blk r5 0
      have f1 := cell_blk r5 1
      have y1 := free_blk r5 1
      have f2 := cell_blk r5 2
      have y2 := free_blk r5 2
      have f3 := cell_blk r5 3
      have y3 := free_blk r5 3
      have f4 := cell_blk r5 4
      have y4 := free_blk r5 4
      have f5 := cell_blk r5 5
      have y5 := free_blk r5 5
      have f6 := cell_blk r5 6
      have y6 := free_blk r5 6
      have f7 := cell_blk r5 7
      have y7 := free_blk r5 7
      have f8 := cell_blk r5 8
      have y8 := free_blk r5 8
      have f9 := cell_blk r5 9
      have y9 := free_blk r5 9
      have HH := Lib.hid hh
      clear hw9 hh r5
      repeat go_step
      with_reducible refine RG.only_mk ?_
      show Hid (FinI w _ _ _ _ _ (L 11) (L 16) true _ _ _)
      with_reducible exact Lib.hid (FinI.st2 HH.out (by omega) (by omega) (by omega))
    · rfl
    iterate 1
      apply RG.wpDetL_still
      · rfl
      · intro L w9 hw9
        repeat go_step
        with_reducible refine RG.only_mk ?_
        exact hw9
      · rfl
    refine RG.wpDetL_nil (fun w9 hw9 => ?_)
    have fin : FinI w w2.heap.size (w.heap.size + 1 + 1 + 1 + 1) (w.heap.size + 1 + 1 + 1 + 1 + 1) #[d0, d1, s0, s1, s2, s3, s4, s5, s6, s7, s8, s9, n0, n1, n2, n3, n4, n5, .slice A9 0 c9, .bool false, .pointer none, .slice none 0 0] l true true true (dskO d0 d1) (staO s0 s1 s2 s3 s4 s5 s6 s7 s8 s9) w9 := hw9.out
    have r4 := fin.r4
    have r5 := fin.r5
    rw [if_pos rfl] at r4 r5
    have f0 := cell_blk r4 0
    have f1 := cell_blk r4 1
    have g0 := cell_blk r5 0
    have g1 := cell_blk r5 1
    have g2 := cell_blk r5 2
    have g3 := cell_blk r5 3
    have g4 := cell_blk r5 4
    have g5 := cell_blk r5 5
    have g6 := cell_blk r5 6
    have g7 := cell_blk r5 7
    have g8 := cell_blk r5 8
    have g9 := cell_blk r5 9
    have HBE := Lib.hid fin.bel
    clear hw9 fin r4 r5 HF T0 T1 T2 T3 T4 T5 T6 T7 T8 T9 T10 T11
    go_wp2
    refine bodyPost_ret (v := .tuple #[.agg #[d0, d1], .agg #[s0, s1, s2, s3, s4, s5, s6, s7, s8, s9], .string (lb ++ tb ++ ⟨#[32, 79, 75]⟩ ++ ⟨#[13, 10]⟩)]) (by simp [results, Tryz.results38, go_sem, f0, f1, g0, g1, g2, g3, g4, g5, g6, g7, g8, g9]) rfl ?_
    refine ⟨?_, HBE.out⟩
    rw [← HTB.out, ← HLB.out, done_txt, ← HL.out]
    rfl
end Go.Proofs.YtomnljigoljldaaGreatDoor.IM

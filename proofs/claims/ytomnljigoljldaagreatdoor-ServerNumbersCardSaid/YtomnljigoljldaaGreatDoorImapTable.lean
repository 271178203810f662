/- What imap.table returns: a map of the commands. No conditions. -/
import Derived.Test.YtomnljigoljldaaGreatDoorMapIs
namespace Go.Proofs.YtomnljigoljldaaGreatDoor.IM
open Go.RowKit MM MP

abbrev Bs := List UInt8
def tabL : List (Bs × Value) := [
  ([67, 65, 80, 65, 66, 73, 76, 73, 84, 89], .agg #[.int .i64 0, .func (.func 132) #[] #[]]),
  ([78, 79, 79, 80], .agg #[.int .i64 0, .func (.func 133) #[] #[]]),
  ([76, 79, 71, 79, 85, 84], .agg #[.int .i64 0, .func (.func 134) #[] #[]]),
  ([76, 79, 71, 73, 78], .agg #[.int .i64 1, .func (.func 135) #[] #[]]),
  ([83, 69, 76, 69, 67, 84], .agg #[.int .i64 2, .func (.func 136) #[] #[]]),
  ([69, 88, 65, 77, 73, 78, 69], .agg #[.int .i64 2, .func (.func 137) #[] #[]]),
  ([67, 82, 69, 65, 84, 69], .agg #[.int .i64 2, .func (.func 138) #[] #[]]),
  ([68, 69, 76, 69, 84, 69], .agg #[.int .i64 2, .func (.func 139) #[] #[]]),
  ([82, 69, 78, 65, 77, 69], .agg #[.int .i64 2, .func (.func 140) #[] #[]]),
  ([83, 85, 66, 83, 67, 82, 73, 66, 69], .agg #[.int .i64 2, .func (.func 141) #[] #[]]),
  ([85, 78, 83, 85, 66, 83, 67, 82, 73, 66, 69], .agg #[.int .i64 2, .func (.func 142) #[] #[]]),
  ([76, 73, 83, 84], .agg #[.int .i64 2, .func (.func 143) #[] #[]]),
  ([76, 83, 85, 66], .agg #[.int .i64 2, .func (.func 144) #[] #[]]),
  ([83, 84, 65, 84, 85, 83], .agg #[.int .i64 2, .func (.func 145) #[] #[]]),
  ([65, 80, 80, 69, 78, 68], .agg #[.int .i64 2, .func (.func 146) #[] #[]]),
  ([67, 76, 79, 83, 69], .agg #[.int .i64 3, .func (.func 147) #[] #[]]),
  ([69, 88, 80, 85, 78, 71, 69], .agg #[.int .i64 4, .func (.func 148) #[] #[]]),
  ([83, 69, 65, 82, 67, 72], .agg #[.int .i64 3, .func (.func 149) #[] #[]]),
  ([70, 69, 84, 67, 72], .agg #[.int .i64 3, .func (.func 150) #[] #[]]),
  ([83, 84, 79, 82, 69], .agg #[.int .i64 4, .func (.func 151) #[] #[]]),
  ([67, 79, 80, 89], .agg #[.int .i64 3, .func (.func 152) #[] #[]]),
  ([85, 73, 68, 32, 83, 69, 65, 82, 67, 72], .agg #[.int .i64 3, .func (.func 149) #[] #[]]),
  ([85, 73, 68, 32, 70, 69, 84, 67, 72], .agg #[.int .i64 3, .func (.func 150) #[] #[]]),
  ([85, 73, 68, 32, 83, 84, 79, 82, 69], .agg #[.int .i64 4, .func (.func 151) #[] #[]]),
  ([85, 73, 68, 32, 67, 79, 80, 89], .agg #[.int .i64 3, .func (.func 152) #[] #[]]),
  ([88, 80, 65, 83, 83, 87, 68], .agg #[.int .i64 2, .func (.func 153) #[] #[]]),
  ([88, 82, 79, 84, 65, 84, 69], .agg #[.int .i64 2, .func (.func 154) #[] #[]]),
  ([88, 83, 84, 69, 80], .agg #[.int .i64 2, .func (.func 155) #[] #[]])]
theorem tabL_short : ∀ p ∈ tabL, p.1.length ≤ 1000000 := by
  intro p hp
  have h : p.1 ∈ tabL.map (·.1) := List.mem_map_of_mem (f := fun p : Bs × Value => p.1) hp
  revert h
  generalize p.1 = s
  revert s
  show ∀ s ∈ tabL.map (·.1), s.length ≤ 1000000
  decide
theorem tabL_apart : ∀ n, n < 28 → ∀ s ∈ (tabL.map (·.1)).take n, s ≠ (tabL.map (·.1)).getD n [] := by decide
theorem tab_put {w W : World} {b n : Nat} (h : MapIs W b (tabL.take n)) (hb : w.heap.size ≤ b) (hB : Below w.heap.size w W) {s : Bs} {v : Value} (he : tabL[n]? = some (s, v)) :
    ∃ W', (Instr.mapUpdate 163 (.map (some b)) (strV s) v).run Tryz.prog W = .ok () W' ∧ MapIs W' b (tabL.take (n + 1)) ∧ Below w.heap.size w W' := by
  have hn : n < 28 := (List.getElem?_eq_some_iff.1 he).1
  obtain ⟨W', h1, h2, h3⟩ := h.put (fun p hp => tabL_short p (List.mem_of_mem_take hp)) Tryz.underlying163 (tabL_short _ (List.mem_of_getElem? he)) v (fun p hp => by
    have := tabL_apart n hn p.1 (by rw [← List.map_take]; exact List.mem_map_of_mem (f := fun p : Bs × Value => p.1) hp)
    rwa [List.getD_eq_getElem?_getD, List.getElem?_map, he] at this)
  refine ⟨W', h1, ?_, hB.grown h3 hB.size (fun k e => by injection e with e; omega)⟩
  rw [List.take_add_one, he]
  exact h2

set_option maxHeartbeats 2000000 in
set_option maxRecDepth 100000 in
theorem table_any (w : World) : Calls Tryz.prog 73 #[] w fun e w' => e = .returned (.map (some w.heap.size)) ∧ MapIs w' w.heap.size tabL ∧ Below w.heap.size w w' := by
  have hmm : (Instr.makeMap 163 none).run Tryz.prog w = .ok (.map (some w.heap.size)) (w.alloc (.map #[] 0)) := rfl
  have h0 : MapIs (w.alloc (.map #[] 0)) w.heap.size (tabL.take 0) := MapIs.new w
  have b0 := (Below.refl w.heap.size w).alloc (Nat.le_refl _) (.map #[] 0)
  obtain ⟨w1, r1, h1, b1⟩ : ∃ W', (Instr.mapUpdate 163 (.map (some w.heap.size)) (.string ⟨#[67, 65, 80, 65, 66, 73, 76, 73, 84, 89]⟩) (.agg #[.int .i64 0, .func (.func 132) #[] #[]])).run Tryz.prog (w.alloc (.map #[] 0)) = .ok () W' ∧ MapIs W' w.heap.size (tabL.take 1) ∧ Below w.heap.size w W' := tab_put h0 (Nat.le_refl _) b0 rfl
  clear h0 b0
  obtain ⟨w2, r2, h2, b2⟩ : ∃ W', (Instr.mapUpdate 163 (.map (some w.heap.size)) (.string ⟨#[78, 79, 79, 80]⟩) (.agg #[.int .i64 0, .func (.func 133) #[] #[]])).run Tryz.prog w1 = .ok () W' ∧ MapIs W' w.heap.size (tabL.take 2) ∧ Below w.heap.size w W' := tab_put h1 (Nat.le_refl _) b1 rfl
  clear h1 b1
  obtain ⟨w3, r3, h3, b3⟩ : ∃ W', (Instr.mapUpdate 163 (.map (some w.heap.size)) (.string ⟨#[76, 79, 71, 79, 85, 84]⟩) (.agg #[.int .i64 0, .func (.func 134) #[] #[]])).run Tryz.prog w2 = .ok () W' ∧ MapIs W' w.heap.size (tabL.take 3) ∧ Below w.heap.size w W' := tab_put h2 (Nat.le_refl _) b2 rfl
  clear h2 b2
  obtain ⟨w4, r4, h4, b4⟩ : ∃ W', (Instr.mapUpdate 163 (.map (some w.heap.size)) (.string ⟨#[76, 79, 71, 73, 78]⟩) (.agg #[.int .i64 1, .func (.func 135) #[] #[]])).run Tryz.prog w3 = .ok () W' ∧ MapIs W' w.heap.size (tabL.take 4) ∧ Below w.heap.size w W' := tab_put h3 (Nat.le_refl _) b3 rfl
  clear h3 b3
  obtain ⟨w5, r5, h5, b5⟩ : ∃ W', (Instr.mapUpdate 163 (.map (some w.heap.size)) (.string ⟨#[83, 69, 76, 69, 67, 84]⟩) (.agg #[.int .i64 2, .func (.func 136) #[] #[]])).run Tryz.prog w4 = .ok () W' ∧ MapIs W' w.heap.size (tabL.take 5) ∧ Below w.heap.size w W' := tab_put h4 (Nat.le_refl _) b4 rfl
  clear h4 b4
  obtain ⟨w6, r6, h6, b6⟩ : ∃ W', (Instr.mapUpdate 163 (.map (some w.heap.size)) (.string ⟨#[69, 88, 65, 77, 73, 78, 69]⟩) (.agg #[.int .i64 2, .func (.func 137) #[] #[]])).run Tryz.prog w5 = .ok () W' ∧ MapIs W' w.heap.size (tabL.take 6) ∧ Below w.heap.size w W' := tab_put h5 (Nat.le_refl _) b5 rfl
  clear h5 b5
  obtain ⟨w7, r7, h7, b7⟩ : ∃ W', (Instr.mapUpdate 163 (.map (some w.heap.size)) (.string ⟨#[67, 82, 69, 65, 84, 69]⟩) (.agg #[.int .i64 2, .func (.func 138) #[] #[]])).run Tryz.prog w6 = .ok () W' ∧ MapIs W' w.heap.size (tabL.take 7) ∧ Below w.heap.size w W' := tab_put h6 (Nat.le_refl _) b6 rfl
  clear h6 b6
  obtain ⟨w8, r8, h8, b8⟩ : ∃ W', (Instr.mapUpdate 163 (.map (some w.heap.size)) (.string ⟨#[68, 69, 76, 69, 84, 69]⟩) (.agg #[.int .i64 2, .func (.func 139) #[] #[]])).run Tryz.prog w7 = .ok () W' ∧ MapIs W' w.heap.size (tabL.take 8) ∧ Below w.heap.size w W' := tab_put h7 (Nat.le_refl _) b7 rfl
  clear h7 b7
  obtain ⟨w9, r9, h9, b9⟩ : ∃ W', (Instr.mapUpdate 163 (.map (some w.heap.size)) (.string ⟨#[82, 69, 78, 65, 77, 69]⟩) (.agg #[.int .i64 2, .func (.func 140) #[] #[]])).run Tryz.prog w8 = .ok () W' ∧ MapIs W' w.heap.size (tabL.take 9) ∧ Below w.heap.size w W' := tab_put h8 (Nat.le_refl _) b8 rfl
  clear h8 b8
  obtain ⟨w10, r10, h10, b10⟩ : ∃ W', (Instr.mapUpdate 163 (.map (some w.heap.size)) (.string ⟨#[83, 85, 66, 83, 67, 82, 73, 66, 69]⟩) (.agg #[.int .i64 2, .func (.func 141) #[] #[]])).run Tryz.prog w9 = .ok () W' ∧ MapIs W' w.heap.size (tabL.take 10) ∧ Below w.heap.size w W' := tab_put h9 (Nat.le_refl _) b9 rfl
  clear h9 b9
  obtain ⟨w11, r11, h11, b11⟩ : ∃ W', (Instr.mapUpdate 163 (.map (some w.heap.size)) (.string ⟨#[85, 78, 83, 85, 66, 83, 67, 82, 73, 66, 69]⟩) (.agg #[.int .i64 2, .func (.func 142) #[] #[]])).run Tryz.prog w10 = .ok () W' ∧ MapIs W' w.heap.size (tabL.take 11) ∧ Below w.heap.size w W' := tab_put h10 (Nat.le_refl _) b10 rfl
  clear h10 b10
  obtain ⟨w12, r12, h12, b12⟩ : ∃ W', (Instr.mapUpdate 163 (.map (some w.heap.size)) (.string ⟨#[76, 73, 83, 84]⟩) (.agg #[.int .i64 2, .func (.func 143) #[] #[]])).run Tryz.prog w11 = .ok () W' ∧ MapIs W' w.heap.size (tabL.take 12) ∧ Below w.heap.size w W' := tab_put h11 (Nat.le_refl _) b11 rfl
  clear h11 b11
  obtain ⟨w13, r13, h13, b13⟩ : ∃ W', (Instr.mapUpdate 163 (.map (some w.heap.size)) (.string ⟨#[76, 83, 85, 66]⟩) (.agg #[.int .i64 2, .func (.func 144) #[] #[]])).run Tryz.prog w12 = .ok () W' ∧ MapIs W' w.heap.size (tabL.take 13) ∧ Below w.heap.size w W' := tab_put h12 (Nat.le_refl _) b12 rfl
  clear h12 b12
  obtain ⟨w14, r14, h14, b14⟩ : ∃ W', (Instr.mapUpdate 163 (.map (some w.heap.size)) (.string ⟨#[83, 84, 65, 84, 85, 83]⟩) (.agg #[.int .i64 2, .func (.func 145) #[] #[]])).run Tryz.prog w13 = .ok () W' ∧ MapIs W' w.heap.size (tabL.take 14) ∧ Below w.heap.size w W' := tab_put h13 (Nat.le_refl _) b13 rfl
  clear h13 b13
  obtain ⟨w15, r15, h15, b15⟩ : ∃ W', (Instr.mapUpdate 163 (.map (some w.heap.size)) (.string ⟨#[65, 80, 80, 69, 78, 68]⟩) (.agg #[.int .i64 2, .func (.func 146) #[] #[]])).run Tryz.prog w14 = .ok () W' ∧ MapIs W' w.heap.size (tabL.take 15) ∧ Below w.heap.size w W' := tab_put h14 (Nat.le_refl _) b14 rfl
  clear h14 b14
  obtain ⟨w16, r16, h16, b16⟩ : ∃ W', (Instr.mapUpdate 163 (.map (some w.heap.size)) (.string ⟨#[67, 76, 79, 83, 69]⟩) (.agg #[.int .i64 3, .func (.func 147) #[] #[]])).run Tryz.prog w15 = .ok () W' ∧ MapIs W' w.heap.size (tabL.take 16) ∧ Below w.heap.size w W' := tab_put h15 (Nat.le_refl _) b15 rfl
  clear h15 b15
  obtain ⟨w17, r17, h17, b17⟩ : ∃ W', (Instr.mapUpdate 163 (.map (some w.heap.size)) (.string ⟨#[69, 88, 80, 85, 78, 71, 69]⟩) (.agg #[.int .i64 4, .func (.func 148) #[] #[]])).run Tryz.prog w16 = .ok () W' ∧ MapIs W' w.heap.size (tabL.take 17) ∧ Below w.heap.size w W' := tab_put h16 (Nat.le_refl _) b16 rfl
  clear h16 b16
  obtain ⟨w18, r18, h18, b18⟩ : ∃ W', (Instr.mapUpdate 163 (.map (some w.heap.size)) (.string ⟨#[83, 69, 65, 82, 67, 72]⟩) (.agg #[.int .i64 3, .func (.func 149) #[] #[]])).run Tryz.prog w17 = .ok () W' ∧ MapIs W' w.heap.size (tabL.take 18) ∧ Below w.heap.size w W' := tab_put h17 (Nat.le_refl _) b17 rfl
  clear h17 b17
  obtain ⟨w19, r19, h19, b19⟩ : ∃ W', (Instr.mapUpdate 163 (.map (some w.heap.size)) (.string ⟨#[70, 69, 84, 67, 72]⟩) (.agg #[.int .i64 3, .func (.func 150) #[] #[]])).run Tryz.prog w18 = .ok () W' ∧ MapIs W' w.heap.size (tabL.take 19) ∧ Below w.heap.size w W' := tab_put h18 (Nat.le_refl _) b18 rfl
  clear h18 b18
  obtain ⟨w20, r20, h20, b20⟩ : ∃ W', (Instr.mapUpdate 163 (.map (some w.heap.size)) (.string ⟨#[83, 84, 79, 82, 69]⟩) (.agg #[.int .i64 4, .func (.func 151) #[] #[]])).run Tryz.prog w19 = .ok () W' ∧ MapIs W' w.heap.size (tabL.take 20) ∧ Below w.heap.size w W' := tab_put h19 (Nat.le_refl _) b19 rfl
  clear h19 b19
  obtain ⟨w21, r21, h21, b21⟩ : ∃ W', (Instr.mapUpdate 163 (.map (some w.heap.size)) (.string ⟨#[67, 79, 80, 89]⟩) (.agg #[.int .i64 3, .func (.func 152) #[] #[]])).run Tryz.prog w20 = .ok () W' ∧ MapIs W' w.heap.size (tabL.take 21) ∧ Below w.heap.size w W' := tab_put h20 (Nat.le_refl _) b20 rfl
  clear h20 b20
  obtain ⟨w22, r22, h22, b22⟩ : ∃ W', (Instr.mapUpdate 163 (.map (some w.heap.size)) (.string ⟨#[85, 73, 68, 32, 83, 69, 65, 82, 67, 72]⟩) (.agg #[.int .i64 3, .func (.func 149) #[] #[]])).run Tryz.prog w21 = .ok () W' ∧ MapIs W' w.heap.size (tabL.take 22) ∧ Below w.heap.size w W' := tab_put h21 (Nat.le_refl _) b21 rfl
  clear h21 b21
  obtain ⟨w23, r23, h23, b23⟩ : ∃ W', (Instr.mapUpdate 163 (.map (some w.heap.size)) (.string ⟨#[85, 73, 68, 32, 70, 69, 84, 67, 72]⟩) (.agg #[.int .i64 3, .func (.func 150) #[] #[]])).run Tryz.prog w22 = .ok () W' ∧ MapIs W' w.heap.size (tabL.take 23) ∧ Below w.heap.size w W' := tab_put h22 (Nat.le_refl _) b22 rfl
  clear h22 b22
  obtain ⟨w24, r24, h24, b24⟩ : ∃ W', (Instr.mapUpdate 163 (.map (some w.heap.size)) (.string ⟨#[85, 73, 68, 32, 83, 84, 79, 82, 69]⟩) (.agg #[.int .i64 4, .func (.func 151) #[] #[]])).run Tryz.prog w23 = .ok () W' ∧ MapIs W' w.heap.size (tabL.take 24) ∧ Below w.heap.size w W' := tab_put h23 (Nat.le_refl _) b23 rfl
  clear h23 b23
  obtain ⟨w25, r25, h25, b25⟩ : ∃ W', (Instr.mapUpdate 163 (.map (some w.heap.size)) (.string ⟨#[85, 73, 68, 32, 67, 79, 80, 89]⟩) (.agg #[.int .i64 3, .func (.func 152) #[] #[]])).run Tryz.prog w24 = .ok () W' ∧ MapIs W' w.heap.size (tabL.take 25) ∧ Below w.heap.size w W' := tab_put h24 (Nat.le_refl _) b24 rfl
  clear h24 b24
  obtain ⟨w26, r26, h26, b26⟩ : ∃ W', (Instr.mapUpdate 163 (.map (some w.heap.size)) (.string ⟨#[88, 80, 65, 83, 83, 87, 68]⟩) (.agg #[.int .i64 2, .func (.func 153) #[] #[]])).run Tryz.prog w25 = .ok () W' ∧ MapIs W' w.heap.size (tabL.take 26) ∧ Below w.heap.size w W' := tab_put h25 (Nat.le_refl _) b25 rfl
  clear h25 b25
  obtain ⟨w27, r27, h27, b27⟩ : ∃ W', (Instr.mapUpdate 163 (.map (some w.heap.size)) (.string ⟨#[88, 82, 79, 84, 65, 84, 69]⟩) (.agg #[.int .i64 2, .func (.func 154) #[] #[]])).run Tryz.prog w26 = .ok () W' ∧ MapIs W' w.heap.size (tabL.take 27) ∧ Below w.heap.size w W' := tab_put h26 (Nat.le_refl _) b26 rfl
  clear h26 b26
  obtain ⟨w28, r28, h28, b28⟩ : ∃ W', (Instr.mapUpdate 163 (.map (some w.heap.size)) (.string ⟨#[88, 83, 84, 69, 80]⟩) (.agg #[.int .i64 2, .func (.func 155) #[] #[]])).run Tryz.prog w27 = .ok () W' ∧ MapIs W' w.heap.size (tabL.take 28) ∧ Below w.heap.size w W' := tab_put h27 (Nat.le_refl _) b27 rfl
  clear h27 b27
  have H := Lib.hid h28
  have B := Lib.hid b28
  clear h28 b28
  go_enter Tryz.func73, Tryz.ntmps73
  repeat go_step
  go_wp2
  go_ret
  exact ⟨rfl, H.out, B.out⟩
end Go.Proofs.YtomnljigoljldaaGreatDoor.IM

/- What makers returns, walked. No conditions. -/
import Derived.Test.YtkgngahmpafdhaaGreatDoorQueryMakers
namespace Go.Proofs.YtkgngahmpafdhaaGreatDoor.QU
open Go.RowKit Mailsack MM PT

theorem MkAt.step {w W : World} {mb n : Nat} {tab : List (Bs × Value)} (H : MkAt w mb W n tab) (hmb : w.heap.size ≤ mb) {s : Bs} {k : QKind} (hk : kinds[n]? = some (s, k)) {val : Value} (hmk : MakerIs mb W.heap.size W val k) :
    ∃ w' tab', (Instr.mapUpdate 39 (.map (some mb)) (strV s) val).run Tryz.prog W = .ok () w' ∧ MkAt w mb w' (n + 1) tab' := by
  have hn : n < 25 := (List.getElem?_eq_some_iff.1 hk).1
  have hgd : (kinds.getD n (wALL, .uid)).1 = s := by rw [List.getD_eq_getElem?_getD, hk]; rfl
  obtain ⟨w', h1, h2, h3⟩ := H.tab.map.put (tab_short H.tab) Tryz.underlying39 (kinds_short _ (List.mem_of_getElem? hk)) val (tab_apart H.tab hn hgd)
  exact ⟨w', _, h1, H.put hmb hk hmk h2 h3⟩

theorem two_bel (W : World) (o o' : Obj) : Below W.heap.size W ((W.alloc o).alloc o') := ((Below.refl _ _).alloc (Nat.le_refl _) o).alloc (by simp) o'
set_option maxHeartbeats 400000 in
set_option maxRecDepth 100000 in
theorem flags_mk {w W : World} {mb n : Nat} {tab : List (Bs × Value)} (H : MkAt w mb W n tab) (t m : Int) :
    Calls Tryz.prog 19 #[.int .i64 t, .int .i64 m] W fun e W' => ∃ v, e = .returned v ∧ MkAt w mb W' n tab ∧ MakerIs mb W'.heap.size W' v (.flags t m) := by
  have hlt := H.tab.map.lt
  have HH := Lib.hid H
  have HB := Lib.hid (two_bel W (.cells #[.int .i64 t] 3) (.cells #[.int .i64 m] 3))
  have Hx := Lib.hid (two_old W (.cells #[.int .i64 t] 3) (.cells #[.int .i64 m] 3))
  have Hy := Lib.hid (two_new W (.cells #[.int .i64 t] 3) (.cells #[.int .i64 m] 3))
  clear H
  go_enter Tryz.func19, Tryz.ntmps19
  go_wp2
  go_ret
  refine ⟨_, rfl, HH.out.kept HB.out, W.heap.size, W.heap.size + 1, rfl, hlt, by simp; omega, by omega, by simp, Hx.out, Hy.out⟩
set_option maxHeartbeats 400000 in
set_option maxRecDepth 100000 in
theorem sizeT_mk {w W : World} {mb n : Nat} {tab : List (Bs × Value)} (H : MkAt w mb W n tab)  :
    Calls Tryz.prog 20 #[.func (.func 21) #[] #[]] W fun e W' => ∃ v, e = .returned v ∧ MkAt w mb W' n tab ∧ MakerIs mb W'.heap.size W' v (.size true) := by
  have hlt := H.tab.map.lt
  have HH := Lib.hid H
  have HB := Lib.hid ((Below.refl W.heap.size W).alloc (Nat.le_refl _) (.cells #[.func (.func 21) #[] #[]] 60))
  have Hx := Lib.hid (blk_new W (.cells #[.func (.func 21) #[] #[]] 60))
  clear H
  go_enter Tryz.func20, Tryz.ntmps20
  go_wp2
  go_ret
  refine ⟨_, rfl, HH.out.kept HB.out, W.heap.size, rfl, hlt, by simp, Hx.out⟩
set_option maxHeartbeats 400000 in
set_option maxRecDepth 100000 in
theorem sizeF_mk {w W : World} {mb n : Nat} {tab : List (Bs × Value)} (H : MkAt w mb W n tab)  :
    Calls Tryz.prog 20 #[.func (.func 22) #[] #[]] W fun e W' => ∃ v, e = .returned v ∧ MkAt w mb W' n tab ∧ MakerIs mb W'.heap.size W' v (.size false) := by
  have hlt := H.tab.map.lt
  have HH := Lib.hid H
  have HB := Lib.hid ((Below.refl W.heap.size W).alloc (Nat.le_refl _) (.cells #[.func (.func 22) #[] #[]] 60))
  have Hx := Lib.hid (blk_new W (.cells #[.func (.func 22) #[] #[]] 60))
  clear H
  go_enter Tryz.func20, Tryz.ntmps20
  go_wp2
  go_ret
  refine ⟨_, rfl, HH.out.kept HB.out, W.heap.size, rfl, hlt, by simp, Hx.out⟩
set_option maxHeartbeats 400000 in
set_option maxRecDepth 100000 in
theorem field_mk {w W : World} {mb n : Nat} {tab : List (Bs × Value)} (H : MkAt w mb W n tab) (nm : Bs) :
    Calls Tryz.prog 23 #[strV nm] W fun e W' => ∃ v, e = .returned v ∧ MkAt w mb W' n tab ∧ MakerIs mb W'.heap.size W' v (.field nm) := by
  have hlt := H.tab.map.lt
  have HH := Lib.hid H
  have HB := Lib.hid ((Below.refl W.heap.size W).alloc (Nat.le_refl _) (.cells #[strV nm] 9))
  have Hx := Lib.hid (blk_new W (.cells #[strV nm] 9))
  clear H
  go_enter Tryz.func23, Tryz.ntmps23
  go_wp2
  go_ret
  refine ⟨_, rfl, HH.out.kept HB.out, W.heap.size, rfl, hlt, by simp, Hx.out⟩
set_option maxHeartbeats 400000 in
set_option maxRecDepth 100000 in
theorem textT_mk {w W : World} {mb n : Nat} {tab : List (Bs × Value)} (H : MkAt w mb W n tab)  :
    Calls Tryz.prog 25 #[.func (.func 26) #[] #[]] W fun e W' => ∃ v, e = .returned v ∧ MkAt w mb W' n tab ∧ MakerIs mb W'.heap.size W' v (.text true) := by
  have hlt := H.tab.map.lt
  have HH := Lib.hid H
  have HB := Lib.hid ((Below.refl W.heap.size W).alloc (Nat.le_refl _) (.cells #[.func (.func 26) #[] #[]] 63))
  have Hx := Lib.hid (blk_new W (.cells #[.func (.func 26) #[] #[]] 63))
  clear H
  go_enter Tryz.func25, Tryz.ntmps25
  go_wp2
  go_ret
  refine ⟨_, rfl, HH.out.kept HB.out, W.heap.size, rfl, hlt, by simp, Hx.out⟩
set_option maxHeartbeats 400000 in
set_option maxRecDepth 100000 in
theorem textF_mk {w W : World} {mb n : Nat} {tab : List (Bs × Value)} (H : MkAt w mb W n tab)  :
    Calls Tryz.prog 25 #[.func (.func 27) #[] #[]] W fun e W' => ∃ v, e = .returned v ∧ MkAt w mb W' n tab ∧ MakerIs mb W'.heap.size W' v (.text false) := by
  have hlt := H.tab.map.lt
  have HH := Lib.hid H
  have HB := Lib.hid ((Below.refl W.heap.size W).alloc (Nat.le_refl _) (.cells #[.func (.func 27) #[] #[]] 63))
  have Hx := Lib.hid (blk_new W (.cells #[.func (.func 27) #[] #[]] 63))
  clear H
  go_enter Tryz.func25, Tryz.ntmps25
  go_wp2
  go_ret
  refine ⟨_, rfl, HH.out.kept HB.out, W.heap.size, rfl, hlt, by simp, Hx.out⟩
set_option maxHeartbeats 2000000 in
set_option maxRecDepth 100000 in
theorem makers_any (w : World) : Calls Tryz.prog 9 #[] w fun e W => ∃ tab, e = .returned (.map (some w.heap.size)) ∧ MkAt w w.heap.size W 25 tab := by
  have H := Lib.hid (MkAt.start w)
  have hmm : (Instr.makeMap 39 none).run Tryz.prog w = .ok (.map (some w.heap.size)) (w.alloc (.map #[] 0)) := rfl
  go_enter Tryz.func9, Tryz.ntmps9
  go_wp2_with fail
  clear hmm
  refine (flags_mk H.out 0 0).mono ?_
  rintro e w1 ⟨v, rfl, h1, hv⟩
  obtain ⟨w9, tab9, hrun, h9⟩ : ∃ w9 tab9, (Instr.mapUpdate 39 (.map (some w.heap.size)) (.string ⟨#[65, 76, 76]⟩) v).run Tryz.prog w1 = .ok () w9 ∧ MkAt w w.heap.size w9 1 tab9 := h1.step (Nat.le_refl _) rfl hv
  replace H := Lib.hid h9
  clear h1 hv h9
  simp only []
  repeat go_step
  clear hrun
  refine (flags_mk H.out 1 0).mono ?_
  rintro e w1 ⟨v, rfl, h1, hv⟩
  obtain ⟨w9, tab9, hrun, h9⟩ : ∃ w9 tab9, (Instr.mapUpdate 39 (.map (some w.heap.size)) (.string ⟨#[83, 69, 69, 78]⟩) v).run Tryz.prog w1 = .ok () w9 ∧ MkAt w w.heap.size w9 2 tab9 := h1.step (Nat.le_refl _) rfl hv
  replace H := Lib.hid h9
  clear h1 hv h9
  simp only []
  repeat go_step
  clear hrun
  refine (flags_mk H.out 0 1).mono ?_
  rintro e w1 ⟨v, rfl, h1, hv⟩
  obtain ⟨w9, tab9, hrun, h9⟩ : ∃ w9 tab9, (Instr.mapUpdate 39 (.map (some w.heap.size)) (.string ⟨#[85, 78, 83, 69, 69, 78]⟩) v).run Tryz.prog w1 = .ok () w9 ∧ MkAt w w.heap.size w9 3 tab9 := h1.step (Nat.le_refl _) rfl hv
  replace H := Lib.hid h9
  clear h1 hv h9
  simp only []
  repeat go_step
  clear hrun
  refine (flags_mk H.out 2 0).mono ?_
  rintro e w1 ⟨v, rfl, h1, hv⟩
  obtain ⟨w9, tab9, hrun, h9⟩ : ∃ w9 tab9, (Instr.mapUpdate 39 (.map (some w.heap.size)) (.string ⟨#[65, 78, 83, 87, 69, 82, 69, 68]⟩) v).run Tryz.prog w1 = .ok () w9 ∧ MkAt w w.heap.size w9 4 tab9 := h1.step (Nat.le_refl _) rfl hv
  replace H := Lib.hid h9
  clear h1 hv h9
  simp only []
  repeat go_step
  clear hrun
  refine (flags_mk H.out 0 2).mono ?_
  rintro e w1 ⟨v, rfl, h1, hv⟩
  obtain ⟨w9, tab9, hrun, h9⟩ : ∃ w9 tab9, (Instr.mapUpdate 39 (.map (some w.heap.size)) (.string ⟨#[85, 78, 65, 78, 83, 87, 69, 82, 69, 68]⟩) v).run Tryz.prog w1 = .ok () w9 ∧ MkAt w w.heap.size w9 5 tab9 := h1.step (Nat.le_refl _) rfl hv
  replace H := Lib.hid h9
  clear h1 hv h9
  simp only []
  repeat go_step
  clear hrun
  refine (flags_mk H.out 4 0).mono ?_
  rintro e w1 ⟨v, rfl, h1, hv⟩
  obtain ⟨w9, tab9, hrun, h9⟩ : ∃ w9 tab9, (Instr.mapUpdate 39 (.map (some w.heap.size)) (.string ⟨#[70, 76, 65, 71, 71, 69, 68]⟩) v).run Tryz.prog w1 = .ok () w9 ∧ MkAt w w.heap.size w9 6 tab9 := h1.step (Nat.le_refl _) rfl hv
  replace H := Lib.hid h9
  clear h1 hv h9
  simp only []
  repeat go_step
  clear hrun
  refine (flags_mk H.out 0 4).mono ?_
  rintro e w1 ⟨v, rfl, h1, hv⟩
  obtain ⟨w9, tab9, hrun, h9⟩ : ∃ w9 tab9, (Instr.mapUpdate 39 (.map (some w.heap.size)) (.string ⟨#[85, 78, 70, 76, 65, 71, 71, 69, 68]⟩) v).run Tryz.prog w1 = .ok () w9 ∧ MkAt w w.heap.size w9 7 tab9 := h1.step (Nat.le_refl _) rfl hv
  replace H := Lib.hid h9
  clear h1 hv h9
  simp only []
  repeat go_step
  clear hrun
  refine (flags_mk H.out 8 0).mono ?_
  rintro e w1 ⟨v, rfl, h1, hv⟩
  obtain ⟨w9, tab9, hrun, h9⟩ : ∃ w9 tab9, (Instr.mapUpdate 39 (.map (some w.heap.size)) (.string ⟨#[68, 69, 76, 69, 84, 69, 68]⟩) v).run Tryz.prog w1 = .ok () w9 ∧ MkAt w w.heap.size w9 8 tab9 := h1.step (Nat.le_refl _) rfl hv
  replace H := Lib.hid h9
  clear h1 hv h9
  simp only []
  repeat go_step
  clear hrun
  refine (flags_mk H.out 0 8).mono ?_
  rintro e w1 ⟨v, rfl, h1, hv⟩
  obtain ⟨w9, tab9, hrun, h9⟩ : ∃ w9 tab9, (Instr.mapUpdate 39 (.map (some w.heap.size)) (.string ⟨#[85, 78, 68, 69, 76, 69, 84, 69, 68]⟩) v).run Tryz.prog w1 = .ok () w9 ∧ MkAt w w.heap.size w9 9 tab9 := h1.step (Nat.le_refl _) rfl hv
  replace H := Lib.hid h9
  clear h1 hv h9
  simp only []
  repeat go_step
  clear hrun
  refine (flags_mk H.out 16 0).mono ?_
  rintro e w1 ⟨v, rfl, h1, hv⟩
  obtain ⟨w9, tab9, hrun, h9⟩ : ∃ w9 tab9, (Instr.mapUpdate 39 (.map (some w.heap.size)) (.string ⟨#[68, 82, 65, 70, 84]⟩) v).run Tryz.prog w1 = .ok () w9 ∧ MkAt w w.heap.size w9 10 tab9 := h1.step (Nat.le_refl _) rfl hv
  replace H := Lib.hid h9
  clear h1 hv h9
  simp only []
  repeat go_step
  clear hrun
  refine (flags_mk H.out 0 16).mono ?_
  rintro e w1 ⟨v, rfl, h1, hv⟩
  obtain ⟨w9, tab9, hrun, h9⟩ : ∃ w9 tab9, (Instr.mapUpdate 39 (.map (some w.heap.size)) (.string ⟨#[85, 78, 68, 82, 65, 70, 84]⟩) v).run Tryz.prog w1 = .ok () w9 ∧ MkAt w w.heap.size w9 11 tab9 := h1.step (Nat.le_refl _) rfl hv
  replace H := Lib.hid h9
  clear h1 hv h9
  simp only []
  repeat go_step
  clear hrun
  refine (flags_mk H.out 32 0).mono ?_
  rintro e w1 ⟨v, rfl, h1, hv⟩
  obtain ⟨w9, tab9, hrun, h9⟩ : ∃ w9 tab9, (Instr.mapUpdate 39 (.map (some w.heap.size)) (.string ⟨#[82, 69, 67, 69, 78, 84]⟩) v).run Tryz.prog w1 = .ok () w9 ∧ MkAt w w.heap.size w9 12 tab9 := h1.step (Nat.le_refl _) rfl hv
  replace H := Lib.hid h9
  clear h1 hv h9
  simp only []
  repeat go_step
  clear hrun
  refine (flags_mk H.out 0 32).mono ?_
  rintro e w1 ⟨v, rfl, h1, hv⟩
  obtain ⟨w9, tab9, hrun, h9⟩ : ∃ w9 tab9, (Instr.mapUpdate 39 (.map (some w.heap.size)) (.string ⟨#[79, 76, 68]⟩) v).run Tryz.prog w1 = .ok () w9 ∧ MkAt w w.heap.size w9 13 tab9 := h1.step (Nat.le_refl _) rfl hv
  replace H := Lib.hid h9
  clear h1 hv h9
  simp only []
  repeat go_step
  clear hrun
  refine (flags_mk H.out 32 1).mono ?_
  rintro e w1 ⟨v, rfl, h1, hv⟩
  obtain ⟨w9, tab9, hrun, h9⟩ : ∃ w9 tab9, (Instr.mapUpdate 39 (.map (some w.heap.size)) (.string ⟨#[78, 69, 87]⟩) v).run Tryz.prog w1 = .ok () w9 ∧ MkAt w w.heap.size w9 14 tab9 := h1.step (Nat.le_refl _) rfl hv
  replace H := Lib.hid h9
  clear h1 hv h9
  simp only []
  repeat go_step
  clear hrun
  refine (sizeT_mk H.out).mono ?_
  rintro e w1 ⟨v, rfl, h1, hv⟩
  obtain ⟨w9, tab9, hrun, h9⟩ : ∃ w9 tab9, (Instr.mapUpdate 39 (.map (some w.heap.size)) (.string ⟨#[76, 65, 82, 71, 69, 82]⟩) v).run Tryz.prog w1 = .ok () w9 ∧ MkAt w w.heap.size w9 15 tab9 := h1.step (Nat.le_refl _) rfl hv
  replace H := Lib.hid h9
  clear h1 hv h9
  simp only []
  repeat go_step
  clear hrun
  refine (sizeF_mk H.out).mono ?_
  rintro e w1 ⟨v, rfl, h1, hv⟩
  obtain ⟨w9, tab9, hrun, h9⟩ : ∃ w9 tab9, (Instr.mapUpdate 39 (.map (some w.heap.size)) (.string ⟨#[83, 77, 65, 76, 76, 69, 82]⟩) v).run Tryz.prog w1 = .ok () w9 ∧ MkAt w w.heap.size w9 16 tab9 := h1.step (Nat.le_refl _) rfl hv
  replace H := Lib.hid h9
  clear h1 hv h9
  simp only []
  repeat go_step
  clear hrun
  refine (field_mk H.out wFROM).mono ?_
  rintro e w1 ⟨v, rfl, h1, hv⟩
  obtain ⟨w9, tab9, hrun, h9⟩ : ∃ w9 tab9, (Instr.mapUpdate 39 (.map (some w.heap.size)) (.string ⟨#[70, 82, 79, 77]⟩) v).run Tryz.prog w1 = .ok () w9 ∧ MkAt w w.heap.size w9 17 tab9 := h1.step (Nat.le_refl _) rfl hv
  replace H := Lib.hid h9
  clear h1 hv h9
  simp only []
  repeat go_step
  clear hrun
  refine (field_mk H.out wTO).mono ?_
  rintro e w1 ⟨v, rfl, h1, hv⟩
  obtain ⟨w9, tab9, hrun, h9⟩ : ∃ w9 tab9, (Instr.mapUpdate 39 (.map (some w.heap.size)) (.string ⟨#[84, 79]⟩) v).run Tryz.prog w1 = .ok () w9 ∧ MkAt w w.heap.size w9 18 tab9 := h1.step (Nat.le_refl _) rfl hv
  replace H := Lib.hid h9
  clear h1 hv h9
  simp only []
  repeat go_step
  clear hrun
  refine (field_mk H.out wSUBJECT).mono ?_
  rintro e w1 ⟨v, rfl, h1, hv⟩
  obtain ⟨w9, tab9, hrun, h9⟩ : ∃ w9 tab9, (Instr.mapUpdate 39 (.map (some w.heap.size)) (.string ⟨#[83, 85, 66, 74, 69, 67, 84]⟩) v).run Tryz.prog w1 = .ok () w9 ∧ MkAt w w.heap.size w9 19 tab9 := h1.step (Nat.le_refl _) rfl hv
  replace H := Lib.hid h9
  clear h1 hv h9
  simp only []
  obtain ⟨w9a, tab19, hrun19, h9⟩ : ∃ wz tabz, (Instr.mapUpdate 39 (.map (some w.heap.size)) (.string ⟨#[72, 69, 65, 68, 69, 82]⟩) (.func (.func 24) #[] #[])).run Tryz.prog w9 = .ok () wz ∧ MkAt w w.heap.size wz 20 tabz := H.out.step (Nat.le_refl _) rfl rfl
  replace H := Lib.hid h9
  clear h9
  repeat go_step
  clear hrun hrun19
  refine (textT_mk H.out).mono ?_
  rintro e w1 ⟨v, rfl, h1, hv⟩
  obtain ⟨w9, tab9, hrun, h9⟩ : ∃ w9 tab9, (Instr.mapUpdate 39 (.map (some w.heap.size)) (.string ⟨#[66, 79, 68, 89]⟩) v).run Tryz.prog w1 = .ok () w9 ∧ MkAt w w.heap.size w9 21 tab9 := h1.step (Nat.le_refl _) rfl hv
  replace H := Lib.hid h9
  clear h1 hv h9
  simp only []
  repeat go_step
  clear hrun
  refine (textF_mk H.out).mono ?_
  rintro e w1 ⟨v, rfl, h1, hv⟩
  obtain ⟨w9, tab9, hrun, h9⟩ : ∃ w9 tab9, (Instr.mapUpdate 39 (.map (some w.heap.size)) (.string ⟨#[84, 69, 88, 84]⟩) v).run Tryz.prog w1 = .ok () w9 ∧ MkAt w w.heap.size w9 22 tab9 := h1.step (Nat.le_refl _) rfl hv
  replace H := Lib.hid h9
  clear h1 hv h9
  simp only []
  obtain ⟨w9d, tab22, hrun22, h9⟩ : ∃ wz tabz, (Instr.mapUpdate 39 (.map (some w.heap.size)) (.string ⟨#[85, 73, 68]⟩) (.func (.func 28) #[] #[])).run Tryz.prog w9 = .ok () wz ∧ MkAt w w.heap.size wz 23 tabz := H.out.step (Nat.le_refl _) rfl rfl
  replace H := Lib.hid h9
  clear h9
  obtain ⟨w9e, tab23, hrun23, h9⟩ : ∃ wz tabz, (Instr.mapUpdate 39 (.map (some w.heap.size)) (.string ⟨#[78, 79, 84]⟩) (.func (.func 29) #[] #[])).run Tryz.prog w9d = .ok () wz ∧ MkAt w w.heap.size wz 24 tabz := H.out.step (Nat.le_refl _) rfl rfl
  replace H := Lib.hid h9
  clear h9
  obtain ⟨w9f, tab24, hrun24, h9⟩ : ∃ wz tabz, (Instr.mapUpdate 39 (.map (some w.heap.size)) (.string ⟨#[79, 82]⟩) (.func (.func 30) #[] #[])).run Tryz.prog w9e = .ok () wz ∧ MkAt w w.heap.size wz 25 tabz := H.out.step (Nat.le_refl _) rfl rfl
  replace H := Lib.hid h9
  clear h9
  repeat go_step
  clear hrun hrun22 hrun23 hrun24
  go_wp2
  go_ret
  exact ⟨_, rfl, H.out⟩
end Go.Proofs.YtkgngahmpafdhaaGreatDoor.QU

/- The law QueryFlags: it returns true. Conditions: that the cell of the library's MaxLen holds some int; a text of a length that a machine can count. -/
import Derived.Test.YtkgngahmpafdhaaDoorQueryFew
import Derived.Test.YtkgngahmpafdhaaDoorReg
import Derived.Deep.Cut
namespace Go.Proofs.YtkgngahmpafdhaaDoor.QU
open Go.RowKit Mailsack MM PT

def flRows : List (Bs × Bs × Int) := [(wSEEN, [117, 110, 115, 101, 101, 110], 1), (wANSWERED, wUNANSWERED, 2), ([102, 108, 97, 103, 103, 101, 100], wUNFLAGGED, 4), (wDELETED, wUNDELETED, 8), (wDRAFT, wUNDRAFT, 16), (wRECENT, wOLD, 32)]
theorem fl_q : ∀ p ∈ flRows, queryP [p.1] = some [.flags p.2.2 0] ∧ queryP [p.2.1] = some [.flags 0 p.2.2] := by
  intro p hp
  simp only [flRows, List.mem_cons, List.not_mem_nil, or_false] at hp
  rcases hp with rfl | rfl | rfl | rfl | rfl | rfl
  all_goals exact ⟨by kernel_rfl, by kernel_rfl⟩
theorem fl_bits : ∀ n : Fin 64, ∀ t ∈ [(1 : Int), 2, 4, 8, 16, 32], (decide (bits BinOp.and IntKind.i64 ((n : Nat) : Int) 0 = 0) && decide (bits BinOp.and IntKind.i64 ((n : Nat) : Int) t = 0)) = !(decide (bits BinOp.and IntKind.i64 ((n : Nat) : Int) t = t) && decide (bits BinOp.and IntKind.i64 ((n : Nat) : Int) 0 = 0)) := by decide +kernel
theorem fl_all : ∀ n : Fin 64, (decide (bits BinOp.and IntKind.i64 ((n : Nat) : Int) 0 = 0) && decide (bits BinOp.and IntKind.i64 ((n : Nat) : Int) 0 = 0)) = true := by decide +kernel
theorem fl_nat {v : QV} (h : GoodV v) : ∃ n : Fin 64, v.flags = ((n : Nat) : Int) := ⟨⟨v.flags.toNat, by have := h.fl1; have := h.fl0; omega⟩, by have := h.fl0; simp; omega⟩
theorem fl_one {v : QV} (h : GoodV v) : ∀ p ∈ flRows, allQ [.flags 0 p.2.2] v = !allQ [.flags p.2.2 0] v := by
  intro p hp
  obtain ⟨n, hn⟩ := fl_nat h
  have hm : p.2.2 ∈ [(1 : Int), 2, 4, 8, 16, 32] := by
    simp only [flRows, List.mem_cons, List.not_mem_nil, or_false] at hp
    rcases hp with rfl | rfl | rfl | rfl | rfl | rfl <;> simp
  have := fl_bits n _ hm
  simp only [allQ, List.all_cons, List.all_nil, Bool.and_true, semQ, hn]
  exact this
theorem fl_any {v : QV} (h : GoodV v) : allQ [.flags 0 0] v = true := by
  obtain ⟨n, hn⟩ := fl_nat h
  simp only [allQ, List.all_cons, List.all_nil, Bool.and_true, semQ, hn]
  exact fl_all n
def wALL' : Bs := [97, 108, 108]
theorem fl_alls : Short [wALL'] := by decide
theorem fl_allq : queryP [wALL'] = some [.flags 0 0] := by kernel_rfl
theorem fl_few {v : QV} (h : fewP [] v = true) : GoodV v := (fewP_good h).1

abbrev rowO (x y : Bs) : Obj := .cells #[strV x, strV y] 9
def sixW (w : World) : World := ((((((w.alloc (rowO wSEEN [117, 110, 115, 101, 101, 110])).alloc (rowO wANSWERED wUNANSWERED)).alloc (rowO [102, 108, 97, 103, 103, 101, 100] wUNFLAGGED)).alloc (rowO wDELETED wUNDELETED)).alloc (rowO wDRAFT wUNDRAFT)).alloc (rowO wRECENT wOLD)).alloc
  (.cells #[.slice (some ⟨w.heap.size, 0, none⟩) 2 2, .slice (some ⟨w.heap.size + 1, 0, none⟩) 2 2, .slice (some ⟨w.heap.size + 2, 0, none⟩) 2 2, .slice (some ⟨w.heap.size + 3, 0, none⟩) 2 2, .slice (some ⟨w.heap.size + 4, 0, none⟩) 2 2, .slice (some ⟨w.heap.size + 5, 0, none⟩) 2 2] 26)
theorem heap_push (w : World) (o : Obj) : (w.alloc o).heap = w.heap.push o := rfl
theorem six_size (w : World) : (sixW w).heap.size = w.heap.size + 7 := by simp [sixW]
theorem six_at (w : World) (k : Nat) (p : Bs × Bs × Int) (hp : flRows[k]? = some p) : (sixW w).heap[w.heap.size + k]? = some (rowO p.1 p.2.1) := by
  have hk : k < 6 := (List.getElem?_eq_some_iff.1 hp).1
  have : k = 0 ∨ k = 1 ∨ k = 2 ∨ k = 3 ∨ k = 4 ∨ k = 5 := by omega
  unfold sixW
  rcases this with rfl | rfl | rfl | rfl | rfl | rfl
  all_goals
    simp only [flRows, List.getElem?_cons_zero, List.getElem?_cons_succ, Option.some.injEq] at hp
    subst hp
    simp only [heap_push]
    rw [Array.getElem?_eq_getElem (by simp <;> omega)]
    simp [Array.getElem_push]
    try repeat rw [if_pos (by omega)]
theorem six_row (w : World) (k : Nat) (hk : k < 6) : (sixW w).cell? ⟨w.heap.size + 6, k, none⟩ = some (.slice (some ⟨w.heap.size + k, 0, none⟩) 2 2) := by
  have h : (sixW w).heap[w.heap.size + 6]? = some (.cells #[.slice (some ⟨w.heap.size, 0, none⟩) 2 2, .slice (some ⟨w.heap.size + 1, 0, none⟩) 2 2, .slice (some ⟨w.heap.size + 2, 0, none⟩) 2 2, .slice (some ⟨w.heap.size + 3, 0, none⟩) 2 2, .slice (some ⟨w.heap.size + 4, 0, none⟩) 2 2, .slice (some ⟨w.heap.size + 5, 0, none⟩) 2 2] 26 (0, 0)) := by
    unfold sixW
    simp only [heap_push]
    rw [Array.getElem?_eq_getElem (by simp)]
    simp [Array.getElem_push]
  rw [cell_blk h]
  have : k = 0 ∨ k = 1 ∨ k = 2 ∨ k = 3 ∨ k = 4 ∨ k = 5 := by omega
  rcases this with rfl | rfl | rfl | rfl | rfl | rfl <;> rfl
theorem six_below (w : World) : Below w.heap.size w (sixW w) := by
  have h : ∀ {W : World} (o : Obj), Below w.heap.size w W → Below w.heap.size w (W.alloc o) := fun o hb => hb.alloc hb.size o
  unfold sixW
  exact h _ (h _ (h _ (h _ (h _ (h _ (h _ (Below.refl _ _)))))))
theorem rds_fst {w : World} {g : Nat} {x y : Bs} (h : w.heap[g]? = some (rowO x y)) : RdS w w.heap.size (.slice (some ⟨g, 0, none⟩) 1 2) [x] :=
  ⟨_, 2, rfl, by simp, fun _ => ⟨g, 0, rfl, blk_lt h, fun j r hr => by
    have hj : j = 0 := by have := (List.getElem?_eq_some_iff.1 hr).1; simp at this; omega
    subst hj
    rw [Nat.zero_add, cell_blk h 0]
    simp at hr
    subst hr
    rfl⟩⟩
theorem rds_snd {w : World} {g : Nat} {x y : Bs} (h : w.heap[g]? = some (rowO x y)) : RdS w w.heap.size (.slice (some ⟨g, 1, none⟩) 1 1) [y] :=
  ⟨_, 1, rfl, by simp, fun _ => ⟨g, 1, rfl, blk_lt h, fun j r hr => by
    have hj : j = 0 := by have := (List.getElem?_eq_some_iff.1 hr).1; simp at this; omega
    subst hj
    rw [cell_blk h 1]
    simp at hr
    subst hr
    rfl⟩⟩
theorem fl_short : ∀ p ∈ flRows, Short [p.1] ∧ Short [p.2.1] := by decide
theorem awake_at {m : Int} {w W : World} (hm : w.cell? ⟨0, 0, none⟩ = some (.int .i64 m)) (hb : Below w.heap.size w W) :
    Calls Tryd.prog 5 #[] W fun e w' => e = .returned (.bool true) ∧ Below w.heap.size w w' :=
  (awake_any m W (max_at hm hb)).mono fun _ _ k => ⟨k.1, hb.trans (k.2.mono hb.size)⟩
theorem view_load {w : World} {b : Nat} {v : QV} (h : w.heap[b]? = some (viewB v)) : w.cell? ⟨b, 0, none⟩ = some (.int .i64 v.seq) ∧ w.cell? ⟨b, 1, none⟩ = some (.int .i64 v.uid) ∧ w.cell? ⟨b, 2, none⟩ = some (.int .i64 v.flags) ∧ w.cell? ⟨b, 3, none⟩ = some (.int .i64 v.size) ∧
    w.cell? ⟨b, 4, none⟩ = some (strV v.text) ∧ w.cell? ⟨b, 5, none⟩ = some (.int .i64 v.seqs) ∧ w.cell? ⟨b, 6, none⟩ = some (.int .i64 v.uids) :=
  ⟨cell_blk h 0, cell_blk h 1, cell_blk h 2, cell_blk h 3, cell_blk h 4, cell_blk h 5, cell_blk h 6⟩

set_option maxHeartbeats 4000000 in
set_option maxRecDepth 100000 in
theorem qflags_any (v : QV) (m : Int) (w : World) (ht : v.text.length ≤ 9223372036854775807) (hm : w.cell? ⟨0, 0, none⟩ = some (.int .i64 m)) :
    Calls Tryd.prog 3 #[viewV v] w fun e w' => e = .returned (.bool true) ∧ Below w.heap.size w w' := by
  have Hm := Lib.hid hm
  have HB1 := Lib.hid ((Below.refl w.heap.size w).alloc (Nat.le_refl _) (viewB v))
  have HV1 := Lib.hid (blk_new w (viewB v))
  have HF := Lib.hid (few_any (.slice none 0 0) [] v (w.alloc (viewB v)) ⟨none, 0, rfl, Nat.le_refl _, fun h => by simp at h⟩ (by simp) (by simp) ht)
  clear hm ht
  cases hf : fewP [] v with
  | false =>
    rw [hf] at HF
    unfold viewV
    go_enter Tryd.func3, Tryd.ntmps3
    go_wp2_with fail
    refine HF.out.mono ?_
    rintro e w2 ⟨rfl, hb2⟩
    have HB2 := Lib.hid (HB1.out.trans (hb2.mono HB1.out.size))
    clear hb2
    go_wp2_with fail
    refine (awake_at Hm.out HB2.out).mono ?_
    rintro e w3 ⟨rfl, hb3⟩
    go_wp2
    go_ret
    exact ⟨rfl, hb3⟩
  | true =>
    have Hg := Lib.hid (fl_few hf)
    rw [hf] at HF
    clear hf
    unfold viewV
    go_enter Tryd.func3, Tryd.ntmps3
    go_wp2_with fail
    refine HF.out.mono ?_
    rintro e w2 ⟨rfl, hb2⟩
    have HB2 := Lib.hid (HB1.out.trans (hb2.mono HB1.out.size))
    have HV2 := Lib.hid (blk_below HV1.out hb2 (by simp))
    clear hb2 HF
    go_wp2_with fail
    have HS := Lib.hid (six_below w2)
    go_loopw [23] (fun i wr => ∃ k : Nat, k ≤ 6 ∧ i = .int .i64 (k : Int) ∧ Hid (Below (sixW w2).heap.size (sixW w2) wr)) (fun i _ => 6 - (intOf i).toNat)
    case atStart => exact ⟨0, by decide, rfl, Lib.hid (Below.refl _ _)⟩
    case round =>
      obtain ⟨k, hk, rfl, hb⟩ := hrel
      have hsz := six_size w2
      by_cases hlt : k < 6
      · obtain ⟨p, hp⟩ : ∃ p, flRows[k]? = some p := ⟨_, List.getElem?_eq_getElem (by simpa [flRows] using hlt)⟩
        have hpm := List.mem_of_getElem? hp
        obtain ⟨hq1, hq2⟩ := fl_q p hpm
        obtain ⟨hs1, hs2⟩ := fl_short p hpm
        have hone := fl_one Hg.out p hpm
        have hrow := blk_below (six_at w2 k p hp) hb.out (by omega)
        have d1 : wr.cell? ⟨w2.heap.size + 1 + 1 + 1 + 1 + 1 + 1, k, none⟩ = some (.slice (some ⟨w2.heap.size + k, 0, none⟩) 2 2) := (hb.out.cell (p := ⟨w2.heap.size + 6, k, none⟩) (by show w2.heap.size + 6 < _; omega)).trans (six_row w2 k hlt)
        have hbw := HB2.out.trans (HS.out.mono HB2.out.size)
        have hbr := hbw.trans (hb.out.mono (by have := hbw.size; exact this))
        have HP := Lib.hid (parse_any _ [p.1] m wr (rds_fst hrow) hs1 (max_at Hm.out hbr))
        rw [hq1] at HP
        have Hrow := Lib.hid hrow
        have Hbr := Lib.hid hbr
        have Hq2 := Lib.hid hq2
        have Hs2 := Lib.hid hs2
        have Hone := Lib.hid hone
        have hvr := Lib.hid (blk_below (blk_below HV2.out HS.out (blk_lt HV2.out)) hb.out (by have := blk_lt HV2.out; have := HS.out.size; omega))
        clear hrow hbr hq1 hq2 hs1 hs2 hone hbw hp hpm
        go_wp2_with fail
        refine HP.out.mono ?_
        rintro e w4 ⟨hb4, v1, kvs1, rfl, hK1⟩
        have HK1 := Lib.hid hK1
        have hlen1 := hK1.len
        obtain ⟨A1, c1, rfl, hc1⟩ := hK1.form
        rw [hlen1, show [QKey.flags p.2.2 0].length = 1 from rfl] at hc1 HK1 ⊢
        have HB4 := Lib.hid hb4
        clear hb4 hK1 hlen1 HP
        go_wp2_with fail
        have hb5 := HB4.out.alloc HB4.out.size (.cells #[.slice A1 1 c1] 30)
        have HP2 := Lib.hid (parse_any _ [p.2.1] m _ (rds_snd (blk_below Hrow.out hb5 (blk_lt Hrow.out))) Hs2.out (max_at Hm.out (Hbr.out.trans (hb5.mono Hbr.out.size))))
        rw [Hq2.out] at HP2
        have HB5 := Lib.hid hb5
        clear hb5
        refine HP2.out.mono ?_
        rintro e w6 ⟨hb6, v2, kvs2, rfl, hK2⟩
        have HK2 := Lib.hid hK2
        have hlen2 := hK2.len
        obtain ⟨A2, c2, rfl, hc2⟩ := hK2.form
        rw [hlen2, show [QKey.flags 0 p.2.2].length = 1 from rfl] at hc2 HK2 ⊢
        have ha7 := (Below.refl w6.heap.size w6).alloc (Nat.le_refl _) (.cells #[.slice A2 1 c2] 30)
        have hb7 := hb6.trans (ha7.mono hb6.size)
        obtain ⟨s, hs⟩ : ∃ s, allQ [QKey.flags p.2.2 0] v = s := ⟨_, rfl⟩
        have HQ1 : Hid (∀ W', Below (w6.alloc (.cells #[.slice A2 1 c2] 30)).heap.size (w6.alloc (.cells #[.slice A2 1 c2] 30)) W' → Calls Tryd.prog 7 #[.agg #[.slice A1 1 c1], viewV v] W' fun e W'' => e = .returned (.bool s) ∧ Below W'.heap.size W' W'') := Lib.hid fun W' hW' => by
          have := holds_any _ _ kvs1 [QKey.flags p.2.2 0] v W' Hg.out (((HK1.out.below ((Below.refl _ _).alloc (Nat.le_refl _) _)).below hb7).below hW') (by simp)
          rw [hs] at this
          exact this
        have HQ2 : Hid (∀ W', Below (w6.alloc (.cells #[.slice A2 1 c2] 30)).heap.size (w6.alloc (.cells #[.slice A2 1 c2] 30)) W' → Calls Tryd.prog 7 #[.agg #[.slice A2 1 c2], viewV v] W' fun e W'' => e = .returned (.bool !s) ∧ Below W'.heap.size W' W'') := Lib.hid fun W' hW' => by
          have := holds_any _ _ kvs2 [QKey.flags 0 p.2.2] v W' Hg.out ((HK2.out.below ha7).below hW') (by simp)
          rw [Hone.out, hs] at this
          exact this
        have b1 := Lib.hid (blk_below (blk_new w4 (.cells #[.slice A1 1 c1] 30)) hb7 (by simp))
        have b2 := Lib.hid (blk_new w6 (.cells #[.slice A2 1 c2] 30))
        have b3 := Lib.hid (blk_below (blk_below hvr.out HB5.out (blk_lt hvr.out)) hb7 (Nat.lt_of_lt_of_le (blk_lt hvr.out) HB5.out.size))
        have HB7 := Lib.hid (HB5.out.trans (hb7.mono HB5.out.size))
        clear hb6 hb7 ha7 hK2 hlen2 HP2 hs HB5 HB4 HK1 HK2 hvr Hrow
        unfold viewV at HQ1 HQ2
        go_upto_region 8 with fail
        cases s
        all_goals
          refine RG.wp_region_det (fun W => Hid (Below (w6.alloc (.cells #[.slice A2 1 c2] 30)).heap.size (w6.alloc (.cells #[.slice A2 1 c2] 30)) W)) (by kernel_rfl) (by kernel_rfl) (Lib.hid (Below.refl _ _).drew) ?_
          iterate 9
            apply RG.wpDet_cons
            · intro w9 hw9
              have k0 : w9.cell? ⟨w4.heap.size, 0, none⟩ = some (.slice A1 1 c1) := cell_blk (blk_below b1.out hw9.out (blk_lt b1.out)) 0
              obtain ⟨d2, d3, d4, d5, d6, d7, d8⟩ := view_load (blk_below b3.out hw9.out (blk_lt b3.out))
              repeat go_step
              with_reducible refine RG.only_mk ?_
              exact hw9
            · rfl
          apply RG.wpDet_cons
          · intro w9 hw9
            repeat go_step
            refine (HQ1.out w9 hw9.out).mono ?_
            rintro e w10 ⟨rfl, hb10⟩
            simp only []
            repeat go_step
            with_reducible refine RG.only_mk ?_
            exact Lib.hid (hw9.out.trans (hb10.mono hw9.out.size))
          · rfl
          iterate 2
            apply RG.wpDet_cons
            · intro w9 hw9
              have k0 : w9.cell? ⟨w6.heap.size, 0, none⟩ = some (.slice A2 1 c2) := cell_blk (blk_below b2.out hw9.out (blk_lt b2.out)) 0
              obtain ⟨d2, d3, d4, d5, d6, d7, d8⟩ := view_load (blk_below b3.out hw9.out (blk_lt b3.out))
              repeat go_step
              with_reducible refine RG.only_mk ?_
              exact hw9
            · rfl
          apply RG.wpDet_cons
          · intro w9 hw9
            repeat go_step
            refine (HQ2.out w9 hw9.out).mono ?_
            rintro e w10 ⟨rfl, hb10⟩
            simp only []
            repeat go_step
            with_reducible refine RG.only_mk ?_
            exact Lib.hid (hw9.out.trans (hb10.mono hw9.out.size))
          · rfl
          iterate 2
            apply RG.wpDet_cons
            · intro w9 hw9
              repeat go_step
              with_reducible refine RG.only_mk ?_
              exact hw9
            · rfl
          refine RG.wpDet_nil (fun w9 hw9 => ?_)
          have hb9 := Lib.hid (hb.out.trans ((HB7.out.trans (hw9.out.mono HB7.out.size)).mono hb.out.size))
          clear hw9
          go_wp2
          exact ⟨⟨k + 1, by omega, by go_num, hb9⟩, by simp [intOf]; omega⟩
      · have hbw := HB2.out.trans (HS.out.mono HB2.out.size)
        have hbr := hbw.trans (hb.out.mono (by have := hbw.size; exact this))
        have hvr := blk_below (blk_below HV2.out HS.out (blk_lt HV2.out)) hb.out (by have := blk_lt HV2.out; have := HS.out.size; omega)
        have hbA := (Below.refl wr.heap.size wr).alloc (Nat.le_refl _) (.cells ([wALL'].map strV).toArray 9)
        have HP := Lib.hid (parse_any _ [wALL'] m _ (rds_blk (l := [wALL']) (blk_new wr (.cells ([wALL'].map strV).toArray 9))) fl_alls (max_at Hm.out (hbr.trans (hbA.mono hbr.size))))
        rw [fl_allq] at HP
        have HA := Lib.hid hbA
        have Hbr := Lib.hid hbr
        have HVr := Lib.hid hvr
        clear hbw hbr hvr hbA
        go_wp2_with fail
        refine HP.out.mono ?_
        rintro e w4 ⟨hb4, v1, kvs1, rfl, hK1⟩
        have HK1 := Lib.hid hK1
        have hlen1 := hK1.len
        obtain ⟨A1, c1, rfl, hc1⟩ := hK1.form
        rw [hlen1, show [QKey.flags 0 0].length = 1 from rfl] at hc1 HK1 ⊢
        have hb4' := HA.out.trans (hb4.mono HA.out.size)
        have ha5 := (Below.refl w4.heap.size w4).alloc (Nat.le_refl _) (.cells #[.slice A1 1 c1] 30)
        have hb5 := hb4'.trans (ha5.mono hb4'.size)
        have HB5 := Lib.hid (Hbr.out.trans (hb5.mono Hbr.out.size))
        have hv5 := blk_below HVr.out hb5 (blk_lt HVr.out)
        obtain ⟨d2, d3, d4, d5, d6, d7, d8⟩ := view_load hv5
        have b1 := blk_new w4 (.cells #[.slice A1 1 c1] 30)
        have k0 : (w4.alloc (.cells #[.slice A1 1 c1] 30)).cell? ⟨w4.heap.size, 0, none⟩ = some (.slice A1 1 c1) := cell_blk b1 0
        have HQ := Lib.hid (holds_any _ _ kvs1 [QKey.flags 0 0] v _ Hg.out (HK1.out.below ha5) (by simp))
        rw [fl_any Hg.out] at HQ
        unfold viewV at HQ
        have hl5 := blk_lt hv5
        clear hb4 hb4' ha5 hb5 hK1 hlen1 HP hv5 b1 HK1
        go_wp2_with fail
        refine HQ.out.mono ?_
        rintro e w6 ⟨rfl, hb6⟩
        have HB6 := Lib.hid (HB5.out.trans (hb6.mono HB5.out.size))
        clear hb6 d2 d3 d4 d5 d6 d7 d8 k0
        go_wp2_with fail
        refine (awake_at Hm.out HB6.out).mono ?_
        rintro e w7 ⟨rfl, hb7⟩
        go_wp2
        go_ret
        exact ⟨rfl, hb7⟩
end Go.Proofs.YtkgngahmpafdhaaDoor.QU

/- What part.fields returns: the fields of the head's lines, in a slice of its own. Conditions: lengths, and that the cell of the library's MaxLen holds some int. -/
import Derived.Test.YtkgngahmpafdhaaGreatDoorPartField
namespace Go.Proofs.YtkgngahmpafdhaaGreatDoor.PT
open Go.RowKit Mailsack MM

theorem size_mk (l : Bs) : (⟨l.toArray⟩ : ByteArray).size = l.length := rfl
theorem cut_len {l sep a b : Bs} {c : Bool} (h : Lib.cut l sep = (a, b, c)) : a.length ≤ l.length := by
  unfold Lib.cut at h
  split at h
  · injection h with h1 _; rw [← h1, List.length_take]; omega
  · injection h with h1 _; rw [← h1]; exact Nat.le_refl _
theorem cut_len2 {l sep a b : Bs} {c : Bool} (h : Lib.cut l sep = (a, b, c)) : b.length ≤ l.length := by
  unfold Lib.cut at h
  split at h
  · injection h with _ h1; injection h1 with h1 _; rw [← h1, List.length_drop]; omega
  · injection h with _ h1; injection h1 with h1 _; rw [← h1]; simp
/-- the slice value owns a row of just these fields -/
def OwnF (w : World) (base : Nat) (v : Value) (F : List (Bs × Bs)) : Prop := w.ownsRow base 99 2 v F.length (F.flatMap fun p => [strV p.1, strV p.2])
theorem OwnF.nil (w : World) (base : Nat) : OwnF w base (.slice none 0 0) [] := World.ownsRow_nil w base _ _
theorem OwnF.of {w : World} {base : Nat} {v : Value} {F : List (Bs × Bs)} {a b : Bs} (h : w.ownsRow base 99 2 v (F.length + 1) (F.flatMap (fun p => [strV p.1, strV p.2]) ++ [strV a, strV b])) : OwnF w base v (F ++ [(a, b)]) := by
  unfold OwnF; rw [List.length_append, List.flatMap_append]; exact h
theorem OwnF.below {w w' : World} {base : Nat} {v : Value} {F : List (Bs × Bs)} (h : OwnF w base v F) (hb : Below w.heap.size w w') : OwnF w' base v F :=
  World.ownsRow.kept h (grown_of_below hb none) (by cases v.ownBlock <;> simp)
theorem OwnF.less {w : World} {base base' : Nat} {v : Value} {F : List (Bs × Bs)} (h : OwnF w base v F) (hb : base' ≤ base) : OwnF w base' v F := by
  refine ⟨h.1, ?_⟩
  rcases h.2 with hn | ⟨g, cap, cur, h1, h2, h3⟩
  · exact .inl hn
  · exact .inr ⟨g, cap, cur, h1, by omega, h3⟩
theorem OwnF.form {w : World} {base : Nat} {v : Value} {F : List (Bs × Bs)} (h : OwnF w base v F) : ∃ A c, v = .slice A F.length c ∧ F.length ≤ c := by
  rcases h.2 with ⟨h1, h2⟩ | ⟨g, cap, cur, h1, _, _, h2, _⟩
  · exact ⟨none, 0, by rw [h1, h2], by omega⟩
  · exact ⟨_, _, h1, h2⟩
/-- a new slice of one text is owned -/
theorem own_one (w : World) (x : Bs) : OwnS (w.alloc (.cells #[strV x] 9)) w.heap.size (.slice (some ⟨w.heap.size, 0, none⟩) 1 1) [x] :=
  ⟨rfl, .inr ⟨w.heap.size, 1, #[strV x], rfl, Nat.le_refl _, blk_new _ _, Nat.le_refl _, by decide, rfl, rfl⟩⟩

def crSep : ByteArray := ⟨#[13, 10]⟩
/-- the lines of a head -/
def linesP (l : Bs) : List Bs := Lib.split l [13, 10]
theorem linesP_len (s : ByteArray) : (linesP s.data.toList).length = Lib.countB s crSep + 1 := by
  have := Lib.splitB_all crSep (by decide) 0 _ s rfl
  rw [← this, ← List.length_map (f := fun b : ByteArray => b.data.toList), Lib.splitB_data]
  rfl
theorem linesP_each (s : ByteArray) : ∀ x ∈ linesP s.data.toList, x.length ≤ s.size := fun x hx => by
  have := splitK_each _ _ x hx
  rw [size_list] at this; exact this
theorem cells_lines (s : ByteArray) : ((Lib.splitB crSep 0 (Lib.countB s crSep) s).map Value.string) = (linesP s.data.toList).map strV := by
  have h : linesP s.data.toList = (Lib.splitB crSep 0 (Lib.countB s crSep) s).map (fun b => b.data.toList) := by rw [Lib.splitB_data]; rfl
  rw [h, List.map_map]
  exact List.map_congr_left fun b _ => by cases b; rfl
theorem rds_lines (s : ByteArray) (w : World) : RdS (w.alloc (.cells ((Lib.splitB crSep 0 (Lib.countB s crSep) s).map Value.string).toArray 9)) (w.heap.size + 1)
    (.slice (some ⟨w.heap.size, 0, none⟩) (Lib.countB s crSep + 1) (Lib.countB s crSep + 1)) (linesP s.data.toList) := by
  have hl := linesP_len s
  refine ⟨some ⟨w.heap.size, 0, none⟩, _, by rw [hl], by omega, fun _ => ⟨w.heap.size, 0, rfl, Nat.lt_succ_self _, fun j x hj => ?_⟩⟩
  rw [Nat.zero_add, cell_blk (blk_new w _), cells_lines]
  simp [hj]

/-- at the head of the outer loop -/
structure FI (all : List Bs) (av : Value) (w w1 : World) (i : Nat) (fv : Value) (F : List (Bs × Bs)) (wr : World) : Prop where
  own : OwnF wr w1.heap.size fv F
  rd : RdS wr w1.heap.size av all
  bel : Below w1.heap.size w1 wr
  num : F ++ fieldsP (all.drop i) = fieldsP all
  len : F.length ≤ i
/-- at the head of the inner loop -/
structure PI (all : List Bs) (wq : World) (v : Bs) (i0 i : Nat) (pv : Value) (P : List Bs) (wr : World) : Prop where
  own : OwnS wr wq.heap.size pv P
  bel : Below wq.heap.size wq wr
  num : P ++ (all.drop i).takeWhile isCont = v :: (all.drop i0).takeWhile isCont
  rest : (all.drop i).dropWhile isCont = (all.drop i0).dropWhile isCont
  len : P.length + i0 = i + 1
  each : ∀ x ∈ P, x.length ≤ 1000000
  ge : i0 ≤ i

theorem OwnS.some_of {w : World} {base : Nat} {v : Value} {P : List Bs} (h : OwnS w base v P) (h0 : 0 < P.length) : ∃ g cap, v = .slice (some ⟨g, 0, none⟩) P.length cap ∧ P.length ≤ cap ∧ g < w.heap.size ∧ ∀ j x, P[j]? = some x → w.cell? ⟨g, j, none⟩ = some (strV x) := by
  rcases h.2 with ⟨_, h2⟩ | ⟨g, cap, cur, h1, _, hg, h2, _⟩
  · omega
  · refine ⟨g, cap, h1, h2, blk_lt hg, fun j x hx => ?_⟩
    have := World.ownsRow.cells h (g := g) (by rw [h1]; rfl) j (strV x) (by simp [hx])
    have hadd : (⟨g, 0, none⟩ : Addr).add j = ⟨g, j, none⟩ := by unfold Addr.add; split <;> simp_all
    rw [hadd] at this
    exact this
theorem join_any (P : List Bs) (g cap : Nat) (w : World) (hc : ∀ j x, P[j]? = some x → w.cell? ⟨g, j, none⟩ = some (strV x)) (hg : g < w.heap.size) (hcap : P.length ≤ cap) (hl : P.length ≤ 1000002) (he : ∀ x ∈ P, x.length ≤ 1000000) :
    Calls Tryz.prog 73 #[.slice (some ⟨g, 0, none⟩) P.length cap, .string ⟨#[]⟩] w fun e w' => e = .returned (strV (Lib.join P [])) ∧ Below w.heap.size w w' := by
  have hmap : (P.map (fun y => (⟨y.toArray⟩ : ByteArray))).map (·.data.toList) = P := by rw [List.map_map]; exact List.map_id _
  have hJ := Tryz.strings_Join g 0 cap (P.map (fun y => (⟨y.toArray⟩ : ByteArray))) ⟨#[]⟩ w (fun j x hx => by
      rw [List.getElem?_map] at hx
      cases hy : P[j]? with
      | none => rw [hy] at hx; cases hx
      | some y =>
        rw [hy] at hx
        simp only [Option.map_some, Option.some.injEq] at hx
        rw [Nat.zero_add, hc j y hy, ← hx]) hg (by rw [List.length_map]; omega) (by rw [List.length_map]; exact hcap)
    (by
      rw [hmap]
      show (Lib.join P []).length ≤ _
      rw [join_flat]
      have := flat_len 1000000 P he
      have h2 : P.length * 1000000 ≤ 1000002 * 1000000 := Nat.mul_le_mul_right _ hl
      omega)
  rw [List.length_map, hmap] at hJ
  exact hJ
theorem two_cells (a b : Bs) : ∀ u ∈ [strV a, strV b], u.oneCell' = true := by
  intro u hu
  rcases List.mem_cons.1 hu with h | h
  · rw [h]; rfl
  · rw [List.mem_singleton.1 h]; rfl
theorem OwnF.alloc {w : World} {base : Nat} {v : Value} {F : List (Bs × Bs)} (h : OwnF w base v F) (o : Obj) : (w.alloc o).ownsRow base 99 2 v F.length (F.flatMap fun p => [strV p.1, strV p.2]) := World.ownsRow.alloc h o

theorem infoF : (Tryz.prog.info? 99).map (fun i => (i.zero, i.size, i.bytes)) = some (some (.agg #[.string ⟨#[]⟩, .string ⟨#[]⟩]), 2, 32) := by kernel_rfl

set_option maxHeartbeats 4000000 in
set_option maxRecDepth 100000 in
theorem fields_any (s : ByteArray) (m : Int) (w : World) (hs : s.size ≤ 1000000) (hm : w.cell? ⟨0, 0, none⟩ = some (.int .i64 m)) :
    Calls Tryz.prog 66 #[.string s] w fun e w' => ∃ v, e = .returned v ∧ OwnF w' w.heap.size v (fieldsP (linesP s.data.toList)) ∧ Below w.heap.size w w' := by
  obtain ⟨j0, hj, hjz0, hjz1, hjz2⟩ := info_parts infoStr
  obtain ⟨i0, hi, hz0, hz1, hz2⟩ := info_parts infoF
  have hw0 : 0 < w.heap.size := World.block_lt_of_cell? w _ hm
  have Hm := Lib.hid hm
  clear hm
  have hN : Lib.countB s crSep ≤ s.size := Lib.countB_le crSep (by decide) _ s (Nat.le_refl _)
  have hall := linesP_len s
  have Heach := Lib.hid (linesP_each s)
  have hR1 := Lib.hid (rds_lines s w)
  generalize linesP s.data.toList = all at hall Heach hR1 ⊢
  go_enter Tryz.func66, Tryz.ntmps66
  go_wp2_with fail
  refine (Tryz.strings_Split s crSep m _ (by omega) Hm.out (by decide)).mono ?_
  have hB1 := (Below.refl w.heap.size w).alloc (Nat.le_refl _) (.cells ((Lib.splitB crSep 0 (Lib.countB s crSep) s).map Value.string).toArray 9)
  have hZ1 := size_new w (.cells ((Lib.splitB crSep 0 (Lib.countB s crSep) s).map Value.string).toArray 9)
  rw [← hZ1] at hR1
  generalize w.alloc (.cells ((Lib.splitB crSep 0 (Lib.countB s crSep) s).map Value.string).toArray 9) = w1 at hB1 hR1 hZ1 ⊢
  rw [← hall] at hR1 ⊢
  generalize Lib.countB s crSep = cnt at hall hN
  rintro e w' ⟨rfl, hw⟩
  subst hw
  have hlen : all.length ≤ 1000001 := by omega
  have HB1 := Lib.hid hB1
  have hZ : w.heap.size < w'.heap.size := by omega
  clear hall hB1 hN hZ1
  go_wp2_with fail
  go_loopw [3, 5] (fun fv iv wr => ∃ (i : Nat) (F : List (Bs × Bs)), i ≤ all.length ∧ iv = .int .i64 i ∧ Hid (FI all (.slice (some ⟨w.heap.size, 0, none⟩) all.length all.length) w w' i fv F wr)) (fun _ iv _ => all.length - (intOf iv).toNat)
  case atStart => exact ⟨0, [], Nat.zero_le _, rfl, Lib.hid ⟨OwnF.nil _ _, hR1.out, Below.refl _ _, by simp, Nat.le_refl _⟩⟩
  case round =>
    obtain ⟨i, F, hil, rfl, hr⟩ := hrel
    have hFl := hr.out.len
    by_cases hlt : i < all.length
    · obtain ⟨x, hx⟩ : ∃ x, all[i]? = some x := ⟨_, List.getElem?_eq_getElem hlt⟩
      have hxl := Heach.out x (List.mem_of_getElem? hx)
      have hdr : all.drop i = x :: all.drop (i + 1) := by
        rw [List.drop_eq_getElem_cons hlt]; congr 1; exact (List.getElem?_eq_some_iff.1 hx).2
      have q0 : wr.cell? ⟨w.heap.size, i, none⟩ = some (strV x) := by
        obtain ⟨A0, c0, e0, _, h0⟩ := hr.out.rd
        injection e0 with e0 _ e0'
        subst e0
        obtain ⟨b, off, e1, _, h1⟩ := h0 (by omega)
        injection e1 with e1
        injection e1 with e1 e2
        subst e1 e2
        have := h1 i x hx
        rwa [Nat.zero_add] at this
      have hmx := Lib.hid (((HB1.out.trans (hr.out.bel.mono HB1.out.size)).cell hw0).trans Hm.out)
      have Hd := Lib.hid hdr
      clear hx hdr
      rcases hcut : Lib.cut x [58] with ⟨nm, vl, hc⟩
      have hnl : nm.length ≤ 1000000 := Nat.le_trans (by have := cut_len hcut; exact this) (by omega)
      have hvl : vl.length ≤ 1000000 := Nat.le_trans (by have := cut_len2 hcut; exact this) (by omega)
      have Hcut := Lib.hid (show Lib.cut (⟨x.toArray⟩ : ByteArray).data.toList (⟨#[58]⟩ : ByteArray).data.toList = (nm, vl, hc) from hcut)
      clear hcut
      go_wp2_with fail
      refine (Tryz.strings_Cut ⟨x.toArray⟩ ⟨#[58]⟩ m _ (by rw [size_mk]; omega) hmx.out).mono ?_
      rw [Hcut.out]
      rintro e w2 ⟨rfl, n2, hw2⟩
      have hr2 : Hid (FI all (.slice (some ⟨w.heap.size, 0, none⟩) all.length all.length) w w' i u3 F w2) := Lib.hid (by subst hw2; exact ⟨hr.out.own, hr.out.rd, below_drewN hr.out.bel _, hr.out.num, hr.out.len⟩)
      have q1 : ∀ j, w2.cell? ⟨w.heap.size, j, none⟩ = wr.cell? ⟨w.heap.size, j, none⟩ := fun j => by subst hw2; rfl
      have Q1 := Lib.hid q1
      clear hw2 q0 q1 hr hmx
      cases hc
      · have hn : Hid (FI all (.slice (some ⟨w.heap.size, 0, none⟩) all.length all.length) w w' (i + 1) u3 F w2) := Lib.hid ⟨hr2.out.own, hr2.out.rd, hr2.out.bel, by
          have := hr2.out.num
          rw [Hd.out, fieldsP_skip (.inl (by rw [show Lib.cut x [58] = (nm, vl, false) from Hcut.out]))] at this; exact this, by omega⟩
        go_wp2
        go_roundw
        case rel => exact ⟨i + 1, F, by omega, by go_num, hn⟩
        case measure => simp [intOf]; omega
      · cases hct : isCont x
        · have Hct := Lib.hid (show isCont (⟨x.toArray⟩ : ByteArray).data.toList = false from hct)
          clear hct
          go_wp2_with fail
          refine (cont_any ⟨x.toArray⟩ _).mono ?_
          rw [Hct.out]
          rintro e w3 ⟨rfl, hw3⟩
          subst hw3
          go_wp2_with fail
          go_loopw [5, 10] (fun iv pv wx => ∃ (k : Nat) (P : List Bs), k ≤ all.length ∧ iv = .int .i64 k ∧ Hid (PI all w2 vl (i + 1) k pv P wx)) (fun iv _ _ => all.length - (intOf iv).toNat)
          case atStart => exact ⟨i + 1, [vl], by omega, by go_num, Lib.hid ⟨own_one w2 vl, (Below.refl _ _).alloc (Nat.le_refl _) _, by simp, rfl, by simp; omega, fun y hy => by rw [List.mem_singleton.1 hy]; exact hvl, Nat.le_refl _⟩⟩
          case round =>
            obtain ⟨k, P, hkl, rfl, hp⟩ := hrel
            have hPl := hp.out.len
            have hPg := hp.out.ge
            obtain ⟨g, cap, e9, hcap, hgl, hcg⟩ := OwnS.some_of hp.out.own (by omega)
            subst e9
            replace hcg := Lib.hid hcg
            by_cases hk2 : k < all.length
            · obtain ⟨x2, hx2⟩ : ∃ x2, all[k]? = some x2 := ⟨_, List.getElem?_eq_getElem hk2⟩
              have hx2l := Heach.out x2 (List.mem_of_getElem? hx2)
              have hdr2 : all.drop k = x2 :: all.drop (k + 1) := by
                rw [List.drop_eq_getElem_cons hk2]; congr 1; exact (List.getElem?_eq_some_iff.1 hx2).2
              have q2 : wr.cell? ⟨w.heap.size, k, none⟩ = some (strV x2) := by
                obtain ⟨A0, c0, e0, _, h0⟩ := hr2.out.rd.below hp.out.bel hr2.out.bel.size
                injection e0 with e0 _ e0'
                subst e0
                obtain ⟨b, off, e1, _, h1⟩ := h0 (by omega)
                injection e1 with e1
                injection e1 with e1 e2
                subst e1 e2
                have := h1 k x2 hx2
                rwa [Nat.zero_add] at this
              have Hd2 := Lib.hid hdr2
              clear hx2 hdr2
              cases hct2 : isCont x2
              · have Hct2 := Lib.hid hct2
                clear hct2
                have htw : (all.drop k).takeWhile isCont = [] := by rw [Hd2.out, List.takeWhile_cons, Hct2.out]; rfl
                have hdw : (all.drop k).dropWhile isCont = all.drop k := by rw [Hd2.out, List.dropWhile_cons, Hct2.out]; rfl
                have hP : P = vl :: (all.drop (i + 1)).takeWhile isCont := by have := hp.out.num; rwa [htw, List.append_nil] at this
                have hnum : Hid ((F ++ [(nm, Lib.trimS (Lib.join P []) [32, 9])]) ++ fieldsP (all.drop k) = fieldsP all) := Lib.hid (by
                  have h1 := hr2.out.num
                  rw [Hd.out, fieldsP_take (by rw [show Lib.cut x [58] = (nm, vl, true) from Hcut.out]) Hct.out] at h1
                  rw [show Lib.cut x [58] = (nm, vl, true) from Hcut.out] at h1
                  simp only at h1
                  rw [← hP, ← hp.out.rest, hdw] at h1
                  rw [List.append_assoc]
                  exact h1)
                have hjl : (Lib.join P []).length ≤ 1000002000000 := by
                  rw [join_flat]
                  have := flat_len 1000000 P hp.out.each
                  have h2 : P.length * 1000000 ≤ 1000002 * 1000000 := Nat.mul_le_mul_right _ (by omega)
                  omega
                clear htw hdw hP
                go_wp2_with fail
                refine (cont_any ⟨x2.toArray⟩ _).mono ?_
                rw [show isCont (⟨x2.toArray⟩ : ByteArray).data.toList = false from Hct2.out]
                rintro e w3 ⟨rfl, hw3⟩
                subst hw3
                go_wp2_with fail
                refine (join_any P g cap _ hcg.out hgl hcap (by omega) hp.out.each).mono ?_
                rintro e w4 ⟨rfl, hb4⟩
                go_wp2_with fail
                refine (trim_any ⟨(Lib.join P []).toArray⟩ _ (by rw [size_mk]; omega)).mono ?_
                rintro e w5 ⟨rfl, hb5⟩
                have hb25 : Below w2.heap.size w2 w5 := (hp.out.bel.trans (hb4.mono hp.out.bel.size)).trans (hb5.mono (Nat.le_trans hp.out.bel.size hb4.size))
                have hF5 := Lib.hid (hr2.out.own.below hb25)
                have hbel5 : Below w'.heap.size w' w5 := hr2.out.bel.trans (hb25.mono hr2.out.bel.size)
                have hz5 := hbel5.size
                clear hb4 hb5
                go_wp2_with (at_builtin; refine wpList_append_lies _ rfl _ _ 96 rfl w'.heap.size 99 i0 (.agg #[.string ⟨#[]⟩, .string ⟨#[]⟩]) 2 32 Tryz.underlying96 hi hz0 hz1 hz2 rfl (by decide) _ _ _ rfl (hF5.out.alloc _) ⟨w5.heap.size, 0, none⟩ 1 1 [strV nm, strV (Lib.trimS (Lib.join P []) [32, 9])] rfl rfl (World.news_of_block (heap_alloc_new _ _)) (two_cells _ _) (by decide) (by unfold maxLen; omega) (by omega) (by simp; omega) (w5.heap.size + 1) (by simp) ?_; intro g2 cap2 w6 hown hgrow hat hlt1)
                have hb6 := push_row hF5.out hgrow hbel5 hz5
                have hrd6 : RdS w6 w'.heap.size (.slice (some ⟨w.heap.size, 0, none⟩) all.length all.length) all := hR1.out.below hb6 (Nat.le_refl _)
                have hfin : Hid (FI all (.slice (some ⟨w.heap.size, 0, none⟩) all.length all.length) w w' k (.slice (some ⟨g2, 0, none⟩) (F.length + 1) cap2) (F ++ [(nm, Lib.trimS (Lib.join P []) [32, 9])]) w6) := Lib.hid ⟨OwnF.of hown, hrd6, hb6, hnum.out, by rw [List.length_append]; simp; omega⟩
                clear hown hgrow hb6 hrd6
                go_roundw
                case rel => exact ⟨k, _, by omega, rfl, hfin⟩
                case measure => simp [intOf]; omega
              · have Hct2 := Lib.hid hct2
                clear hct2
                go_wp2_with fail
                refine (cont_any ⟨x2.toArray⟩ _).mono ?_
                rw [show isCont (⟨x2.toArray⟩ : ByteArray).data.toList = true from Hct2.out]
                rintro e w3 ⟨rfl, hw3⟩
                subst hw3
                go_wp2_with (at_builtin; refine wpList_append_lies _ rfl _ _ 22 rfl w2.heap.size 9 j0 (.string ⟨#[]⟩) 1 16 Tryz.underlying22 hj hjz0 hjz1 hjz2 rfl (by decide) _ _ _ rfl (hp.out.own.row.alloc _) ⟨wr.heap.size, 0, none⟩ 1 1 [strV x2] rfl rfl (cell_one_new _ _ _) (one_cell_str _) (by decide) (by unfold maxLen; omega) (by omega) (by have := hp.out.bel.size; simp; omega) (wr.heap.size + 1) (by simp) ?_; intro g2 cap2 w6 hown hgrow hat hlt1)
                have hfin : Hid (PI all w2 vl (i + 1) (k + 1) (.slice (some ⟨g2, 0, none⟩) (P.length + 1) cap2) (P ++ [x2]) w6) := Lib.hid ⟨OwnS.of hown, push_row hp.out.own hgrow hp.out.bel hp.out.bel.size, by
                    have := hp.out.num
                    rw [Hd2.out, List.takeWhile_cons, Hct2.out] at this
                    rw [List.append_assoc]; exact this, by
                    have := hp.out.rest
                    rw [Hd2.out, List.dropWhile_cons, Hct2.out] at this
                    exact this, by rw [List.length_append]; simp; omega, fun y hy => by
                    rcases List.mem_append.1 hy with h | h
                    · exact hp.out.each y h
                    · rw [List.mem_singleton.1 h]; omega, by omega⟩
                clear hown hgrow
                go_roundw
                case rel => exact ⟨k + 1, _, by omega, by go_num, hfin⟩
                case measure => simp [intOf]; omega
            · have htw : (all.drop k).takeWhile isCont = [] := by rw [List.drop_eq_nil_of_le (by omega)]; rfl
              have hdw : (all.drop k).dropWhile isCont = all.drop k := by rw [List.drop_eq_nil_of_le (by omega)]; rfl
              have hP : P = vl :: (all.drop (i + 1)).takeWhile isCont := by have := hp.out.num; rwa [htw, List.append_nil] at this
              have hnum : Hid ((F ++ [(nm, Lib.trimS (Lib.join P []) [32, 9])]) ++ fieldsP (all.drop k) = fieldsP all) := Lib.hid (by
                have h1 := hr2.out.num
                rw [Hd.out, fieldsP_take (by rw [show Lib.cut x [58] = (nm, vl, true) from Hcut.out]) Hct.out] at h1
                rw [show Lib.cut x [58] = (nm, vl, true) from Hcut.out] at h1
                simp only at h1
                rw [← hP, ← hp.out.rest, hdw] at h1
                rw [List.append_assoc]
                exact h1)
              have hjl : (Lib.join P []).length ≤ 1000002000000 := by
                rw [join_flat]
                have := flat_len 1000000 P hp.out.each
                have h2 : P.length * 1000000 ≤ 1000002 * 1000000 := Nat.mul_le_mul_right _ (by omega)
                omega
              clear htw hdw hP
              go_wp2_with fail
              refine (join_any P g cap _ hcg.out hgl hcap (by omega) hp.out.each).mono ?_
              rintro e w4 ⟨rfl, hb4⟩
              go_wp2_with fail
              refine (trim_any ⟨(Lib.join P []).toArray⟩ _ (by rw [size_mk]; omega)).mono ?_
              rintro e w5 ⟨rfl, hb5⟩
              have hb25 : Below w2.heap.size w2 w5 := (hp.out.bel.trans (hb4.mono hp.out.bel.size)).trans (hb5.mono (Nat.le_trans hp.out.bel.size hb4.size))
              have hF5 := Lib.hid (hr2.out.own.below hb25)
              have hbel5 : Below w'.heap.size w' w5 := hr2.out.bel.trans (hb25.mono hr2.out.bel.size)
              have hz5 := hbel5.size
              clear hb4 hb5
              go_wp2_with (at_builtin; refine wpList_append_lies _ rfl _ _ 96 rfl w'.heap.size 99 i0 (.agg #[.string ⟨#[]⟩, .string ⟨#[]⟩]) 2 32 Tryz.underlying96 hi hz0 hz1 hz2 rfl (by decide) _ _ _ rfl (hF5.out.alloc _) ⟨w5.heap.size, 0, none⟩ 1 1 [strV nm, strV (Lib.trimS (Lib.join P []) [32, 9])] rfl rfl (World.news_of_block (heap_alloc_new _ _)) (two_cells _ _) (by decide) (by unfold maxLen; omega) (by omega) (by simp; omega) (w5.heap.size + 1) (by simp) ?_; intro g2 cap2 w6 hown hgrow hat hlt1)
              have hb6 := push_row hF5.out hgrow hbel5 hz5
              have hrd6 : RdS w6 w'.heap.size (.slice (some ⟨w.heap.size, 0, none⟩) all.length all.length) all := hR1.out.below hb6 (Nat.le_refl _)
              have hfin : Hid (FI all (.slice (some ⟨w.heap.size, 0, none⟩) all.length all.length) w w' k (.slice (some ⟨g2, 0, none⟩) (F.length + 1) cap2) (F ++ [(nm, Lib.trimS (Lib.join P []) [32, 9])]) w6) := Lib.hid ⟨OwnF.of hown, hrd6, hb6, hnum.out, by rw [List.length_append]; simp; omega⟩
              clear hown hgrow hb6 hrd6
              go_roundw
              case rel => exact ⟨k, _, by omega, rfl, hfin⟩
              case measure => simp [intOf]; omega
        · have Hct := Lib.hid (show isCont (⟨x.toArray⟩ : ByteArray).data.toList = true from hct)
          clear hct
          have hn : Hid (FI all (.slice (some ⟨w.heap.size, 0, none⟩) all.length all.length) w w' (i + 1) u3 F w2) := Lib.hid ⟨hr2.out.own, hr2.out.rd, hr2.out.bel, by
            have := hr2.out.num
            rw [Hd.out, fieldsP_skip (.inr Hct.out)] at this; exact this, by omega⟩
          go_wp2_with fail
          refine (cont_any ⟨x.toArray⟩ _).mono ?_
          rw [Hct.out]
          rintro e w3 ⟨rfl, hw3⟩
          subst hw3
          go_wp2
          go_roundw
          case rel => exact ⟨i + 1, F, by omega, by go_num, hn⟩
          case measure => simp [intOf]; omega
    · have hi2 : i = all.length := by omega
      have hnum := hr.out.num
      rw [hi2, List.drop_length, fieldsP_nil, List.append_nil] at hnum
      have Hn := Lib.hid hnum
      obtain ⟨A2, c2, e2, _⟩ := hr.out.own.form
      clear hnum hi2
      go_wp2
      go_ret
      refine ⟨_, rfl, ?_, HB1.out.trans (hr.out.bel.mono HB1.out.size)⟩
      rw [← Hn.out]
      exact hr.out.own.less (by omega)
end Go.Proofs.YtkgngahmpafdhaaGreatDoor.PT

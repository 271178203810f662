/- The law SpanTurns: it returns true. Conditions: that the slice reads as ranges, that the cell of the library's MaxLen holds some int, and its table of powers lies as its text lays it. -/
import Derived.Test.YtdcdflhglcpleaaDoorSpanParses
namespace Go.Proofs.YtdcdflhglcpleaaDoor.SP
open Go.RowKit Mailsack MM BU

def swapR (r : Int × Int) : Int × Int := (r.2, r.1)
theorem hasR_swap (n g : Int) (r : Int × Int) : hasR n g (swapR r) = hasR n g r := by
  obtain ⟨x, y⟩ := r
  unfold hasR swapR
  rw [decide_eq_decide]
  show min (endG g y) (endG g x) ≤ n ∧ n ≤ max (endG g y) (endG g x) ↔ min (endG g x) (endG g y) ≤ n ∧ n ≤ max (endG g x) (endG g y)
  omega
theorem hasS_turn (L : List (Int × Int)) (n g : Int) : hasS (L.reverse.map swapR) n g = hasS L n g := by
  unfold hasS
  rw [List.any_map, List.any_reverse]
  congr 1
  funext r
  exact hasR_swap n g r
theorem hasS_more (L : List (Int × Int)) (r : Int × Int) (n g : Int) (h : hasS L n g = true) : hasS (L ++ [r]) n g = true := by
  unfold hasS at *
  rw [List.any_append, h]; rfl
theorem hasS_self (n : Int) : hasS [(n, n)] n n = true := by
  unfold hasS hasR endG
  simp
theorem rev_at {α : Type} {L : List α} {k : Nat} {r : α} (hk : k < L.length) (h : L[L.length - 1 - k]? = some r) : L.reverse[k]? = some r := by
  rw [List.getElem?_reverse hk]; exact h
theorem turn_snoc {L : List (Int × Int)} {k : Nat} {r : Int × Int} (hk : k < L.length) (h : L[L.length - 1 - k]? = some r) : (L.reverse.map swapR).take (k + 1) = (L.reverse.map swapR).take k ++ [swapR r] :=
  take_snoc' (by rw [List.getElem?_map, rev_at hk h]; rfl)

theorem wpList_append_g {P : Program} {w : World} {ops : Array Oper} {rest : List Oper} {o : Oper} {a : Act} {Q : Exit → Act → World → Prop} (hw : Region.wanted o (yielded ops a.tmps) = true) (s x : Operand) (t : TypeId)
    (ho : o.op = .call { callee := .builtin .append, args := #[s, x], argTypes := #[t, t] })
    (base : Nat) (e : TypeId) (i : TypeInfo) (z : Value) (size bytes : Nat) (ht : P.underlying t = some (.slice e)) (hi : P.info? e = some i) (hz : i.zero = some z)
    (hsize : i.size = size) (hby : i.bytes = bytes) (hzs : z.cells.size = size) (hsz : 0 < size)
    (v : Value) (n : Nat) (xs : List Value) (hs : a.eval s = v) (hown : w.ownsRow base e size v n xs)
    (ad : Addr) (m c : Nat) (news : List Value) (hx : a.eval x = .slice (some ad) m c) (hl : news.length = m * size) (hnews : ∀ j u, news[j]? = some u → w.cell? (ad.add j) = some u) (h1 : ∀ u ∈ news, u.oneCell' = true)
    (hm : 0 < m) (h63 : n + m ≤ maxLen) (hbytes : (n + m) * bytes ≤ 140737488355328) (hbase : base ≤ w.heap.size) (H : Nat) (hH : w.heap.size = H)
    (h : ∀ g cap w', w'.ownsRow base e size (.slice (some ⟨g, 0, none⟩) (n + m) cap) (n + m) (xs ++ news) → w.grownBy w' v.ownBlock → (v.ownBlock = some g ∨ g = H) → g < w'.heap.size → wpList P ops Q rest (a.put o.dst (.slice (some ⟨g, 0, none⟩) (n + m) cap)) w') : wpList P ops Q (o :: rest) a w :=
  wpList_step fun _ hK => by
    rw [if_pos hw]
    exact wp_append_lies w s x t ho base e i z size bytes ht hi hz hsize hby hzs hsz v n xs hs hown ad m c news hx hl hnews h1 hm h63 hbytes hbase H hH fun g cap w' h2 h3 h4 h5 => hK _ _ (h g cap w' h2 h3 h4 h5)
theorem rdr_one (w : World) (x y : Int) (t : TypeId) : RdR (w.alloc (.cells #[.int .i64 x, .int .i64 y] t)) (w.alloc (.cells #[.int .i64 x, .int .i64 y] t)).heap.size (.slice (some ⟨w.heap.size, 0, none⟩) 1 1) [(x, y)] := by
  refine ⟨_, _, rfl, Nat.le_refl _, fun _ => ⟨w.heap.size, 0, rfl, by simp, fun j r hr => ?_⟩⟩
  have hj : j = 0 := by
    have := (List.getElem?_eq_some_iff.1 hr).1
    simpa using this
  subst hj
  injection hr with hr
  subst hr
  exact ⟨cell_blk (blk_new w _) 0, cell_blk (blk_new w _) 1⟩

set_option maxHeartbeats 4000000 in
set_option maxRecDepth 100000 in
theorem turns_any (v : Value) (L : List (Int × Int)) (n g p q : Int) (m : Int) (w : World) (hv : RdR w w.heap.size v L) (hlen : L.length ≤ 9223372036854775807) (htab : Tab w) (hm : w.cell? ⟨0, 0, none⟩ = some (.int .i64 m)) :
    Calls Tryd.prog 4 #[v, .int .i64 n, .int .i64 g, .agg #[.int .i64 p, .int .i64 q]] w fun e w' => e = .returned (.bool true) ∧ Below w.heap.size w w' := by
  have HL : Hid (Lib2 m w) := Lib.hid ⟨hm, htab⟩
  clear htab hm
  obtain ⟨i0, hi, hz0, hz1, hz2⟩ := info_parts infoR2
  have HV := Lib.hid hv
  obtain ⟨A, c, rfl, hc, hcell⟩ := hv
  by_cases hbig : 100 < L.length
  · clear hcell
    have HB1 := Lib.hid ((Below.refl w.heap.size w).alloc (Nat.le_refl _) (.cells #[.int .i64 p, .int .i64 q] 34))
    go_enter Tryd.func4, Tryd.ntmps4
    go_wp2_with fail
    refine (awake_at HL.out HB1.out).mono ?_
    rintro e w2 ⟨rfl, hb2⟩
    go_wp2
    go_ret
    exact ⟨rfl, hb2⟩
  · have Hcell := Lib.hid hcell
    clear hcell
    have HB1 := Lib.hid ((Below.refl w.heap.size w).alloc (Nat.le_refl _) (.cells #[.int .i64 p, .int .i64 q] 34))
    have Hpk := Lib.hid (blk_new w (.cells #[.int .i64 p, .int .i64 q] 34))
    have hlr : (L.reverse.map swapR).length = L.length := by simp
    go_enter Tryd.func4, Tryd.ntmps4
    go_wp2
    go_loopw [9, 19] (fun o i wr => ∃ k : Nat, k ≤ L.length ∧ i = .int .i64 k ∧ Hid (Below w.heap.size w wr) ∧ w.heap.size + 1 ≤ wr.heap.size ∧ Hid (wr.heap[w.heap.size]? = some (.cells #[.int .i64 p, .int .i64 q] 34 (0, 0))) ∧ Hid (OwnE 34 wr (w.heap.size + 1) o ((L.reverse.map swapR).take k))) (fun _ i _ => L.length - (intOf i).toNat)
    case atStart => exact ⟨0, Nat.zero_le _, rfl, HB1, by simp, Hpk, Lib.hid (OwnE.nil _ _ _)⟩
    case round =>
      obtain ⟨k, hk, rfl, hb, hwz, hpk, ho⟩ := hrel
      clear HB1 Hpk
      by_cases hlt : k < L.length
      · obtain ⟨b, off, rfl, hbB, hcs⟩ := Hcell.out (by omega)
        obtain ⟨r, hr⟩ : ∃ r, L[L.length - 1 - k]? = some r := ⟨_, List.getElem?_eq_getElem (by omega)⟩
        have Hsn := Lib.hid (turn_snoc hlt hr)
        obtain ⟨x, y⟩ := r
        obtain ⟨c1, c2⟩ := hcs _ _ hr
        obtain ⟨j, hj⟩ : ∃ j, j = L.length - 1 - k := ⟨_, rfl⟩
        rw [← hj] at c1 c2
        have hji : (L.length : Int) - 1 - (k : Int) = (j : Int) := by omega
        have d1 := (hb.out.cell (p := ⟨b, off + j * 2, none⟩) hbB).trans c1
        have d2 := (hb.out.cell (p := ⟨b, off + j * 2 + 1, none⟩) hbB).trans c2
        have hjl : j < L.length := by omega
        obtain ⟨A', c', rfl, hc'⟩ := ho.out.form
        have hlk : ((L.reverse.map swapR).take k).length = k := by rw [List.length_take, hlr]; omega
        have Ho := Lib.hid (show wr.ownsRow (w.heap.size + 1) 34 2 (.slice A' k c') k (rngCells ((L.reverse.map swapR).take k)) by have := ho.out; unfold OwnE at this; rw [hlk] at this; exact this)
        have Hji := Lib.hid hji
        rw [hlk]
        clear c1 c2 hcs hr ho hc' Hcell hlk hj hlr
        go_wp2_with (at_builtin; refine wpList_append_lies _ rfl _ _ 23 rfl (w.heap.size + 1) 34 i0 (.agg #[.int .i64 0, .int .i64 0]) 2 16 Tryd.underlying23 hi hz0 hz1 hz2 rfl (by decide) _ _ _ rfl (World.ownsRow.alloc (World.ownsRow.alloc Ho.out _) _) ⟨wr.heap.size + 1, 0, none⟩ 1 1 [.int .i64 y, .int .i64 x] rfl rfl (World.news_of_block (two_new _ _ _)) (two_int _ _) (by decide) (by unfold maxLen; omega) (by omega) (by simp; omega) (wr.heap.size + 2) (by simp) ?_; intro g2 cap w2 hown2 hgrow hat hlt2; have Hown2 := Lib.hid hown2; have Hgrow := Lib.hid hgrow; clear hown2 hgrow)
        have hne : some w.heap.size ≠ (Value.slice A' k c').ownBlock := fun e => by have := (World.ownsRow.lt Ho.out _ e.symm).1; omega
        refine ⟨⟨k + 1, by omega, by go_num, Lib.hid ?_, ?_, Lib.hid ?_, Lib.hid ?_⟩, by simp [intOf]; omega⟩
        · exact ((hb.out.alloc (by omega) _).alloc (by simp; omega) _).grown Hgrow.out (by simp; omega) (fun k hk => by have := (World.ownsRow.lt Ho.out k hk).1; omega)
        · have := Hgrow.out.size; simp at this; omega
        · exact blk_grown (blk_alloc (blk_alloc hpk.out _) _) Hgrow.out hne
        · rw [Hsn.out]
          refine OwnE.push ?_
          rw [List.length_take, List.length_map, List.length_reverse, Nat.min_eq_left hk]
          exact Hown2.out
      · obtain rfl : k = L.length := by omega
        rw [List.take_of_length_le (by rw [hlr]; exact Nat.le_refl _)] at ho
        have Hturn := Lib.hid (hasS_turn L n g)
        have Hmore := Lib.hid (hasS_more (L.reverse.map swapR) (p, q) n g)
        generalize L.reverse.map swapR = R at *
        obtain ⟨A', c', rfl, _⟩ := ho.out.form
        have hv9 := Lib.hid ((HV.out.below hb.out (Nat.le_refl _)).more hb.out.size)
        have hlb : L.length ≤ 1000000 := by omega
        have hrb : R.length ≤ 100 := by omega
        clear hlr
        go_wp2_with fail
        refine (has_any _ L n g _ hv9.out hlb).mono ?_
        rintro e w2 ⟨rfl, hb2⟩
        have HB2 := Lib.hid (hb.out.trans (hb2.mono hb.out.size))
        have HR2 := Lib.hid (ho.out.below hb2)
        have Hpk2 := Lib.hid (blk_below hpk.out hb2 (by omega))
        have hz2' := Lib.hid (Nat.le_trans hwz hb2.size)
        clear hb2
        go_wp2_with fail
        refine (has_any _ R n g _ HR2.out.rd (by omega)).mono ?_
        rw [Hturn.out]
        rintro e w3 ⟨rfl, hb3⟩
        have HB3 := Lib.hid (HB2.out.trans (hb3.mono HB2.out.size))
        have HR3 := Lib.hid (HR2.out.below hb3)
        have Hpk3 := Lib.hid (blk_below Hpk2.out hb3 (by have := hz2'.out; omega))
        have hz3 := Lib.hid (Nat.le_trans hz2'.out hb3.size)
        have k0 : w3.cell? ⟨w.heap.size, 0, none⟩ = some (.int .i64 p) := cell_blk Hpk3.out 0
        have k1 : w3.cell? ⟨w.heap.size, 1, none⟩ = some (.int .i64 q) := cell_blk Hpk3.out 1
        clear hb3
        cases hh : hasS L n g with
        | false =>
          have HBn := Lib.hid (HB3.out.alloc HB3.out.size (.cells #[.int .i64 n, .int .i64 n] 34))
          clear hh
          go_wp2_with fail
          refine (has_any _ [(n, n)] n n _ (rdr_one w3 n n 34) (by simp)).mono ?_
          rw [hasS_self n]
          rintro e w4 ⟨rfl, hb4⟩
          have HB4 := Lib.hid (HBn.out.trans (hb4.mono HBn.out.size))
          clear hb4
          go_wp2_with fail
          refine (awake_at HL.out HB4.out).mono ?_
          rintro e w5 ⟨rfl, hb5⟩
          go_wp2
          go_ret
          exact ⟨rfl, hb5⟩
        | true =>
          have HM := Lib.hid (Hmore.out (Hturn.out.trans hh))
          have hz3' := hz3.out
          clear hh
          go_wp2_with (at_builtin; refine wpList_append_g rfl _ _ 23 rfl (w.heap.size + 1) 34 i0 (.agg #[.int .i64 0, .int .i64 0]) 2 16 Tryd.underlying23 hi hz0 hz1 hz2 rfl (by decide) _ _ _ rfl (World.ownsRow.alloc HR3.out _) ⟨w3.heap.size, 0, none⟩ 1 1 [.int .i64 p, .int .i64 q] rfl rfl (World.news_of_block (blk_new _ _)) (two_int _ _) (by decide) (by unfold maxLen; omega) (by omega) (by simp; omega) (w3.heap.size + 1) (by simp) ?_; intro g2 cap w4 hown2 hgrow hat hlt2; have Hown4 := Lib.hid (OwnE.push (r := (p, q)) hown2); have HB4 := Lib.hid ((HB3.out.alloc HB3.out.size _).grown hgrow (by have := HB3.out.size; simp; omega) (fun k hk => by have := (World.ownsRow.lt HR3.out k hk).1; omega)); clear hown2 hgrow)
          go_wp2_with fail
          refine (has_any _ (R ++ [(p, q)]) n g _ Hown4.out.rd (by rw [List.length_append]; simp; omega)).mono ?_
          rw [HM.out]
          rintro e w5 ⟨rfl, hb5⟩
          have HB5 := Lib.hid (HB4.out.trans (hb5.mono HB4.out.size))
          have HBn := Lib.hid (HB5.out.alloc HB5.out.size (.cells #[.int .i64 n, .int .i64 n] 34))
          clear hb5
          go_wp2_with fail
          refine (has_any _ [(n, n)] n n _ (rdr_one w5 n n 34) (by simp)).mono ?_
          rw [hasS_self n]
          rintro e w6 ⟨rfl, hb6⟩
          have HB6 := Lib.hid (HBn.out.trans (hb6.mono HBn.out.size))
          clear hb6
          go_wp2_with fail
          refine (awake_at HL.out HB6.out).mono ?_
          rintro e w7 ⟨rfl, hb7⟩
          go_wp2
          go_ret
          exact ⟨rfl, hb7⟩
end Go.Proofs.YtdcdflhglcpleaaDoor.SP

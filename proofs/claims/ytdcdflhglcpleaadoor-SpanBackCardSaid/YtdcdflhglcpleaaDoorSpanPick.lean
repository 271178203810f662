/- What span.Pick returns, for any ranges and numbers. Conditions: that the slices read as these, and lengths. -/
import Derived.Test.YtdcdflhglcpleaaDoorSpanRef
namespace Go.Proofs.YtdcdflhglcpleaaDoor.SP
open Go.RowKit Mailsack MM

theorem infoI : (Tryd.prog.info? 3).map (fun i => (i.zero, i.size, i.bytes)) = some (some (.int .i64 0), 1, 8) := by kernel_rfl
abbrev intV (n : Int) : Value := .int .i64 n
/-- the slice value v owns a row of just these numbers -/
def OwnI (w : World) (B : Nat) (v : Value) (l : List Int) : Prop := w.ownsRow B 3 1 v l.length (l.map intV)
theorem OwnI.nil (w : World) (B : Nat) : OwnI w B (.slice none 0 0) [] := World.ownsRow_nil w B _ _
theorem OwnI.form {w : World} {B : Nat} {v : Value} {L : List Int} (h : OwnI w B v L) : ∃ A c, v = .slice A L.length c ∧ L.length ≤ c := by
  rcases h.2 with ⟨h1, h2⟩ | ⟨g, cap, cur, h1, _, _, h2, _⟩
  · exact ⟨none, 0, by rw [h1, h2], by omega⟩
  · exact ⟨_, _, h1, h2⟩
theorem OwnI.below {w w' : World} {B : Nat} {v : Value} {L : List Int} (h : OwnI w B v L) (hb : Below w.heap.size w w') : OwnI w' B v L :=
  World.ownsRow.kept h (grown_of_below hb none) (by cases v.ownBlock <;> simp)
theorem OwnI.push {w : World} {B : Nat} {v : Value} {L : List Int} {x : Int} (h : w.ownsRow B 3 1 v (L.length + 1) (L.map intV ++ [intV x])) : OwnI w B v (L ++ [x]) := by
  unfold OwnI; rw [List.length_append, List.map_append]; exact h
/-- the slice value v reads as these numbers, in a block below B -/
def RdI (w : World) (B : Nat) (v : Value) (L : List Int) : Prop :=
  ∃ A c, v = .slice A L.length c ∧ L.length ≤ c ∧ (0 < L.length → ∃ b off, A = some ⟨b, off, none⟩ ∧ b < B ∧ ∀ j r, L[j]? = some r → w.cell? ⟨b, off + j, none⟩ = some (intV r))
theorem RdI.keep {w w' : World} {B : Nat} {v : Value} {L : List Int} (h : RdI w B v L) (hk : ∀ p : Addr, p.block < B → w'.cell? p = w.cell? p) : RdI w' B v L := by
  obtain ⟨A, c, h1, h2, h3⟩ := h
  refine ⟨A, c, h1, h2, fun hn => ?_⟩
  obtain ⟨b, off, h4, h5, h6⟩ := h3 hn
  exact ⟨b, off, h4, h5, fun j x hx => (hk _ h5).trans (h6 j x hx)⟩
theorem RdI.below {w w' : World} {B B' : Nat} {v : Value} {L : List Int} (h : RdI w B v L) (hb : Below B' w w') (hB : B ≤ B') : RdI w' B v L := h.keep fun _ hp => hb.cell (by omega)
theorem RdI.more {w : World} {B B' : Nat} {v : Value} {L : List Int} (h : RdI w B v L) (hB : B ≤ B') : RdI w B' v L := by
  obtain ⟨A, c, h1, h2, h3⟩ := h
  refine ⟨A, c, h1, h2, fun hn => ?_⟩
  obtain ⟨b, off, h4, h5, h6⟩ := h3 hn
  exact ⟨b, off, h4, by omega, h6⟩
theorem OwnI.rd {w : World} {B : Nat} {v : Value} {L : List Int} (h : OwnI w B v L) : RdI w w.heap.size v L := by
  rcases h.2 with ⟨h1, h2⟩ | ⟨g, cap, cur, h1, hb, hg, hnc, _, _, htake⟩
  · exact ⟨none, 0, by rw [h1, h2], by omega, fun h => by omega⟩
  · refine ⟨_, cap, h1, hnc, fun _ => ⟨g, 0, rfl, blk_lt hg, fun j x hx => ?_⟩⟩
    have := World.ownsRow.cells h (g := g) (by rw [h1]; rfl) j (intV x) (by simp [hx])
    rw [Nat.zero_add]
    have hadd : (⟨g, 0, none⟩ : Addr).add j = ⟨g, j, none⟩ := by unfold Addr.add; split <;> simp_all
    rw [hadd] at this
    exact this
theorem one_int (a : Int) : ∀ u ∈ [intV a], u.oneCell' = true := by
  intro u hu; rw [List.mem_singleton.1 hu]; rfl
theorem last_get {L : List Int} (h : 0 < L.length) : L[L.length - 1]? = some (lastI L) := by
  unfold lastI
  rw [List.getLastD_eq_getLast?, List.getLast?_eq_getElem?, List.getElem?_eq_getElem (by omega)]
  rfl

set_option maxHeartbeats 2000000 in
theorem pick_any (v u : Value) (L : List (Int × Int)) (ns : List Int) (w : World) (hv : RdR w w.heap.size v L) (hu : RdI w w.heap.size u ns) (hlen : L.length ≤ 1000000) (hns : ns.length ≤ 1000000) :
    Calls Tryd.prog 14 #[v, u] w fun e w' => ∃ r, e = .returned r ∧ OwnI w' w.heap.size r (pickS L ns) ∧ Below w.heap.size w w' := by
  obtain ⟨i0, hi, hz0, hz1, hz2⟩ := info_parts infoI
  have hB := Lib.hid (show ∀ w1 n, Below w.heap.size w w1 → Calls Tryd.prog 12 #[v, .int .i64 n, .int .i64 (lastI ns)] w1 fun e w' => e = .returned (.bool (hasS L n (lastI ns))) ∧ Below w.heap.size w w' ∧ Below w1.heap.size w1 w' from
    fun w1 n h1 => (has_any v L n (lastI ns) w1 ((hv.below h1 (Nat.le_refl _)).more h1.size) hlen).mono fun e w' h => ⟨h.1, h1.trans (h.2.mono h1.size), h.2⟩)
  obtain ⟨A0, c0, rfl, _, _⟩ := hv
  obtain ⟨A, c, rfl, hc, hcell⟩ := hu
  have Hcell := Lib.hid hcell
  clear hcell
  by_cases h0 : ns.length = 0
  · obtain rfl : ns = [] := List.length_eq_zero_iff.1 h0
    go_enter Tryd.func14, Tryd.ntmps14
    go_wp2
    go_ret
    exact ⟨_, rfl, OwnI.nil _ _, Below.refl _ _⟩
  have hpos : 0 < ns.length := by omega
  have h0b : ((ns.length : Int) == 0) = false := by rw [beq_eq_false_iff_ne]; omega
  clear h0
  obtain ⟨b, off, rfl, hbB, hcs⟩ := Hcell.out hpos
  clear Hcell
  have hlast := hcs _ _ (last_get hpos)
  rw [show intV (lastI ns) = .int .i64 (lastI ns) from rfl] at hlast
  have Hcs := Lib.hid hcs
  clear hcs
  generalize hg : lastI ns = g at *
  have Hg := Lib.hid hg
  clear hg
  go_enter Tryd.func14, Tryd.ntmps14
  go_wp2
  go_loopw [6, 20] (fun o i wr => ∃ k : Nat, k ≤ ns.length ∧ i = .int .i64 k ∧ Hid (Below w.heap.size w wr) ∧ Hid (OwnI wr w.heap.size o ((ns.take k).filter fun n => hasS L n g))) (fun _ i _ => ns.length - (intOf i).toNat)
  case atStart => exact ⟨0, Nat.zero_le _, rfl, Lib.hid (Below.refl _ _), Lib.hid (OwnI.nil _ _)⟩
  case round =>
    obtain ⟨k, hk, rfl, hb, ho⟩ := hrel
    by_cases hlt : k < ns.length
    · obtain ⟨x, hr⟩ : ∃ r, ns[k]? = some r := ⟨_, List.getElem?_eq_getElem hlt⟩
      have d1 : wr.cell? ⟨b, off + k, none⟩ = some (.int .i64 x) := (hb.out.cell (p := ⟨b, off + k, none⟩) hbB).trans (Hcs.out k _ hr)
      have hfl : ((ns.take k).filter fun n => hasS L n g).length ≤ k := Nat.le_trans (List.length_filter_le _ _) (by rw [List.length_take]; omega)
      have Hs : Hid ((ns.take (k + 1)).filter (fun n => hasS L n g) = (ns.take k).filter (fun n => hasS L n g) ++ if hasS L x g then [x] else []) := Lib.hid (by
        rw [take_snoc' hr, List.filter_append]; congr 1; simp [List.filter_cons])
      obtain ⟨A', c', rfl, _⟩ := ho.out.form
      clear hr hlast
      generalize (ns.take k).filter (fun n => hasS L n g) = F at *
      go_wp2_with fail
      refine (hB.out _ x hb.out).mono ?_
      rintro e w1 ⟨rfl, hb1, hb2⟩
      have Hb1 := Lib.hid hb1
      have hsz := hb1.size
      have Ho1 : Hid (OwnI w1 w.heap.size (.slice A' F.length c') F) := Lib.hid (ho.out.below hb2)
      clear hb1 hb2
      cases hh : hasS L x g with
      | false =>
        rw [hh] at Hs
        clear hh
        go_wp2
        refine ⟨⟨k + 1, by omega, by go_num, Hb1, Lib.hid ?_⟩, by simp [intOf]; omega⟩
        rw [Hs.out]; simpa using Ho1.out
      | true =>
        rw [hh] at Hs
        clear hh
        go_wp2_with (at_builtin; refine wpList_append_lies _ rfl _ _ 37 rfl w.heap.size 3 i0 (.int .i64 0) 1 8 Tryd.underlying37 hi hz0 hz1 hz2 rfl (by decide) _ _ _ rfl (World.ownsRow.alloc Ho1.out _) ⟨w1.heap.size, 0, none⟩ 1 1 [intV x] rfl rfl (cell_one_new _ _ _) (one_int _) (by decide) (by unfold maxLen; omega) (by omega) (by simp; omega) (w1.heap.size + 1) (by simp) ?_; intro g2 cap w2 hown2 hgrow hat hlt2; have Hown2 := Lib.hid (OwnI.push hown2); have Hb3 := Lib.hid ((Hb1.out.alloc hsz _).grown hgrow (by simp; omega) (fun k hk => (World.ownsRow.lt Ho1.out k hk).1)); clear hown2 hgrow)
        refine ⟨⟨k + 1, by omega, by go_num, Hb3, Lib.hid ?_⟩, by simp [intOf]; omega⟩
        rw [Hs.out]; simpa using Hown2.out
    · obtain rfl : k = ns.length := by omega
      rw [List.take_length] at ho
      go_wp2
      go_ret
      refine ⟨_, rfl, ?_, hb.out⟩
      unfold pickS
      rw [Hg.out]
      exact ho.out
end Go.Proofs.YtdcdflhglcpleaaDoor.SP

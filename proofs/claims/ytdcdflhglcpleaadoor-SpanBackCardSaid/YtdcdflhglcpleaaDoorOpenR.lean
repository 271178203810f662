/- Arguments that are slices of numbers, slices of ranges, or a range, opened. No conditions but those stated. -/
import Derived.Test.YtdcdflhglcpleaaDoorOpenF
import Derived.Test.YtdcdflhglcpleaaDoorSpanPick
import Derived.ChangeSlices
namespace Go.Proofs.YtdcdflhglcpleaaDoor.SP
open Go.ChangeShapes Go.WideShapes Go.ChangeAt Go.RowKit Mailsack MM

/-- the slice value v reads as these numbers of the kind k -/
def RdK (k : IntKind) (w : World) (B : Nat) (v : Value) (L : List Int) : Prop :=
  ∃ A c, v = .slice A L.length c ∧ L.length ≤ c ∧ (0 < L.length → ∃ b off, A = some ⟨b, off, none⟩ ∧ b < B ∧ ∀ j r, L[j]? = some r → w.cell? ⟨b, off + j, none⟩ = some (.int k r))
theorem open_rdk {H : Type} {enc : TypeId × Value → H} {P : Program} {w : World} {base : Nat} {t e : TypeId} {k : IntKind} {v : Value} {d : DataW H} {p : List MemPlace}
    (ht : P.underlying t = some (.slice e)) (he : P.underlying e = some (.int k)) (hc : P.cellsOf e = 1) (hv : Value.okWide P w .any base t v) (h : DataW.Trod enc P w 0 (fun _ => true) true t v d p) :
    ∃ L : List Int, RdK k w w.heap.size v L ∧ (∀ n ∈ L, (Lit.int k n).wf = true) ∧ L.length ≤ 9223372036854775807 := by
  obtain ⟨a0, len, cap, rfl⟩ := okWide_slice ht hv
  obtain ⟨fuel, hf⟩ := h
  have hf' : DataW.trod enc P w 0 (fun _ => true) true fuel t [.slice a0 len cap] = some (d, p) := by simpa [Value.cells] using hf
  rcases open_ints ht he hc hf' with ⟨hcs, _⟩ | ⟨a, len', cap', zs, hcs, _, hl, hm, hz, _, hcell, hws⟩
  · have hcs' : Value.slice a0 len cap = .slice none 0 0 := by simpa using hcs
    rw [hcs']
    exact ⟨[], ⟨none, 0, rfl, Nat.le_refl _, fun h => absurd h (Nat.lt_irrefl _)⟩, by simp, by simp⟩
  · have hcs' : Value.slice a0 len cap = .slice (some a) len' cap' := by simpa using hcs
    rw [hcs']
    unfold maxLen at hm
    have hzz : zs.length = cap' := by simpa using hz
    have hlen : (zs.take len').length = len' := by rw [List.length_take]; omega
    refine ⟨zs.take len', ⟨some a, cap', by rw [hlen], by omega, fun hn => ?_⟩, fun n hn => hws n (List.mem_of_mem_take hn), by omega⟩
    obtain ⟨b, off, spot⟩ := a
    have h0 := hcell 0 (by omega)
    have hspot : spot = none := by simpa [Addr.add] using World.cell?_spot h0
    subst hspot
    refine ⟨b, off, rfl, World.block_lt_of_cell? w _ (by simpa [Addr.add] using h0), fun j x hx => ?_⟩
    rw [List.getElem?_take] at hx
    split at hx
    · have hjs : j < zs.length := (List.getElem?_eq_some_iff.1 hx).1
      have h1 := hcell j hjs
      have hadd : (⟨b, off, none⟩ : Addr).add j = ⟨b, off + j, none⟩ := by unfold Addr.add; split <;> simp_all
      rw [hadd] at h1
      rw [h1, List.getD_eq_getElem?_getD, hx]
      rfl
    · simp at hx
theorem RdK.ints {w : World} {B : Nat} {v : Value} {L : List Int} (h : RdK .i64 w B v L) : RdI w B v L := h

/-- two cells of a range -/
theorem cells_two {w : World} {a : Addr} {cs : List Value} (h : w.cells? 0 a 2 = some cs) : ∃ x y, cs = [x, y] ∧ w.cell? (a.add 0) = some x ∧ w.cell? (a.add 1) = some y := by
  unfold World.cells? at h
  rw [if_pos (Nat.zero_le _)] at h
  rw [show List.range 2 = [0, 1] from rfl] at h
  cases hx : w.cell? (a.add 0) with
  | none => simp [List.mapM_cons, hx] at h
  | some x =>
    cases hy : w.cell? (a.add 1) with
    | none => simp [List.mapM_cons, hx, hy] at h
    | some y =>
      simp [List.mapM_cons, hx, hy] at h
      exact ⟨x, y, h.symm, rfl, rfl⟩
theorem open_rdr {H : Type} {enc : TypeId × Value → H} {w : World} {base : Nat} {v : Value} {d : DataW H} {p : List MemPlace}
    (hv : Value.okWide Tryd.prog w .any base 23 v) (h : DataW.Trod enc Tryd.prog w 0 (fun _ => true) true 23 v d p) :
    ∃ L : List (Int × Int), RdR w w.heap.size v L ∧ L.length ≤ 9223372036854775807 := by
  obtain ⟨a0, len, cap, rfl⟩ := okWide_slice Tryd.underlying23 hv
  obtain ⟨fuel, hf⟩ := h
  have hf' : DataW.trod enc Tryd.prog w 0 (fun _ => true) true fuel 23 [.slice a0 len cap] = some (d, p) := by simpa [Value.cells] using hf
  rcases DataW.trod_slice Tryd.underlying23 hf' with ⟨hcs, _⟩ | ⟨a, len', cap', elems, rest, n, _, hcs, _, _, hl, hm, hlen, hel, _⟩
  · have hcs' : Value.slice a0 len cap = .slice none 0 0 := by simpa using hcs
    rw [hcs']
    exact ⟨[], ⟨none, 0, rfl, Nat.le_refl _, fun h => absurd h (Nat.lt_irrefl _)⟩, by simp⟩
  · have hcs' : Value.slice a0 len cap = .slice (some a) len' cap' := by simpa using hcs
    rw [hcs']
    unfold maxLen at hm
    rw [show Tryd.prog.cellsOf 34 = 2 by kernel_rfl] at hel
    have each : ∀ i, i < len' → ∃ x y : Int, w.cell? ((a.add (i * 2)).add 0) = some (.int .i64 x) ∧ w.cell? ((a.add (i * 2)).add 1) = some (.int .i64 y) := by
      intro i hi
      have h1 := hel i hi
      rw [List.getElem?_eq_getElem (by omega)] at h1
      obtain ⟨cs, hc1, ht1⟩ := Option.bind_eq_some_iff.1 h1
      obtain ⟨x, y, rfl, hx, hy⟩ := cells_two hc1
      obtain ⟨y0, y1, n', _, _, t0, t1⟩ := trod_struct2 Tryd.underlying34 ht1
      have t0' : DataW.trod enc Tryd.prog w 0 (fun _ => true) true n' 3 [x] = some y0 := by
        have := t0; rw [show Tryd.prog.cellsOf 3 = 1 by kernel_rfl] at this; exact this
      have t1' : DataW.trod enc Tryd.prog w 0 (fun _ => true) true n' 3 [y] = some y1 := by
        have := t1; rw [show Tryd.prog.cellsOf 3 = 1 by kernel_rfl] at this; exact this
      obtain ⟨n0, e0, _⟩ := DataW.trod_int Tryd.underlying3 t0'
      obtain ⟨n1, e1, _⟩ := DataW.trod_int Tryd.underlying3 t1'
      injection e0 with e0; injection e1 with e1
      rw [e0] at hx; rw [e1] at hy
      exact ⟨n0, n1, hx, hy⟩
    let f : Nat → Int × Int := fun i => if h : i < len' then ((each i h).choose, (each i h).choose_spec.choose) else (0, 0)
    have hfs : ∀ i, i < len' → w.cell? ((a.add (i * 2)).add 0) = some (.int .i64 (f i).1) ∧ w.cell? ((a.add (i * 2)).add 1) = some (.int .i64 (f i).2) := by
      intro i hi
      have := (each i hi).choose_spec.choose_spec
      simp only [f, dif_pos hi]
      exact this
    have hll : ((List.range len').map f).length = len' := by simp
    refine ⟨(List.range len').map f, ⟨some a, cap', by rw [hll], by omega, fun hn => ?_⟩, by omega⟩
    rw [hll] at hn
    obtain ⟨b, off, spot⟩ := a
    have h0 := (hfs 0 hn).1
    have hspot : spot = none := by simpa [Addr.add] using World.cell?_spot h0
    subst hspot
    refine ⟨b, off, rfl, World.block_lt_of_cell? w _ (by simpa [Addr.add] using h0), fun j x hx => ?_⟩
    have hj : j < len' := by
      have := (List.getElem?_eq_some_iff.1 hx).1
      simpa using this
    rw [List.getElem?_map, List.getElem?_range hj] at hx
    simp only [Option.map_some, Option.some.injEq] at hx
    subst hx
    have := hfs j hj
    have hadd : ∀ o i, (⟨b, o, none⟩ : Addr).add i = ⟨b, o + i, none⟩ := fun o i => by unfold Addr.add; split <;> simp_all
    rw [hadd, hadd, hadd, Nat.add_zero] at this
    exact this
theorem open_rng {H : Type} {enc : TypeId × Value → H} {w : World} {base : Nat} {v : Value} {d : DataW H} {p : List MemPlace}
    (hv : Value.okWide Tryd.prog w .any base 34 v) (h : DataW.Trod enc Tryd.prog w 0 (fun _ => true) true 34 v d p) :
    ∃ x y : Int, v = .agg #[.int .i64 x, .int .i64 y] := by
  obtain ⟨cs, rfl, hl, hf⟩ := open_fields Tryd.underlying34 (by kernel_rfl) (by kernel_rfl) hv h
  obtain ⟨c0, y0, n0, e0, t0⟩ := hf 0 _ rfl
  obtain ⟨c1, y1, n1, e1, t1⟩ := hf 1 _ rfl
  obtain ⟨x, r0, _⟩ := DataW.trod_int Tryd.underlying3 t0
  obtain ⟨y, r1, _⟩ := DataW.trod_int Tryd.underlying3 t1
  injection r0 with r0; injection r1 with r1
  subst r0 r1
  refine ⟨x, y, ?_⟩
  match cs, hl with
  | [_, _], _ =>
    simp at e0 e1
    subst e0 e1
    rfl
end Go.Proofs.YtdcdflhglcpleaaDoor.SP

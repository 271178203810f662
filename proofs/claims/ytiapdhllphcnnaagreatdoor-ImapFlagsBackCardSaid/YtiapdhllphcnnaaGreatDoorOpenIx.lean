/- An index, a client's state, and what is drawn, given by value: opened. No conditions but those stated. -/
import Derived.Test.YtiapdhllphcnnaaGreatDoorOpenF
import Derived.Test.YtiapdhllphcnnaaGreatDoorOpenS
import Derived.Test.YtiapdhllphcnnaaGreatDoorIndexMem
import Derived.Test.YtiapdhllphcnnaaGreatDoorProg
import Derived.KernelRfl
namespace Go.Proofs.YtiapdhllphcnnaaGreatDoor.IX
open Go.Joins Go.ChangeShapes Go.WideShapes Go.RowKit Go.Deep MM Mailsack

theorem cells_each {w : World} {a : Addr} {k : Nat} {cs : List Value} (h : w.cells? 0 a k = some cs) : cs.length = k ∧ ∀ j, j < k → w.cell? (a.add j) = cs[j]? := by
  unfold World.cells? at h
  rw [if_pos (Nat.zero_le _)] at h
  refine ⟨by simpa using mapM_some_length h, fun j hj => ?_⟩
  exact mapM_some_get h j j (by rw [List.getElem?_range hj])
theorem add_none (b o i : Nat) : (⟨b, o, none⟩ : Addr).add i = ⟨b, o + i, none⟩ := by unfold Addr.add; split <;> simp_all
theorem open_slice_at {H : Type} {enc : TypeId × Value → H} {P : Program} {w : World} {t e : TypeId} {k fuel : Nat} {v : Value} {x : DataW H × List MemPlace} (ht : P.underlying t = some (.slice e)) (hc : P.cellsOf e = k) (hk : 0 < k)
    (hf : DataW.trod enc P w 0 (fun _ => true) true fuel t [v] = some x) :
    ∃ A len c, v = .slice A len c ∧ len ≤ c ∧ len ≤ 9223372036854775807 ∧ (0 < len → ∃ b off, A = some ⟨b, off, none⟩ ∧ b < w.heap.size ∧ ∀ i, i < len → ∃ cs n y, cs.length = k ∧ (∀ j, j < k → w.cell? ⟨b, off + i * k + j, none⟩ = cs[j]?) ∧ DataW.trod enc P w 0 (fun _ => true) true n e cs = some y) := by
  rcases DataW.trod_slice ht hf with ⟨hcs, _⟩ | ⟨a, len', cap', elems, rest, n, _, hcs, _, _, hl, hm, hlen, hel, _⟩
  · exact ⟨none, 0, 0, by simpa using hcs, Nat.le_refl _, by omega, fun h => absurd h (Nat.lt_irrefl _)⟩
  · unfold maxLen at hm
    rw [hc] at hel
    have each : ∀ i, i < len' → ∃ cs y, cs.length = k ∧ (∀ j, j < k → w.cell? ((a.add (i * k)).add j) = cs[j]?) ∧ DataW.trod enc P w 0 (fun _ => true) true n e cs = some y := by
      intro i hi
      have h1 := hel i hi
      rw [List.getElem?_eq_getElem (by omega)] at h1
      obtain ⟨cs, hc1, ht1⟩ := Option.bind_eq_some_iff.1 h1
      obtain ⟨h2, h3⟩ := cells_each hc1
      exact ⟨cs, _, h2, h3, ht1⟩
    refine ⟨some a, len', cap', by simpa using hcs, hl, by omega, fun hn => ?_⟩
    obtain ⟨cs0, y0, hz0, hc0, _⟩ := each 0 hn
    have h0 := hc0 0 hk
    rw [List.getElem?_eq_getElem (by omega)] at h0
    obtain ⟨b, off, spot⟩ := a
    have hspot : spot = none := by simpa [Addr.add] using World.cell?_spot h0
    subst hspot
    refine ⟨b, off, rfl, World.block_lt_of_cell? w _ (by simpa [Addr.add] using h0), fun i hi => ?_⟩
    obtain ⟨cs, y, hz, hcs', hy⟩ := each i hi
    refine ⟨cs, n, y, hz, fun j hj => ?_, hy⟩
    have := hcs' j hj
    rw [add_none, add_none] at this
    exact this

/-- a list out of what holds of each place -/
theorem list_of {α : Type} {p : Nat → α → Prop} {n : Nat} (h : ∀ i, i < n → ∃ x, p i x) : ∃ L : List α, L.length = n ∧ ∀ (i : Nat) x, L[i]? = some x → p i x := by
  induction n with
  | zero => exact ⟨[], rfl, fun i x hx => by simp at hx⟩
  | succ n ih =>
    obtain ⟨L, hl, hp⟩ := ih (fun i hi => h i (by omega))
    obtain ⟨x, hx⟩ := h n (by omega)
    refine ⟨L ++ [x], by simp [hl], fun i y hy => ?_⟩
    by_cases hi : i < n
    · rw [List.getElem?_append_left (by omega)] at hy
      exact hp i y hy
    · rw [List.getElem?_append_right (by omega)] at hy
      have : i - L.length = 0 := by
        have := (List.getElem?_eq_some_iff.1 hy).1
        simp at this
        omega
      rw [this] at hy
      simp at hy
      subst hy
      obtain rfl : i = n := by omega
      exact hx

set_option maxRecDepth 100000 in
theorem open_mails {H : Type} {enc : TypeId × Value → H} {w : World} {fuel : Nat} {v : Value} {x : DataW H × List MemPlace} (hf : DataW.trod enc Tryz.prog w 0 (fun _ => true) true fuel 68 [v] = some x) :
    ∃ L : List MailP, RdMails w w.heap.size v L ∧ L.length ≤ 9223372036854775807 := by
  obtain ⟨A, len, c, rfl, hlc, hlm, hrow⟩ := open_slice_at Tryz.underlying68 (show Tryz.prog.cellsOf 94 = 4 by kernel_rfl) (by omega) hf
  by_cases hn : 0 < len
  · obtain ⟨b, off, rfl, hb, hi⟩ := hrow hn
    obtain ⟨L, hL, hp⟩ := list_of (α := MailP) (p := fun j m => w.cell? ⟨b, off + j * 4, none⟩ = some (.int .i64 m.uid) ∧ w.cell? ⟨b, off + j * 4 + 1, none⟩ = some (.int .i64 m.flags) ∧ w.cell? ⟨b, off + j * 4 + 2, none⟩ = some (.int .i64 m.object) ∧ w.cell? ⟨b, off + j * 4 + 3, none⟩ = some (.int .i64 m.size)) (n := len) (fun i h => by
      obtain ⟨cs, n, y, hz, hcell, ht1⟩ := hi i h
      obtain ⟨c0, c1, c2, c3, rfl⟩ : ∃ c0 c1 c2 c3, cs = [c0, c1, c2, c3] := by
        match cs, hz with
        | [c0, c1, c2, c3], _ => exact ⟨c0, c1, c2, c3, rfl⟩
      obtain ⟨xs, n', _, _, _, hlen, hg⟩ := DataW.trod_struct Tryz.underlying94 ht1
      have hlen4 : xs.length = 4 := hlen
      have g0 : DataW.trod enc Tryz.prog w 0 (fun _ => true) true n' 3 ((([c0, c1, c2, c3] : List Value).drop 0).take (Tryz.prog.cellsOf 3)) = xs[0]? := hg 0 _ rfl
      have g1 : DataW.trod enc Tryz.prog w 0 (fun _ => true) true n' 3 ((([c0, c1, c2, c3] : List Value).drop 1).take (Tryz.prog.cellsOf 3)) = xs[1]? := hg 1 _ rfl
      have g2 : DataW.trod enc Tryz.prog w 0 (fun _ => true) true n' 3 ((([c0, c1, c2, c3] : List Value).drop 2).take (Tryz.prog.cellsOf 3)) = xs[2]? := hg 2 _ rfl
      have g3 : DataW.trod enc Tryz.prog w 0 (fun _ => true) true n' 3 ((([c0, c1, c2, c3] : List Value).drop 3).take (Tryz.prog.cellsOf 3)) = xs[3]? := hg 3 _ rfl
      rw [show Tryz.prog.cellsOf 3 = 1 by kernel_rfl, List.getElem?_eq_getElem (by omega)] at g0 g1 g2 g3
      obtain ⟨m0, r0, _⟩ := DataW.trod_int Tryz.underlying3 g0
      obtain ⟨m1, r1, _⟩ := DataW.trod_int Tryz.underlying3 g1
      obtain ⟨m2, r2, _⟩ := DataW.trod_int Tryz.underlying3 g2
      obtain ⟨m3, r3, _⟩ := DataW.trod_int Tryz.underlying3 g3
      injection r0 with r0; injection r1 with r1; injection r2 with r2; injection r3 with r3
      subst r0 r1 r2 r3
      exact ⟨⟨m0, m1, m2, m3⟩, hcell 0 (by omega), hcell 1 (by omega), hcell 2 (by omega), hcell 3 (by omega)⟩)
    subst hL
    exact ⟨L, ⟨_, c, rfl, hlc, fun _ => ⟨b, off, rfl, hb, hp⟩⟩, hlm⟩
  · obtain rfl : len = 0 := by omega
    exact ⟨[], ⟨A, c, rfl, Nat.zero_le _, fun h => absurd h (Nat.lt_irrefl _)⟩, by simp⟩

set_option maxRecDepth 100000 in
theorem open_boxes {H : Type} {enc : TypeId × Value → H} {w : World} {fuel : Nat} {v : Value} {x : DataW H × List MemPlace} (hf : DataW.trod enc Tryz.prog w 0 (fun _ => true) true fuel 28 [v] = some x) :
    ∃ L : List BoxP, RdBoxes w w.heap.size v L ∧ (∀ b ∈ L, b.mails.length ≤ 9223372036854775807) ∧ L.length ≤ 9223372036854775807 := by
  obtain ⟨A, len, c, rfl, hlc, hlm, hrow⟩ := open_slice_at Tryz.underlying28 (show Tryz.prog.cellsOf 70 = 4 by kernel_rfl) (by omega) hf
  by_cases hn : 0 < len
  · obtain ⟨b, off, rfl, hb, hi⟩ := hrow hn
    obtain ⟨L, hL, hp⟩ := list_of (α := BoxP) (p := fun j x => (∃ mv, w.cell? ⟨b, off + j * 4, none⟩ = some (strV x.name) ∧ w.cell? ⟨b, off + j * 4 + 1, none⟩ = some (.int .i64 x.validity) ∧ w.cell? ⟨b, off + j * 4 + 2, none⟩ = some (.int .i64 x.next) ∧ w.cell? ⟨b, off + j * 4 + 3, none⟩ = some mv ∧ RdMails w w.heap.size mv x.mails) ∧ x.mails.length ≤ 9223372036854775807) (n := len) (fun i h => by
      obtain ⟨cs, n, y, hz, hcell, ht1⟩ := hi i h
      obtain ⟨c0, c1, c2, c3, rfl⟩ : ∃ c0 c1 c2 c3, cs = [c0, c1, c2, c3] := by
        match cs, hz with
        | [c0, c1, c2, c3], _ => exact ⟨c0, c1, c2, c3, rfl⟩
      obtain ⟨xs, n', _, _, _, hlen, hg⟩ := DataW.trod_struct Tryz.underlying70 ht1
      have hlen4 : xs.length = 4 := hlen
      have g0 : DataW.trod enc Tryz.prog w 0 (fun _ => true) true n' 9 ((([c0, c1, c2, c3] : List Value).drop 0).take (Tryz.prog.cellsOf 9)) = xs[0]? := hg 0 _ rfl
      have g1 : DataW.trod enc Tryz.prog w 0 (fun _ => true) true n' 3 ((([c0, c1, c2, c3] : List Value).drop 1).take (Tryz.prog.cellsOf 3)) = xs[1]? := hg 1 _ rfl
      have g2 : DataW.trod enc Tryz.prog w 0 (fun _ => true) true n' 3 ((([c0, c1, c2, c3] : List Value).drop 2).take (Tryz.prog.cellsOf 3)) = xs[2]? := hg 2 _ rfl
      have g3 : DataW.trod enc Tryz.prog w 0 (fun _ => true) true n' 68 ((([c0, c1, c2, c3] : List Value).drop 3).take (Tryz.prog.cellsOf 68)) = xs[3]? := hg 3 _ rfl
      rw [show Tryz.prog.cellsOf 9 = 1 by kernel_rfl, List.getElem?_eq_getElem (by omega)] at g0
      rw [show Tryz.prog.cellsOf 3 = 1 by kernel_rfl, List.getElem?_eq_getElem (by omega)] at g1 g2
      rw [show Tryz.prog.cellsOf 68 = 1 by kernel_rfl, List.getElem?_eq_getElem (by omega)] at g3
      obtain ⟨m0, r0, _⟩ := DataW.trod_string Tryz.underlying9 g0
      obtain ⟨m1, r1, _⟩ := DataW.trod_int Tryz.underlying3 g1
      obtain ⟨m2, r2, _⟩ := DataW.trod_int Tryz.underlying3 g2
      injection r0 with r0; injection r1 with r1; injection r2 with r2
      subst r0 r1 r2
      have g3' : DataW.trod enc Tryz.prog w 0 (fun _ => true) true n' 68 [c3] = some (xs[3]'(by omega)) := g3
      obtain ⟨M, hM, hMl⟩ := open_mails g3'
      exact ⟨⟨m0.data.toList, m1, m2, M⟩, ⟨c3, hcell 0 (by omega), hcell 1 (by omega), hcell 2 (by omega), hcell 3 (by omega), hM⟩, hMl⟩)
    subst hL
    refine ⟨L, ⟨_, c, rfl, hlc, fun _ => ⟨b, off, rfl, hb, fun j x hx => (hp j x hx).1⟩⟩, fun x hx => ?_, hlm⟩
    obtain ⟨j, hj⟩ := List.mem_iff_getElem?.1 hx
    exact (hp j x hj).2
  · obtain rfl : len = 0 := by omega
    exact ⟨[], ⟨A, c, rfl, Nat.zero_le _, fun h => absurd h (Nat.lt_irrefl _)⟩, by simp, by simp⟩

set_option maxRecDepth 100000 in
theorem open_state {H : Type} {enc : TypeId × Value → H} {w : World} {base : Nat} {v : Value} {d : DataW H} {p : List MemPlace}
    (hv : Value.okWide Tryz.prog w .any base 34 v) (h : DataW.Trod enc Tryz.prog w 0 (fun _ => true) true 34 v d p) :
    ∃ (a b c bx : ByteArray) (ep : Int) (bv sv : Value) (x : IndexP) (o1 o2 : Bool), v = .agg #[.string a, .string b, .string c, .int .i64 ep, bv, sv, .int .i64 x.given, .string bx, .bool o1, .bool o2] ∧
      RdIx w w.heap.size bv sv x ∧ (∀ b ∈ x.boxes, b.mails.length ≤ 9223372036854775807) ∧ x.boxes.length ≤ 9223372036854775807 ∧ x.subs.length ≤ 9223372036854775807 := by
  obtain ⟨cs, rfl, hsz⟩ := okWide_struct Tryz.underlying34 hv
  have hsz10 : cs.size = 10 := hsz.trans (by kernel_rfl)
  obtain ⟨l⟩ := cs
  obtain ⟨fuel, hf⟩ := h
  obtain ⟨v0, v1, v2, v3, v4, v5, v6, v7, v8, v9, rfl⟩ : ∃ v0 v1 v2 v3 v4 v5 v6 v7 v8 v9, l = [v0, v1, v2, v3, v4, v5, v6, v7, v8, v9] := by
    match l, hsz10 with
    | [v0, v1, v2, v3, v4, v5, v6, v7, v8, v9], _ => exact ⟨v0, v1, v2, v3, v4, v5, v6, v7, v8, v9, rfl⟩
  have hf' : DataW.trod enc Tryz.prog w 0 (fun _ => true) true fuel 34 [v0, v1, v2, v3, v4, v5, v6, v7, v8, v9] = some (d, p) := hf
  obtain ⟨xs, n, _, _, _, hlen, hg⟩ := DataW.trod_struct Tryz.underlying34 hf'
  have hlen4 : xs.length = 4 := hlen
  have g0 : DataW.trod enc Tryz.prog w 0 (fun _ => true) true n 32 ((([v0, v1, v2, v3, v4, v5, v6, v7, v8, v9] : List Value).drop 0).take (Tryz.prog.cellsOf 32)) = xs[0]? := hg 0 _ rfl
  have g1 : DataW.trod enc Tryz.prog w 0 (fun _ => true) true n 9 ((([v0, v1, v2, v3, v4, v5, v6, v7, v8, v9] : List Value).drop 7).take (Tryz.prog.cellsOf 9)) = xs[1]? := hg 1 _ rfl
  have g2 : DataW.trod enc Tryz.prog w 0 (fun _ => true) true n 4 ((([v0, v1, v2, v3, v4, v5, v6, v7, v8, v9] : List Value).drop 8).take (Tryz.prog.cellsOf 4)) = xs[2]? := hg 2 _ rfl
  have g3 : DataW.trod enc Tryz.prog w 0 (fun _ => true) true n 4 ((([v0, v1, v2, v3, v4, v5, v6, v7, v8, v9] : List Value).drop 9).take (Tryz.prog.cellsOf 4)) = xs[3]? := hg 3 _ rfl
  rw [show Tryz.prog.cellsOf 32 = 7 by kernel_rfl, List.getElem?_eq_getElem (by omega)] at g0
  rw [show Tryz.prog.cellsOf 9 = 1 by kernel_rfl, List.getElem?_eq_getElem (by omega)] at g1
  rw [show Tryz.prog.cellsOf 4 = 1 by kernel_rfl, List.getElem?_eq_getElem (by omega)] at g2 g3
  have g0' : DataW.trod enc Tryz.prog w 0 (fun _ => true) true n 32 [v0, v1, v2, v3, v4, v5, v6] = some (xs[0]'(by omega)) := g0
  obtain ⟨ys, n2, _, _, _, hlen2, hg2⟩ := DataW.trod_struct Tryz.underlying32 g0'
  have hlen5 : ys.length = 5 := hlen2
  have k0 : DataW.trod enc Tryz.prog w 0 (fun _ => true) true n2 9 ((([v0, v1, v2, v3, v4, v5, v6] : List Value).drop 0).take (Tryz.prog.cellsOf 9)) = ys[0]? := hg2 0 _ rfl
  have k1 : DataW.trod enc Tryz.prog w 0 (fun _ => true) true n2 9 ((([v0, v1, v2, v3, v4, v5, v6] : List Value).drop 1).take (Tryz.prog.cellsOf 9)) = ys[1]? := hg2 1 _ rfl
  have k2 : DataW.trod enc Tryz.prog w 0 (fun _ => true) true n2 9 ((([v0, v1, v2, v3, v4, v5, v6] : List Value).drop 2).take (Tryz.prog.cellsOf 9)) = ys[2]? := hg2 2 _ rfl
  have k3 : DataW.trod enc Tryz.prog w 0 (fun _ => true) true n2 3 ((([v0, v1, v2, v3, v4, v5, v6] : List Value).drop 3).take (Tryz.prog.cellsOf 3)) = ys[3]? := hg2 3 _ rfl
  have k4 : DataW.trod enc Tryz.prog w 0 (fun _ => true) true n2 30 ((([v0, v1, v2, v3, v4, v5, v6] : List Value).drop 4).take (Tryz.prog.cellsOf 30)) = ys[4]? := hg2 4 _ rfl
  rw [show Tryz.prog.cellsOf 9 = 1 by kernel_rfl, List.getElem?_eq_getElem (by omega)] at k0 k1 k2
  rw [show Tryz.prog.cellsOf 3 = 1 by kernel_rfl, List.getElem?_eq_getElem (by omega)] at k3
  rw [show Tryz.prog.cellsOf 30 = 3 by kernel_rfl, List.getElem?_eq_getElem (by omega)] at k4
  have k4' : DataW.trod enc Tryz.prog w 0 (fun _ => true) true n2 30 [v4, v5, v6] = some (ys[4]'(by omega)) := k4
  obtain ⟨zs, n3, _, _, _, hlen3, hg3⟩ := DataW.trod_struct Tryz.underlying30 k4'
  have hlen3' : zs.length = 3 := hlen3
  have j0 : DataW.trod enc Tryz.prog w 0 (fun _ => true) true n3 28 ((([v4, v5, v6] : List Value).drop 0).take (Tryz.prog.cellsOf 28)) = zs[0]? := hg3 0 _ rfl
  have j1 : DataW.trod enc Tryz.prog w 0 (fun _ => true) true n3 22 ((([v4, v5, v6] : List Value).drop 1).take (Tryz.prog.cellsOf 22)) = zs[1]? := hg3 1 _ rfl
  have j2 : DataW.trod enc Tryz.prog w 0 (fun _ => true) true n3 3 ((([v4, v5, v6] : List Value).drop 2).take (Tryz.prog.cellsOf 3)) = zs[2]? := hg3 2 _ rfl
  rw [show Tryz.prog.cellsOf 28 = 1 by kernel_rfl, List.getElem?_eq_getElem (by omega)] at j0
  rw [show Tryz.prog.cellsOf 22 = 1 by kernel_rfl, List.getElem?_eq_getElem (by omega)] at j1
  rw [show Tryz.prog.cellsOf 3 = 1 by kernel_rfl, List.getElem?_eq_getElem (by omega)] at j2
  have j0' : DataW.trod enc Tryz.prog w 0 (fun _ => true) true n3 28 [v4] = some (zs[0]'(by omega)) := j0
  have j1' : DataW.trod enc Tryz.prog w 0 (fun _ => true) true n3 22 [v5] = some (zs[1]'(by omega)) := j1
  obtain ⟨BL, hB, hBm, hBl⟩ := open_boxes j0'
  obtain ⟨SL, hS, _, hSl⟩ := MM.open_rds_at Tryz.underlying22 Tryz.underlying9 (by kernel_rfl) j1'
  obtain ⟨gv, r6, _⟩ := DataW.trod_int Tryz.underlying3 j2
  obtain ⟨a, r0, _⟩ := DataW.trod_string Tryz.underlying9 k0
  obtain ⟨b, r1, _⟩ := DataW.trod_string Tryz.underlying9 k1
  obtain ⟨c, r2, _⟩ := DataW.trod_string Tryz.underlying9 k2
  obtain ⟨ep, r3, _⟩ := DataW.trod_int Tryz.underlying3 k3
  obtain ⟨bx, r7, _⟩ := DataW.trod_string Tryz.underlying9 g1
  obtain ⟨o1, r8, _⟩ := DataW.trod_bool Tryz.underlying4 g2
  obtain ⟨o2, r9, _⟩ := DataW.trod_bool Tryz.underlying4 g3
  injection r0 with r0; injection r1 with r1; injection r2 with r2; injection r3 with r3; injection r6 with r6; injection r7 with r7; injection r8 with r8; injection r9 with r9
  subst r0 r1 r2 r3 r6 r7 r8 r9
  exact ⟨a, b, c, bx, ep, v4, v5, ⟨BL, SL, gv⟩, o1, o2, rfl, ⟨hB, hS⟩, hBm, hBl, hSl⟩

set_option maxRecDepth 100000 in
theorem open_drawn {H : Type} {enc : TypeId × Value → H} {w : World} {base : Nat} {v : Value} {d : DataW H} {p : List MemPlace}
    (hv : Value.okWide Tryz.prog w .any base 38 v) (h : DataW.Trod enc Tryz.prog w 0 (fun _ => true) true 38 v d p) :
    ∃ (f1 f2 f3 f4 f5 : ByteArray) (rd : Int), v = .agg #[.string f1, .string f2, .string f3, .string f4, .string f5, .int .i64 rd] := by
  obtain ⟨cs, rfl, hsz⟩ := okWide_struct Tryz.underlying38 hv
  have hsz6 : cs.size = 6 := hsz.trans (by kernel_rfl)
  obtain ⟨l⟩ := cs
  obtain ⟨fuel, hf⟩ := h
  obtain ⟨v0, v1, v2, v3, v4, v5, rfl⟩ : ∃ v0 v1 v2 v3 v4 v5, l = [v0, v1, v2, v3, v4, v5] := by
    match l, hsz6 with
    | [v0, v1, v2, v3, v4, v5], _ => exact ⟨v0, v1, v2, v3, v4, v5, rfl⟩
  have hf' : DataW.trod enc Tryz.prog w 0 (fun _ => true) true fuel 38 [v0, v1, v2, v3, v4, v5] = some (d, p) := hf
  obtain ⟨xs, n, _, _, _, hlen, hg⟩ := DataW.trod_struct Tryz.underlying38 hf'
  have hlen3 : xs.length = 3 := hlen
  have g0 : DataW.trod enc Tryz.prog w 0 (fun _ => true) true n 9 ((([v0, v1, v2, v3, v4, v5] : List Value).drop 0).take (Tryz.prog.cellsOf 9)) = xs[0]? := hg 0 _ rfl
  have g1 : DataW.trod enc Tryz.prog w 0 (fun _ => true) true n 9 ((([v0, v1, v2, v3, v4, v5] : List Value).drop 1).take (Tryz.prog.cellsOf 9)) = xs[1]? := hg 1 _ rfl
  have g2 : DataW.trod enc Tryz.prog w 0 (fun _ => true) true n 36 ((([v0, v1, v2, v3, v4, v5] : List Value).drop 2).take (Tryz.prog.cellsOf 36)) = xs[2]? := hg 2 _ rfl
  rw [show Tryz.prog.cellsOf 9 = 1 by kernel_rfl, List.getElem?_eq_getElem (by omega)] at g0 g1
  rw [show Tryz.prog.cellsOf 36 = 4 by kernel_rfl, List.getElem?_eq_getElem (by omega)] at g2
  have g2' : DataW.trod enc Tryz.prog w 0 (fun _ => true) true n 36 [v2, v3, v4, v5] = some (xs[2]'(by omega)) := g2
  obtain ⟨ys, n2, _, _, _, hlen2, hg2⟩ := DataW.trod_struct Tryz.underlying36 g2'
  have hlen4 : ys.length = 4 := hlen2
  have k0 : DataW.trod enc Tryz.prog w 0 (fun _ => true) true n2 9 ((([v2, v3, v4, v5] : List Value).drop 0).take (Tryz.prog.cellsOf 9)) = ys[0]? := hg2 0 _ rfl
  have k1 : DataW.trod enc Tryz.prog w 0 (fun _ => true) true n2 9 ((([v2, v3, v4, v5] : List Value).drop 1).take (Tryz.prog.cellsOf 9)) = ys[1]? := hg2 1 _ rfl
  have k2 : DataW.trod enc Tryz.prog w 0 (fun _ => true) true n2 9 ((([v2, v3, v4, v5] : List Value).drop 2).take (Tryz.prog.cellsOf 9)) = ys[2]? := hg2 2 _ rfl
  have k3 : DataW.trod enc Tryz.prog w 0 (fun _ => true) true n2 3 ((([v2, v3, v4, v5] : List Value).drop 3).take (Tryz.prog.cellsOf 3)) = ys[3]? := hg2 3 _ rfl
  rw [show Tryz.prog.cellsOf 9 = 1 by kernel_rfl, List.getElem?_eq_getElem (by omega)] at k0 k1 k2
  rw [show Tryz.prog.cellsOf 3 = 1 by kernel_rfl, List.getElem?_eq_getElem (by omega)] at k3
  obtain ⟨f1, r0, _⟩ := DataW.trod_string Tryz.underlying9 g0
  obtain ⟨f2, r1, _⟩ := DataW.trod_string Tryz.underlying9 g1
  obtain ⟨f3, r2, _⟩ := DataW.trod_string Tryz.underlying9 k0
  obtain ⟨f4, r3, _⟩ := DataW.trod_string Tryz.underlying9 k1
  obtain ⟨f5, r4, _⟩ := DataW.trod_string Tryz.underlying9 k2
  obtain ⟨rd, r5, _⟩ := DataW.trod_int Tryz.underlying3 k3
  injection r0 with r0; injection r1 with r1; injection r2 with r2; injection r3 with r3; injection r4 with r4; injection r5 with r5
  subst r0 r1 r2 r3 r4 r5
  exact ⟨f1, f2, f3, f4, f5, rd, rfl⟩
end Go.Proofs.YtiapdhllphcnnaaGreatDoor.IX

/- A row of bytes that the call owns: made, appended to, read as a text. No conditions but those stated. -/
import Derived.Test.YtomnljigoljldaaGreatDoorByteBlk
import Derived.Lib.AppendStr
import Derived.Deep.AppendLies
import Derived.Maps.AppendAt
namespace Go.Proofs.YtomnljigoljldaaGreatDoor.BB
open Go.RowKit Mailsack MM

/-- append(b, s...) onto an owned row that is no nil: where the row then lies -/
theorem run_ownY {P : Program} (w : World) (base : Nat) (t u ty e : TypeId) (i : TypeInfo) (ht : P.underlying t = some (.slice e)) (hu : P.underlying u = some .string) (hi : P.info? e = some i) (hz : i.zero = some (.int .u8 0))
    (hsize : i.size = 1) (hby : i.bytes = 1) (g n cap : Nat) (xs : List Value) (hown : w.ownsRow base e 1 (.slice (some ⟨g, 0, none⟩) n cap) n xs) (s : ByteArray)
    (h63 : n + s.size ≤ maxLen) (hbytes : n + s.size ≤ 140737488355328) (hbase : base ≤ w.heap.size) :
    ∃ v' w', (Builtin.append_ #[t, u] ty #[.slice (some ⟨g, 0, none⟩) n cap, .string s]).run P w = .ok v' w' ∧ w'.ownsRow base e 1 v' (n + s.size) (xs ++ Lib.strCells s) ∧ w.grownBy w' (some g) ∧
      (v'.ownBlock = some g ∨ v'.ownBlock = some w.heap.size) := by
  obtain ⟨v', w', hr, h2, h3, _⟩ := Lib.run_append_own_string (P := P) w base t u ty e i ht hu hi hz hsize hby _ n xs hown s h63 hbytes hbase
  refine ⟨v', w', hr, h2, h3, ?_⟩
  have hsmall : n + s.size ≤ 9223372036854775807 := by simp only [maxLen] at h63; omega
  have hxl : xs.length = n := by simpa using hown.1
  rcases hown.2 with ⟨h, _⟩ | ⟨g', cap', cur, h, hbg, hg, hnc, hcm, hcs, htake⟩
  · cases h
  · injection h with h h' h''
    injection h with h
    injection h with h
    subst h h''
    by_cases hroom : n + s.size ≤ cap
    · have hcs' : cur.size = cap := by simpa using hcs
      have hq := Lib.run_append_room_string (P := P) w t u ty e i ht hu hi hsize g n cap cur hg s hroom (by omega)
      rw [hq] at hr
      injection hr with hv hw
      exact .inl (by rw [← hv]; rfl)
    · have holds : ∀ j u, xs[j]? = some u → w.cell? ((⟨g, 0, none⟩ : Addr).add j) = some u := hown.cells (g := g) rfl
      have hq := Lib.run_append_grow_string (P := P) w t u ty e i (.int .u8 0) ht hu hi hz ⟨g, 0, none⟩ n cap xs (by rw [hsize]; simpa using hxl) holds s (by omega) (by omega) (by rw [hby]; exact growslice_fits (by omega) (by omega))
      rw [hq] at hr
      injection hr with hv hw
      exact .inr (by rw [← hv]; rfl)
theorem wpList_ownY {P : Program} {w : World} {ops : Array Oper} {rest : List Oper} {o : Oper} {a : Act} {Q : Exit → Act → World → Prop} (hgd : o.guard = none) (sl x : Operand) (t u : TypeId)
    (ho : o.op = .call { callee := .builtin .append, args := #[sl, x], argTypes := #[t, u] })
    (base : Nat) (e : TypeId) (i : TypeInfo) (ht : P.underlying t = some (.slice e)) (hu : P.underlying u = some .string) (hi : P.info? e = some i) (hz : i.zero = some (.int .u8 0))
    (hsize : i.size = 1) (hby : i.bytes = 1)
    (g n cap : Nat) (xs : List Value) (hs : a.eval sl = .slice (some ⟨g, 0, none⟩) n cap) (hown : w.ownsRow base e 1 (.slice (some ⟨g, 0, none⟩) n cap) n xs) (s : ByteArray) (hx : a.eval x = .string s)
    (h63 : n + s.size ≤ maxLen) (hbytes : n + s.size ≤ 140737488355328) (hbase : base ≤ w.heap.size)
    (h : ∀ v' w', w'.ownsRow base e 1 v' (n + s.size) (xs ++ Lib.strCells s) → w.grownBy w' (some g) → (v'.ownBlock = some g ∨ v'.ownBlock = some w.heap.size) → wpList P ops Q rest (a.put o.dst v') w') : wpList P ops Q (o :: rest) a w := by
  refine wpList_plain hgd fun K hK => ?_
  obtain ⟨v', w', hr, h2, h3, h4⟩ := run_ownY (P := P) w base t u o.type e i ht hu hi hz hsize hby g n cap xs hown s h63 hbytes hbase
  unfold Oper.wp execOp
  simp only [ho, resolve, invoke, builtin, Sem.run_bind, Sem.run_pure, Result.andThen_ok, List.map_toArray, List.map_cons, List.map_nil, hs, hx, hr]
  exact hK _ _ (h v' w' h2 h3 h4)
theorem infoY : (Tryz.prog.info? 5).map (fun i => (i.zero, i.size, i.bytes)) = some (some (.int .u8 0), 1, 1) := by kernel_rfl
theorem info_row {P : Program} {t : TypeId} {z : Value} {n b : Nat} (h : (P.info? t).map (fun i => (i.zero, i.size, i.bytes)) = some (some z, n, b)) : ∃ i, P.info? t = some i ∧ i.zero = some z ∧ i.size = n ∧ i.bytes = b := by
  cases hq : P.info? t with
  | none => rw [hq] at h; cases h
  | some i =>
    rw [hq] at h
    simp only [Option.map_some, Option.some.injEq, Prod.mk.injEq] at h
    exact ⟨i, rfl, h.1, h.2.1, h.2.2⟩
def OwnY (w : World) (base : Nat) (v : Value) (l : Bs) : Prop := w.ownsRow base 5 1 v l.length (l.map fun c => Value.int .u8 (c.toNat : Int))
theorem OwnY.row {w : World} {base : Nat} {v : Value} {l : Bs} (h : OwnY w base v l) : w.ownsRow base 5 1 v l.length (l.map fun c => Value.int .u8 (c.toNat : Int)) := h
theorem OwnY.of {w : World} {base : Nat} {v : Value} {l m : Bs} (h : w.ownsRow base 5 1 v (l.length + m.length) (l.map (fun c => Value.int .u8 (c.toNat : Int)) ++ m.map (fun c => Value.int .u8 (c.toNat : Int)))) : OwnY w base v (l ++ m) := by
  unfold OwnY; rw [List.length_append, List.map_append]; exact h
theorem OwnY.alloc {w : World} {base : Nat} {v : Value} {l : Bs} (h : OwnY w base v l) (o : Obj) : OwnY (w.alloc o) base v l := World.ownsRow.alloc h o
theorem OwnY.grown {w w' : World} {base : Nat} {v : Value} {l : Bs} {row : Option Nat} (h : OwnY w base v l) (hg : w.grownBy w' row) (hne : v.ownBlock = none ∨ v.ownBlock ≠ row) : OwnY w' base v l := h.row.kept hg hne
theorem OwnY.below {w w' : World} {base : Nat} {v : Value} {l : Bs} (h : OwnY w base v l) (hb : Below w.heap.size w w') : OwnY w' base v l :=
  h.grown (grown_of_below hb none) (by cases v.ownBlock <;> simp)
theorem OwnY.drew {w : World} {base : Nat} {v : Value} {l : Bs} (h : OwnY w base v l) : OwnY w.drew base v l := h
theorem OwnY.form {w : World} {base : Nat} {v : Value} {l : Bs} (h : OwnY w base v l) : ∃ A c, v = .slice A l.length c ∧ l.length ≤ c := by
  rcases h.2 with ⟨h1, h2⟩ | ⟨g, cap, cur, h1, _, _, h2, _⟩
  · exact ⟨none, 0, by rw [h1, h2], by omega⟩
  · exact ⟨_, _, h1, h2⟩
/-- a row of no byte, with room -/
theorem OwnY.room (w : World) (c : Nat) (base : Nat) (hb : base ≤ w.heap.size) (hc : c ≤ 9223372036854775807) : OwnY (w.alloc (.cells (encB (zerosB c)) 5)) base (.slice (some ⟨w.heap.size, 0, none⟩) 0 c) [] :=
  ⟨rfl, .inr ⟨w.heap.size, c, _, rfl, hb, blk_new _ _, Nat.zero_le _, by unfold maxLen; exact hc, by rw [encB_size, zerosB_len, Nat.mul_one], by simp⟩⟩
/-- a block's first bytes, as a row -/
theorem OwnY.head {w : World} {g : Nat} {l : Bs} (h : HasB w g l) (n : Nat) (base : Nat) (hb : base ≤ g) (hn : n ≤ l.length) (hc : l.length ≤ 9223372036854775807) : OwnY w base (.slice (some ⟨g, 0, none⟩) n l.length) (l.take n) := by
  have hl : (l.take n).length = n := by rw [List.length_take]; omega
  unfold OwnY
  rw [hl]
  refine ⟨by simp; omega, .inr ⟨g, l.length, _, rfl, hb, h.blk, hn, by unfold maxLen; exact hc, by rw [encB_size, Nat.mul_one], ?_⟩⟩
  rw [Nat.mul_one, List.map_take]
  rfl
theorem OwnY.text {w : World} {base : Nat} {v : Value} {l : Bs} (h : OwnY w base v l) : (convert 88 9 v).run Tryz.prog w = .ok (strV l) w := by
  rcases h.2 with ⟨h1, h2⟩ | ⟨g, cap, cur, h1, _, _, h2, _⟩
  · have : l = [] := List.eq_nil_of_length_eq_zero h2
    subst this
    have h0 : ∀ W : World, (convert 88 9 (.slice none 0 0)).run Tryz.prog W = .ok (.string ⟨#[]⟩) W := fun _ => by kernel_rfl
    rw [h1]
    exact h0 w
  · rw [h1]
    refine run_convert_bytes_back w _ _ 5 ⟨g, 0, none⟩ cap l Tryz.underlying88 Tryz.underlying5 Tryz.underlying9 (fun j hj => ?_)
    exact World.ownsRow.cells h (g := g) (by rw [h1]; rfl) j _ (by simp [hj])
theorem push_below {w w2 w1 : World} {B n : Nat} {tv : Value} {xs : List Value} {E : TypeId} {o : Obj} (hT : w2.ownsRow B E 1 tv n xs) (hg : (w2.alloc o).grownBy w1 tv.ownBlock) (hb : Below B w w2) (hB : B ≤ w2.heap.size) : Below B w w1 :=
  (hb.alloc hB o).grown hg (by simp; omega) (fun k hk => (World.ownsRow.lt hT k hk).1)
theorem cells_new (w : World) (xs : List Value) (t : TypeId) : ∀ j u, xs[j]? = some u → (w.alloc (.cells xs.toArray t)).cell? ((⟨w.heap.size, 0, none⟩ : Addr).add j) = some u := by
  intro j u hj
  have hadd : (⟨w.heap.size, 0, none⟩ : Addr).add j = ⟨w.heap.size, j, none⟩ := by unfold Addr.add; split <;> simp_all
  rw [hadd, cell_blk (blk_new w (.cells xs.toArray t)) j]
  simpa using hj
end Go.Proofs.YtomnljigoljldaaGreatDoor.BB

/- What the helpers of index.Put do to a row of bytes that the caller owns. Conditions: the row is owned; its length. -/
import Derived.Test.YtiapdhllphcnnaaGreatDoorIndexRight3
import Derived.Test.YtiapdhllphcnnaaGreatDoorVerbRup
import Derived.Lib.AppendStr
namespace Mailsack
def byteOf (z : Int) : UInt8 := UInt8.ofNat (z % 256).toNat
theorem byteOf_int (z : Int) : ((byteOf z).toNat : Int) = z % 256 := by
  unfold byteOf
  have h1 := Int.emod_nonneg z (b := 256) (by decide)
  have h2 := Int.emod_lt_of_pos z (b := 256) (by decide)
  rw [UInt8.toNat_ofNat', Nat.mod_eq_of_lt (by omega)]
  omega
/-- a number as so many bytes, least significant byte first -/
def numB (n : Int) (c : Nat) : Bs := (List.range c).map fun i => byteOf (n / 2 ^ (8 * i))
theorem numB_succ (n : Int) (c : Nat) : numB n (c + 1) = numB n c ++ [byteOf (n / 2 ^ (8 * c))] := by
  unfold numB; rw [List.range_succ, List.map_append]; rfl
def textB (s : Bs) : Bs := byteOf s.length :: s
theorem numB_length (n : Int) (c : Nat) : (numB n c).length = c := by unfold numB; simp
end Mailsack
namespace Go.Proofs.YtiapdhllphcnnaaGreatDoor.IX
open Go.RowKit Mailsack MM BU VB

/-- from one world to a later one nothing is written but the row that v owned, and v' owns that row or a new one -/
structure Ext (w : World) (v : Value) (w' : World) (v' : Value) : Prop where
  grown : w.grownBy w' v.ownBlock
  own : ∀ k, v'.ownBlock = some k → v.ownBlock = some k ∨ w.heap.size ≤ k
theorem Ext.refl (w : World) (v : Value) : Ext w v w v := ⟨⟨rfl, rfl, rfl, Nat.le_refl _, fun _ _ _ => rfl⟩, fun _ h => .inl h⟩
theorem Ext.trans {w w1 w2 : World} {v v1 v2 : Value} (h : Ext w v w1 v1) (k : Ext w1 v1 w2 v2) : Ext w v w2 v2 := by
  refine ⟨⟨k.grown.os.trans h.grown.os, k.grown.tape.trans h.grown.tape, k.grown.output.trans h.grown.output, Nat.le_trans h.grown.size k.grown.size, fun b hb hne => ?_⟩, fun b hb => ?_⟩
  · refine (k.grown.block b (Nat.lt_of_lt_of_le hb h.grown.size) (fun e => ?_)).trans (h.grown.block b hb hne)
    rcases h.own b e.symm with h1 | h1
    · exact hne h1.symm
    · omega
  · rcases k.own b hb with h1 | h1
    · exact h.own b h1
    · exact .inr (Nat.le_trans h.grown.size h1)
theorem Ext.push {w w1 : World} {v : Value} {o : Obj} {g n cap : Nat} (hg : (w.alloc o).grownBy w1 v.ownBlock) (hl : v.ownBlock = some g ∨ g = w.heap.size + 1) : Ext w v w1 (.slice (some ⟨g, 0, none⟩) n cap) := by
  refine ⟨⟨hg.os, hg.tape, hg.output, Nat.le_trans (by simp) hg.size, fun b hb hne => ?_⟩, fun b hb => ?_⟩
  · exact (hg.block b (by simp; omega) hne).trans (Below.heap_alloc w o b hb)
  · have hb' : g = b := by simpa [Value.ownBlock] using hb
    subst hb'
    rcases hl with h | h
    · exact .inl h
    · exact .inr (by omega)
/-- a block that the row does not own stays, and is still not the row's -/
theorem Ext.away {w w' : World} {v v' : Value} (h : Ext w v w' v') {g : Nat} (hg : g < w.heap.size) (hne : v.ownBlock ≠ some g) : w'.heap[g]? = w.heap[g]? ∧ v'.ownBlock ≠ some g := by
  refine ⟨h.grown.block g hg (fun e => hne e.symm), fun e => ?_⟩
  rcases h.own g e with h1 | h1
  · exact hne h1
  · omega
theorem Ext.below {w w' : World} {v v' : Value} (h : Ext w v w' v') {base : Nat} {l : Bs} (ho : OwnB w base v l) (hb : base ≤ w.heap.size) : Below base w w' :=
  ⟨h.grown.os, h.grown.tape, h.grown.output, h.grown.size, fun k hk => h.grown.block k (by omega) (fun e => by
    have := (World.ownsRow.lt ho k e.symm).1
    omega)⟩
theorem Ext.alloc {w w' : World} {v v' : Value} {o : Obj} (h : Ext (w.alloc o) v w' v') : Ext w v w' v' :=
  ⟨⟨h.grown.os, h.grown.tape, h.grown.output, Nat.le_trans (by simp) h.grown.size, fun b hb hne => (h.grown.block b (by simp; omega) hne).trans (Below.heap_alloc w o b hb)⟩, fun k hk => by
    rcases h.own k hk with h1 | h1
    · exact .inl h1
    · exact .inr (by simp at h1; omega)⟩

/-- append(b, s...) onto an owned row that is no nil: where the row then lies -/
theorem run_own_str {P : Program} (w : World) (base : Nat) (t u ty e : TypeId) (i : TypeInfo) (ht : P.underlying t = some (.slice e)) (hu : P.underlying u = some .string) (hi : P.info? e = some i) (hz : i.zero = some (.int .u8 0))
    (hsize : i.size = 1) (hby : i.bytes = 1) (g n cap : Nat) (xs : List Value) (hown : w.ownsRow base e 1 (.slice (some ⟨g, 0, none⟩) n cap) n xs) (s : ByteArray)
    (h63 : n + s.size ≤ maxLen) (hbytes : n + s.size ≤ 140737488355328) (hbase : base ≤ w.heap.size) :
    ∃ v' w', (Builtin.append_ #[t, u] ty #[.slice (some ⟨g, 0, none⟩) n cap, .string s]).run P w = .ok v' w' ∧ w'.ownsRow base e 1 v' (n + s.size) (xs ++ Lib.strCells s) ∧ w.grownBy w' (some g) ∧
      (v'.ownBlock = some g ∨ v'.ownBlock = some w.heap.size) := by
  obtain ⟨v', w', hr, h2, h3, _⟩ := Lib.run_append_own_string (P := P) w base t u ty e i ht hu hi hz hsize hby _ n xs hown s h63 hbytes hbase
  refine ⟨v', w', hr, h2, h3, ?_⟩
  have hsmall : n + s.size ≤ 9223372036854775807 := by simp only [maxLen] at h63; omega
  have hxl : xs.length = n := by simpa using hown.1
  rcases hown.2 with ⟨h, _⟩ | ⟨g', cap', cur, h, hbg, hg, hnc, hcm, hcs, htake⟩
  · cases h
  · injection h with h h' h''
    injection h with h
    injection h with h
    subst h h''
    by_cases hroom : n + s.size ≤ cap
    · have hcs' : cur.size = cap := by simpa using hcs
      have hq := Lib.run_append_room_string (P := P) w t u ty e i ht hu hi hsize g n cap cur hg s hroom (by omega)
      rw [hq] at hr
      injection hr with hv hw
      exact .inl (by rw [← hv]; rfl)
    · have holds : ∀ j u, xs[j]? = some u → w.cell? ((⟨g, 0, none⟩ : Addr).add j) = some u := hown.cells (g := g) rfl
      have hq := Lib.run_append_grow_string (P := P) w t u ty e i (.int .u8 0) ht hu hi hz ⟨g, 0, none⟩ n cap xs (by rw [hsize]; simpa using hxl) holds s (by omega) (by omega) (by rw [hby]; exact growslice_fits (by omega) (by omega))
      rw [hq] at hr
      injection hr with hv hw
      exact .inr (by rw [← hv]; rfl)
theorem wpList_own_str {P : Program} {w : World} {ops : Array Oper} {rest : List Oper} {o : Oper} {a : Act} {Q : Exit → Act → World → Prop} (hgd : o.guard = none) (sl x : Operand) (t u : TypeId)
    (ho : o.op = .call { callee := .builtin .append, args := #[sl, x], argTypes := #[t, u] })
    (base : Nat) (e : TypeId) (i : TypeInfo) (ht : P.underlying t = some (.slice e)) (hu : P.underlying u = some .string) (hi : P.info? e = some i) (hz : i.zero = some (.int .u8 0))
    (hsize : i.size = 1) (hby : i.bytes = 1)
    (g n cap : Nat) (xs : List Value) (hs : a.eval sl = .slice (some ⟨g, 0, none⟩) n cap) (hown : w.ownsRow base e 1 (.slice (some ⟨g, 0, none⟩) n cap) n xs) (s : ByteArray) (hx : a.eval x = .string s)
    (h63 : n + s.size ≤ maxLen) (hbytes : n + s.size ≤ 140737488355328) (hbase : base ≤ w.heap.size)
    (h : ∀ v' w', w'.ownsRow base e 1 v' (n + s.size) (xs ++ Lib.strCells s) → w.grownBy w' (some g) → (v'.ownBlock = some g ∨ v'.ownBlock = some w.heap.size) → wpList P ops Q rest (a.put o.dst v') w') : wpList P ops Q (o :: rest) a w := by
  refine wpList_plain hgd fun K hK => ?_
  obtain ⟨v', w', hr, h2, h3, h4⟩ := run_own_str (P := P) w base t u o.type e i ht hu hi hz hsize hby g n cap xs hown s h63 hbytes hbase
  unfold Oper.wp execOp
  simp only [ho, resolve, invoke, builtin, Sem.run_bind, Sem.run_pure, Result.andThen_ok, List.map_toArray, List.map_cons, List.map_nil, hs, hx, hr]
  exact hK _ _ (h v' w' h2 h3 h4)
theorem Ext.spread {w w1 : World} {g n cap : Nat} {v' : Value} (hg : w.grownBy w1 (some g)) (hl : v'.ownBlock = some g ∨ v'.ownBlock = some w.heap.size) : Ext w (.slice (some ⟨g, 0, none⟩) n cap) w1 v' := by
  refine ⟨hg, fun b hb => ?_⟩
  rcases hl with h | h
  · exact .inl (by rw [← hb, h]; rfl)
  · rw [h] at hb
    injection hb with hb
    exact .inr (by omega)

set_option maxHeartbeats 2000000 in
set_option maxRecDepth 100000 in
theorem number_any (n : Int) (c : Nat) (v : Value) (l : Bs) (w : World) (base : Nat) (ho : OwnB w base v l) (hb : base ≤ w.heap.size) (hl : l.length < 4294967281) (hc : c ≤ 4) :
    Calls Tryz.prog 32 #[v, .int .i64 n, .int .i64 c] w fun e w' => ∃ v', e = .returned v' ∧ OwnB w' base v' (l ++ numB n c) ∧ Ext w v w' v' := by
  obtain ⟨i0, hi, hz0, hz1, hz2⟩ := info_parts infoU8
  have HO := Lib.hid ho
  clear ho
  go_enter Tryz.func32, Tryz.ntmps32
  go_wp2
  go_loopw [0, 9] (fun lv iv wr => ∃ k : Nat, k ≤ c ∧ iv = .int .i64 k ∧ Hid (OwnB wr base lv (l ++ numB n k)) ∧ Hid (Ext w v wr lv)) (fun _ iv _ => c - (intOf iv).toNat)
  case atStart => exact ⟨0, Nat.zero_le _, rfl, Lib.hid (by rw [show numB n 0 = [] from rfl, List.append_nil]; exact HO.out), Lib.hid (Ext.refl _ _)⟩
  case round =>
    obtain ⟨k, hk, rfl, hown, hext⟩ := hrel
    by_cases hlt : k < c
    · have HL0 := (show (l ++ numB n k).length = l.length + k by rw [List.length_append, numB_length])
      obtain ⟨L, hL⟩ : ∃ L, l ++ numB n k = L := ⟨_, rfl⟩
      rw [hL] at hown HL0
      have HL := Lib.hid HL0
      have HLe := Lib.hid hL
      clear HL0 hL
      have HS := Lib.hid (numB_succ n k)
      have HK := Lib.hid (show k < 4 by omega)
      go_wp2_with (at_builtin; refine wpList_append_lies _ rfl _ _ 58 rfl base 5 i0 (.int .u8 0) 1 1 Tryz.underlying58 hi hz0 hz1 hz2 rfl (by decide) _ _ _ rfl (hown.out.alloc _) ⟨wr.heap.size, 0, none⟩ 1 1 [.int .u8 (n / 2 ^ (8 * k) % 256)] rfl rfl (cell_one_new _ _ _) (one_u8 _) (by decide) (by have := HL.out; have := HK.out; unfold maxLen; omega) (by have := HL.out; have := HK.out; omega) (by have := hext.out.grown.size; simp; omega) (wr.heap.size + 1) (by simp) ?_; intro g cap w1 hown1 hgrow hat hlt1)
      have he2 := hext.out.trans (Ext.push (n := L.length + 1) (cap := cap) hgrow hat)
      have ho2 := Lib.hid hown1
      clear hown1 hgrow hat
      go_roundw
      case rel => exact ⟨k + 1, by omega, by go_num, Lib.hid (by
        rw [HS.out, ← List.append_assoc, HLe.out]
        refine OwnB.of ?_
        rw [byteOf_int]
        exact ho2.out), Lib.hid he2⟩
      case measure => simp [intOf]; omega
    · go_wp2
      go_ret
      refine ⟨_, rfl, ?_, hext.out⟩
      rw [show c = k by omega]
      exact hown.out

set_option maxHeartbeats 2000000 in
set_option maxRecDepth 100000 in
theorem text_any (s : ByteArray) (v : Value) (l : Bs) (w : World) (base : Nat) (ho : OwnB w base v l) (hb : base ≤ w.heap.size) (hl : l.length < 4294967281) (hs : s.size ≤ 100) :
    Calls Tryz.prog 33 #[v, .string s] w fun e w' => ∃ v', e = .returned v' ∧ OwnB w' base v' (l ++ textB s.data.toList) ∧ Ext w v w' v' := by
  obtain ⟨i0, hi, hz0, hz1, hz2⟩ := info_parts infoU8
  have HO := Lib.hid ho
  clear ho
  go_enter Tryz.func33, Tryz.ntmps33
  have hsl : s.data.toList.length = s.size := Array.length_toList
  have Hs8 : Hid ((((Mailsack.byteOf (s.data.toList.length : Int)).toNat : Int)) = (s.size : Int)) := Lib.hid (by rw [hsl, byteOf_int]; omega)
  have Hsl := Lib.hid hsl
  clear hsl
  go_wp2_with (first | (at_builtin; refine wpList_append_lies _ rfl _ _ 58 rfl base 5 i0 (.int .u8 0) 1 1 Tryz.underlying58 hi hz0 hz1 hz2 rfl (by decide) _ _ _ rfl (HO.out.alloc _) ⟨w.heap.size, 0, none⟩ 1 1 [.int .u8 (s.size : Int)] rfl rfl (cell_one_new _ _ _) (one_u8 _) (by decide) (by unfold maxLen; omega) (by omega) (by simp; omega) (w.heap.size + 1) (by simp) ?_; intro g cap w1 hown1 hgrow hat hlt1; have HE := Lib.hid (Ext.push (n := l.length + 1) (cap := cap) hgrow hat); have HO1 := Lib.hid hown1; clear hown1 hgrow hat hlt1) | (at_builtin; refine wpList_own_str rfl _ _ 58 9 rfl base 5 i0 Tryz.underlying58 Tryz.underlying9 hi hz0 hz1 hz2 g _ cap _ rfl HO1.out s rfl (by unfold maxLen; omega) (by omega) (by have := HE.out.grown.size; omega) ?_; intro v2 w2 hown2 hgrow2 hat2; have HE2 := Lib.hid (HE.out.trans (Ext.spread (n := l.length + 1) (cap := cap) hgrow2 hat2)); have HO2 := Lib.hid hown2; clear hown2 hgrow2 hat2))
  go_ret
  refine ⟨_, rfl, ?_, HE2.out⟩
  have h := HO2.out
  unfold OwnB
  rw [show (l ++ textB s.data.toList).length = l.length + 1 + s.size by unfold textB; rw [List.length_append, List.length_cons, Hsl.out]; omega]
  rw [show (l ++ textB s.data.toList).map (fun c => Value.int .u8 c.toNat) = l.map (fun c => Value.int .u8 c.toNat) ++ [.int .u8 (s.size : Int)] ++ Lib.strCells s by
    unfold textB Lib.strCells
    rw [List.map_append, List.map_cons, Hs8.out, List.append_assoc]
    rfl]
  exact h
end Go.Proofs.YtiapdhllphcnnaaGreatDoor.IX

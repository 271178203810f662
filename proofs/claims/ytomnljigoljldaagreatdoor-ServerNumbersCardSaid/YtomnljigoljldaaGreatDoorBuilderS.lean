/- What the writing methods of a strings.Builder that the call has made do: copyCheck and WriteByte, over this program. Conditions: as the kit's own contracts for Builder (after whose walk of copyCheck this one is turned). -/
/- What a strings.Builder's WriteString does, over this program. Conditions: as the kit's own contract (after whose walk this one is turned). -/
import Derived.Test.YtomnljigoljldaaGreatDoorMem
import Derived.Test.YtomnljigoljldaaGreatDoorShelf
import Derived.Lib.Builder
import Derived.Laws.Externs

namespace Go.Proofs.YtomnljigoljldaaGreatDoor.BU
open Go.RowKit MM

theorem sizeB : (Tryz.prog.info? 90).map (·.size) = some 2 := by kernel_rfl
theorem infoU8 : (Tryz.prog.info? 5).map (fun i => (i.zero, i.size, i.bytes)) = some (some (.int .u8 0), 1, 1) := by kernel_rfl

set_option maxHeartbeats 1000000 in
set_option maxRecDepth 100000 in
theorem copyCheck_used (b : Nat) (w : World) (h0 : w.cell? ⟨b, 0, none⟩ = some (.pointer (some ⟨b, 0, none⟩))) :
    Calls Tryz.prog 65 #[.pointer (some ⟨b, 0, none⟩)] w fun e w' => e = .returned (.tuple #[]) ∧ w' = w := by
  obtain ⟨j, hj, _⟩ := Option.map_eq_some_iff.1 sizeB
  go_enter Tryz.func65, Tryz.ntmps65
  go_wp2
  rw [Lib.run_neq_ptr_same w _ Tryz.underlying87 hj]
  go_wp2
  go_end0
  exact ⟨rfl, rfl⟩

set_option maxHeartbeats 1000000 in
set_option maxRecDepth 100000 in
theorem copyCheck_fresh (b : Nat) (w : World) (h0 : w.cell? ⟨b, 0, none⟩ = some (.pointer none)) (hsh : w.shape? b = some (90, 2)) (hfz : w.frozen? ⟨b, 0, none⟩ = false) :
    Calls Tryz.prog 65 #[.pointer (some ⟨b, 0, none⟩)] w fun e w' => e = .returned (.tuple #[]) ∧ w' = w.setCell ⟨b, 0, none⟩ (.pointer (some ⟨b, 0, none⟩)) := by
  obtain ⟨j, hj, hjs⟩ := Option.map_eq_some_iff.1 sizeB
  go_enter Tryz.func65, Tryz.ntmps65
  go_wp2
  rw [Lib.run_to_unsafe w ⟨b, 0, none⟩ Tryz.underlying87 Tryz.underlying217 hj (by rw [hjs]; decide) hsh (Nat.zero_lt_succ 1)]
  simp only [Result.andThen]
  rw [Oper.upon_value]
  go_wp2
  rw [run_callFunc_extern Tryz.func119 (by kernel_rfl) (by kernel_rfl) (by kernel_rfl) (e := Extern.AbiNoEscape.same) (by kernel_rfl)]
  rw [Lib.run_noEscape]
  simp only [Result.andThen]
  rw [Oper.upon_value]
  go_wp2
  rw [Lib.run_from_unsafe w ⟨b, 0, none⟩ Tryz.underlying217 Tryz.underlying87 hj hsh (by kernel_rfl)]
  simp only [Result.andThen]
  rw [Oper.upon_value]
  go_wp2
  go_end0
  exact ⟨rfl, rfl⟩

theorem copyCheck_any (B b : Nat) (bs : List Value) (w : World) (h : Lib.IsBuilder 90 5 B b bs w) :
    Calls Tryz.prog 65 #[.pointer (some ⟨b, 0, none⟩)] w fun e w' => e = .returned (.tuple #[]) ∧ (Lib.BuilderAt 90 5 B b (.pointer (some ⟨b, 0, none⟩)) bs w' ∧ Below B w w') := by
  rcases h with h | h
  · refine (copyCheck_fresh b w h.cell0 h.shape h.frozen0).mono ?_
    rintro e w' ⟨rfl, rfl⟩
    exact ⟨rfl, h.used _, (Below.refl B w).setCell (p := ⟨b, 0, none⟩) h.1 _⟩
  · refine (copyCheck_used b w h.cell0).mono ?_
    rintro e w' ⟨rfl, rfl⟩
    exact ⟨rfl, h, Below.refl B _⟩
/-- a builder that holds these bytes -/
abbrev Bld (B b : Nat) (l : List UInt8) (w : World) : Prop := Lib.IsBuilder 90 5 B b (Lib.byteCells l) w
theorem one_u8 (n : Int) : ∀ u ∈ [Value.int .u8 n], u.oneCell' = true := by
  intro u hu; rw [List.mem_singleton.1 hu]; rfl
theorem cells_snoc (l : List UInt8) (c : UInt8) : Lib.byteCells (l ++ [c]) = Lib.byteCells l ++ [.int .u8 c.toNat] := by simp [Lib.byteCells]
theorem cells_len (l : List UInt8) : (Lib.byteCells l).length = l.length := by simp [Lib.byteCells]

set_option maxHeartbeats 1000000 in
set_option maxRecDepth 100000 in
theorem writeByte_any (B b : Nat) (l : List UInt8) (c : UInt8) (w : World) (h : Bld B b l w) (hl : l.length ≤ 1000000000) (hB : B ≤ w.heap.size) :
    Calls Tryz.prog 299 #[.pointer (some ⟨b, 0, none⟩), .int .u8 c.toNat] w fun e w' => e = .returned .nilIface ∧ Bld B b (l ++ [c]) w' ∧ Below B w w' := by
  obtain ⟨i0, hi, hz0, hz1, hz2⟩ := info_parts infoU8
  have Hl := Lib.hid (cells_len l)
  go_enter Tryz.func299, Tryz.ntmps299
  go_wp2_with fail
  refine (copyCheck_any B b _ _ h).mono ?_
  rintro e w1 ⟨rfl, ⟨hBb, v, hbk, hown, hne⟩, hb1⟩
  have hown' := Lib.hid hown
  have Hne := Lib.hid hne
  have Hbk := Lib.hid hbk
  obtain ⟨A, cp, e9⟩ : ∃ A cp, v = .slice A (Lib.byteCells l).length cp := by
    rcases hown.2 with ⟨h1, h2⟩ | ⟨g, cap, cur, h1, _⟩
    · exact ⟨none, 0, by rw [h1, h2]⟩
    · exact ⟨_, _, h1⟩
  subst e9
  have k1 : w1.cell? ⟨b, 1, none⟩ = some (.slice A (Lib.byteCells l).length cp) := cell_blk hbk 1
  have hlt := blk_lt hbk
  have HB1 := Lib.hid hb1
  have hz := hb1.size
  clear hown hne hbk hb1
  go_wp2_with (at_builtin; refine wpList_append_lies _ rfl _ _ 88 rfl B 5 i0 (.int .u8 0) 1 1 Tryz.underlying88 hi hz0 hz1 hz2 rfl (by decide) _ _ _ rfl (World.ownsRow.alloc hown'.out _) ⟨w1.heap.size, 0, none⟩ 1 1 [.int .u8 c.toNat] rfl rfl (cell_one_new _ _ _) (one_u8 _) (by decide) (by have := Hl.out; unfold maxLen; omega) (by have := Hl.out; omega) (by simp; omega) (w1.heap.size + 1) (by simp) ?_; intro g cap w2 hown2 hgrow hat hlt2; have pk := Lib.hid (blk_grown (blk_alloc Hbk.out _) hgrow (fun e => Hne.out e.symm)); have k2 : w2.cell? ⟨b, 1, none⟩ = some (.slice A (Lib.byteCells l).length cp) := cell_blk pk.out 1; have y2 : w2.frozen? ⟨b, 1, none⟩ = false := free_blk pk.out 1; have Hown2 := Lib.hid hown2; have Hgrow := Lib.hid hgrow; clear hown2 hgrow)
  go_ret
  refine ⟨rfl, .inr ?_, ?_⟩
  · have hown3 : w2.ownsRow B 5 1 (.slice (some ⟨g, 0, none⟩) ((Lib.byteCells l).length + 1) cap) (Lib.byteCells (l ++ [c])).length (Lib.byteCells (l ++ [c])) := by
      rw [cells_snoc, List.length_append]; exact Hown2.out
    exact Lib.BuilderAt.put hBb pk.out hown3 (by decide)
  · refine Below.setCell ?_ (p := ⟨b, 1, none⟩) hBb _
    exact (HB1.out.alloc (Nat.le_trans hB hz) _).grown Hgrow.out (by simp; omega) (fun k hk => (World.ownsRow.lt hown'.out k hk).1)
end Go.Proofs.YtomnljigoljldaaGreatDoor.BU


namespace Go.Proofs.YtomnljigoljldaaGreatDoor.BU
open Go.RowKit MM

theorem cells_append (l k : List UInt8) : Lib.byteCells (l ++ k) = Lib.byteCells l ++ Lib.byteCells k := by simp [Lib.byteCells]
set_option maxHeartbeats 2000000 in
set_option maxRecDepth 100000 in
theorem writeString_any (B b : Nat) (l : List UInt8) (s : ByteArray) (w : World) (h : Bld B b l w) (hl : l.length + s.size ≤ 1000000000) (hB : B ≤ w.heap.size) :
    Calls Tryz.prog 34 #[.pointer (some ⟨b, 0, none⟩), .string s] w fun e w' => e = .returned (.tuple #[.int .i64 s.size, .nilIface]) ∧ Bld B b (l ++ s.data.toList) w' ∧ Below B w w' := by
  obtain ⟨i0, hi, hz0, hz1, hz2⟩ := info_parts infoU8
  have Hl := Lib.hid (cells_len l)
  go_enter Tryz.func34, Tryz.ntmps34
  go_wp2_with fail
  refine (copyCheck_any B b _ _ h).mono ?_
  rintro e w1 ⟨rfl, ⟨hBb, v, hbk, hown, hne⟩, hb1⟩
  have Hown := Lib.hid hown
  have Hne := Lib.hid hne
  have Hbk := Lib.hid hbk
  have k1 : w1.cell? ⟨b, 1, none⟩ = some v := cell_blk hbk 1
  have hlt := blk_lt hbk
  have HB1 := Lib.hid hb1
  have hz := hb1.size
  clear hown hne hbk hb1
  go_wp2_with (at_builtin; refine Lib.wpList_append_own_string _ rfl _ _ 88 9 rfl B 5 i0 Tryz.underlying88 Tryz.underlying9 hi hz0 hz1 hz2 _ _ _ rfl Hown.out s rfl ?c3 ?c4 ?c5 ?_)
  case c3 => have := Hl.out; unfold maxLen; omega
  case c4 => have := Hl.out; omega
  case c5 => omega
  intro v' w2 hown' hgrow _
  have pk := Lib.hid (blk_grown Hbk.out hgrow (fun e => Hne.out e.symm))
  have k2 : w2.cell? ⟨b, 1, none⟩ = some v := cell_blk pk.out 1
  have y2 : w2.frozen? ⟨b, 1, none⟩ = false := free_blk pk.out 1
  obtain ⟨ao, n', cap, rfl⟩ : ∃ ao n' cap, v' = .slice ao n' cap := by
    rcases hown'.2 with ⟨hv, _⟩ | ⟨g, cap, cur, hv, _⟩
    · exact ⟨_, _, _, hv⟩
    · exact ⟨_, _, _, hv⟩
  have Hown2 := Lib.hid hown'
  have Hgrow := Lib.hid hgrow
  clear hown' hgrow
  go_wp2
  go_ret2
  refine ⟨rfl, .inr ?_, ?_⟩
  · refine Lib.BuilderAt.put (T := 90) (e := 5) hBb pk.out (bs' := Lib.byteCells (l ++ s.data.toList)) ?_ (by decide)
    rw [cells_append, List.length_append]
    have := Hown2.out
    simpa [Lib.strCells, Lib.byteCells, Lib.strCells_length] using this
  · refine Below.setCell ?_ (p := ⟨b, 1, none⟩) hBb _
    exact HB1.out.grown Hgrow.out (by omega) (fun k hk => (World.ownsRow.lt Hown.out k hk).1)
end Go.Proofs.YtomnljigoljldaaGreatDoor.BU

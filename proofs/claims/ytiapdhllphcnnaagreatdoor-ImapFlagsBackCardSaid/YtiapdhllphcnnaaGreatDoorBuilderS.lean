/- What a strings.Builder's WriteString does, over this program. Conditions: as the kit's own contract (after whose walk this one is turned). -/
import Derived.Test.YtiapdhllphcnnaaGreatDoorBuilder
namespace Go.Proofs.YtiapdhllphcnnaaGreatDoor.BU
open Go.RowKit MM

theorem cells_append (l k : List UInt8) : Lib.byteCells (l ++ k) = Lib.byteCells l ++ Lib.byteCells k := by simp [Lib.byteCells]
set_option maxHeartbeats 2000000 in
set_option maxRecDepth 100000 in
theorem writeString_any (B b : Nat) (l : List UInt8) (s : ByteArray) (w : World) (h : Bld B b l w) (hl : l.length + s.size ≤ 1000000000) (hB : B ≤ w.heap.size) :
    Calls Tryz.prog 24 #[.pointer (some ⟨b, 0, none⟩), .string s] w fun e w' => e = .returned (.tuple #[.int .i64 s.size, .nilIface]) ∧ Bld B b (l ++ s.data.toList) w' ∧ Below B w w' := by
  obtain ⟨i0, hi, hz0, hz1, hz2⟩ := info_parts infoU8
  have Hl := Lib.hid (cells_len l)
  go_enter Tryz.func24, Tryz.ntmps24
  go_wp2_with fail
  refine (copyCheck_any B b _ _ h).mono ?_
  rintro e w1 ⟨rfl, ⟨hBb, v, hbk, hown, hne⟩, hb1⟩
  have Hown := Lib.hid hown
  have Hne := Lib.hid hne
  have Hbk := Lib.hid hbk
  have k1 : w1.cell? ⟨b, 1, none⟩ = some v := cell_blk hbk 1
  have hlt := blk_lt hbk
  have HB1 := Lib.hid hb1
  have hz := hb1.size
  clear hown hne hbk hb1
  go_wp2_with (at_builtin; refine Lib.wpList_append_own_string _ rfl _ _ 58 9 rfl B 5 i0 Tryz.underlying58 Tryz.underlying9 hi hz0 hz1 hz2 _ _ _ rfl Hown.out s rfl ?c3 ?c4 ?c5 ?_)
  case c3 => have := Hl.out; unfold maxLen; omega
  case c4 => have := Hl.out; omega
  case c5 => omega
  intro v' w2 hown' hgrow _
  have pk := Lib.hid (blk_grown Hbk.out hgrow (fun e => Hne.out e.symm))
  have k2 : w2.cell? ⟨b, 1, none⟩ = some v := cell_blk pk.out 1
  have y2 : w2.frozen? ⟨b, 1, none⟩ = false := free_blk pk.out 1
  obtain ⟨ao, n', cap, rfl⟩ : ∃ ao n' cap, v' = .slice ao n' cap := by
    rcases hown'.2 with ⟨hv, _⟩ | ⟨g, cap, cur, hv, _⟩
    · exact ⟨_, _, _, hv⟩
    · exact ⟨_, _, _, hv⟩
  have Hown2 := Lib.hid hown'
  have Hgrow := Lib.hid hgrow
  clear hown' hgrow
  go_wp2
  go_ret2
  refine ⟨rfl, .inr ?_, ?_⟩
  · refine Lib.BuilderAt.put (T := 61) (e := 5) hBb pk.out (bs' := Lib.byteCells (l ++ s.data.toList)) ?_ (by decide)
    rw [cells_append, List.length_append]
    have := Hown2.out
    simpa [Lib.strCells, Lib.byteCells, Lib.strCells_length] using this
  · refine Below.setCell ?_ (p := ⟨b, 1, none⟩) hBb _
    exact HB1.out.grown Hgrow.out (by omega) (fun k hk => (World.ownsRow.lt Hown.out k hk).1)
end Go.Proofs.YtiapdhllphcnnaaGreatDoor.BU

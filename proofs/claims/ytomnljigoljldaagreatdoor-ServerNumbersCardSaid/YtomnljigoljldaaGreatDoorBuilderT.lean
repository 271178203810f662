/- What a strings.Builder's WriteString does, with the word that it turns its own block and blocks of bytes alone. Conditions: as the kit's own contract (after whose walk this one is turned). -/
import Derived.Test.YtomnljigoljldaaGreatDoorBuilderS
namespace Go.Proofs.YtomnljigoljldaaGreatDoor.BU
open Go.RowKit MM

/-- all blocks stand but b and blocks of bytes -/
def ByT (b : Nat) (w w' : World) : Prop := ∀ i o, w.heap[i]? = some o → i ≠ b → (∀ cs fr, o ≠ .cells cs 5 fr) → w'.heap[i]? = some o
theorem copyCheckT_any (B b : Nat) (bs : List Value) (w : World) (h : Lib.IsBuilder 90 5 B b bs w) :
    Calls Tryz.prog 65 #[.pointer (some ⟨b, 0, none⟩)] w fun e w' => e = .returned (.tuple #[]) ∧ (Lib.BuilderAt 90 5 B b (.pointer (some ⟨b, 0, none⟩)) bs w' ∧ Below B w w' ∧ ∀ i, i ≠ b → w'.heap[i]? = w.heap[i]?) := by
  rcases h with h | h
  · refine (copyCheck_fresh b w h.cell0 h.shape h.frozen0).mono ?_
    rintro e w' ⟨rfl, rfl⟩
    exact ⟨rfl, h.used _, (Below.refl B w).setCell (p := ⟨b, 0, none⟩) h.1 _, fun i hi => Below.heap_setCell w ⟨b, 0, none⟩ _ i hi⟩
  · refine (copyCheck_used b w h.cell0).mono ?_
    rintro e w' ⟨rfl, rfl⟩
    exact ⟨rfl, h, Below.refl B _, fun _ _ => rfl⟩
set_option maxHeartbeats 2000000 in
set_option maxRecDepth 100000 in
theorem writeStringT_any (B b : Nat) (l : List UInt8) (s : ByteArray) (w : World) (h : Bld B b l w) (hl : l.length + s.size ≤ 1000000000) (hB : B ≤ w.heap.size) :
    Calls Tryz.prog 34 #[.pointer (some ⟨b, 0, none⟩), .string s] w fun e w' => e = .returned (.tuple #[.int .i64 s.size, .nilIface]) ∧ Bld B b (l ++ s.data.toList) w' ∧ Below B w w' ∧ ByT b w w' := by
  obtain ⟨i0, hi, hz0, hz1, hz2⟩ := info_parts infoU8
  have Hl := Lib.hid (cells_len l)
  go_enter Tryz.func34, Tryz.ntmps34
  go_wp2_with fail
  refine (copyCheckT_any B b _ _ h).mono ?_
  rintro e w1 ⟨rfl, ⟨hBb, v, hbk, hown, hne⟩, hb1, hby⟩
  have Hown := Lib.hid hown
  have Hne := Lib.hid hne
  have Hbk := Lib.hid hbk
  have Hby := Lib.hid hby
  have k1 : w1.cell? ⟨b, 1, none⟩ = some v := cell_blk hbk 1
  have hlt := blk_lt hbk
  have HB1 := Lib.hid hb1
  have hz := hb1.size
  clear hown hne hbk hb1 hby
  go_wp2_with (at_builtin; refine Lib.wpList_append_own_string _ rfl _ _ 88 9 rfl B 5 i0 Tryz.underlying88 Tryz.underlying9 hi hz0 hz1 hz2 _ _ _ rfl Hown.out s rfl ?c3 ?c4 ?c5 ?_)
  case c3 => have := Hl.out; unfold maxLen; omega
  case c4 => have := Hl.out; omega
  case c5 => omega
  intro v' w2 hown' hgrow _
  have pk := Lib.hid (blk_grown Hbk.out hgrow (fun e => Hne.out e.symm))
  have k2 : w2.cell? ⟨b, 1, none⟩ = some v := cell_blk pk.out 1
  have y2 : w2.frozen? ⟨b, 1, none⟩ = false := free_blk pk.out 1
  obtain ⟨ao, n', cap, rfl⟩ : ∃ ao n' cap, v' = .slice ao n' cap := by
    rcases hown'.2 with ⟨hv, _⟩ | ⟨g, cap, cur, hv, _⟩
    · exact ⟨_, _, _, hv⟩
    · exact ⟨_, _, _, hv⟩
  have Hown2 := Lib.hid hown'
  have Hgrow := Lib.hid hgrow
  clear hown' hgrow
  go_wp2
  go_ret2
  refine ⟨rfl, .inr ?_, ?_, fun i o ho hib hty => ?_⟩
  · refine Lib.BuilderAt.put (T := 90) (e := 5) hBb pk.out (bs' := Lib.byteCells (l ++ s.data.toList)) ?_ (by decide)
    rw [cells_append, List.length_append]
    have := Hown2.out
    simpa [Lib.strCells, Lib.byteCells, Lib.strCells_length] using this
  · refine Below.setCell ?_ (p := ⟨b, 1, none⟩) hBb _
    exact HB1.out.grown Hgrow.out (by omega) (fun k hk => (World.ownsRow.lt Hown.out k hk).1)
  · have h1 : w1.heap[i]? = some o := (Hby.out i hib).trans ho
    refine blk_far (blk_grown h1 Hgrow.out (fun e => ?_)) (p := ⟨b, 1, none⟩) hib _
    rcases Hown.out.2 with ⟨hv, _⟩ | ⟨g, cap, cur, hv, _, hg, _⟩
    · rw [hv] at e
      simp [Value.ownBlock] at e
    · rw [hv] at e
      have e' : i = g := by simpa [Value.ownBlock] using e
      subst e'
      rw [hg] at h1
      injection h1 with h1
      exact hty _ _ h1.symm
end Go.Proofs.YtomnljigoljldaaGreatDoor.BU

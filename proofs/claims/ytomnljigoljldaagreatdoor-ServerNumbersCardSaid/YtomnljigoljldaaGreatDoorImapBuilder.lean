/- What the methods of the strings.Builder inside a command of package imap do, over this program. Conditions: the builder's part of the command holds these bytes; lengths. -/
import Derived.Test.YtomnljigoljldaaGreatDoorBuilderS
import Derived.RegionTactic
namespace Go.Proofs.YtomnljigoljldaaGreatDoor.IM
open Go.RowKit MM BU

abbrev slf (b : Nat) : Value := .pointer (some ⟨b, 20, none⟩)
theorem sizeC : (Tryz.prog.info? 157).map (·.size) = some 22 := by kernel_rfl
theorem liesC : liesAt Tryz.prog Tryz.prog.depth 157 (22 / Tryz.prog.cellsOf 157) 20 90 1 = true := by kernel_rfl

/-- the block b is a command whose builder holds these bytes; its other cells are cs's -/
structure Cmd (b : Nat) (cs : Array Value) (l : List UInt8) (w : World) : Prop where
  blk : w.heap[b]? = some (.cells cs 157 (0, 0))
  size : cs.size = 22
  own : ∃ p v, cs[20]? = some p ∧ cs[21]? = some v ∧ (p = .pointer none ∨ p = slf b) ∧ w.ownsRow b 5 1 v l.length (Lib.byteCells l) ∧ v.ownBlock ≠ some b ∧ (l = [] → v = .slice none 0 0)

set_option maxHeartbeats 1000000 in
set_option maxRecDepth 100000 in
theorem copyCheckE_used (b : Nat) (w : World) (h0 : w.cell? ⟨b, 20, none⟩ = some (slf b)) :
    Calls Tryz.prog 65 #[slf b] w fun e w' => e = .returned (.tuple #[]) ∧ w' = w := by
  obtain ⟨j, hj, _⟩ := Option.map_eq_some_iff.1 sizeB
  go_enter Tryz.func65, Tryz.ntmps65
  go_wp2
  rw [Lib.run_neq_ptr_same w _ Tryz.underlying87 hj]
  go_wp2
  go_end0
  exact ⟨rfl, rfl⟩

set_option maxHeartbeats 1000000 in
set_option maxRecDepth 100000 in
theorem copyCheckE_fresh (b : Nat) (w : World) (h0 : w.cell? ⟨b, 20, none⟩ = some (.pointer none)) (hsh : w.shape? b = some (157, 22)) (hfz : w.frozen? ⟨b, 20, none⟩ = false) :
    Calls Tryz.prog 65 #[slf b] w fun e w' => e = .returned (.tuple #[]) ∧ w' = w.setCell ⟨b, 20, none⟩ (slf b) := by
  obtain ⟨j, hj, hjs⟩ := Option.map_eq_some_iff.1 sizeB
  go_enter Tryz.func65, Tryz.ntmps65
  go_wp2
  rw [Lib.run_to_unsafe w ⟨b, 20, none⟩ Tryz.underlying87 Tryz.underlying217 hj (by rw [hjs]; decide) hsh (show 20 < 22 by decide)]
  simp only [Result.andThen]
  rw [Oper.upon_value]
  go_wp2
  rw [run_callFunc_extern Tryz.func119 (by kernel_rfl) (by kernel_rfl) (by kernel_rfl) (e := Extern.AbiNoEscape.same) (by kernel_rfl)]
  rw [Lib.run_noEscape]
  simp only [Result.andThen]
  rw [Oper.upon_value]
  go_wp2
  rw [Lib.run_from_unsafe w ⟨b, 20, none⟩ Tryz.underlying217 Tryz.underlying87 hj hsh liesC]
  simp only [Result.andThen]
  rw [Oper.upon_value]
  go_wp2
  go_end0
  exact ⟨rfl, rfl⟩

theorem arr_set {cs : Array Value} {i : Nat} (h : cs.size = 22) (hi : i < 22) (u : Value) (j : Nat) : (cs.setIfInBounds i u)[j]? = if i = j then some u else cs[j]? := by
  rw [Array.getElem?_setIfInBounds]
  by_cases e : i = j
  · rw [if_pos e, if_pos e, if_pos (by omega)]
  · rw [if_neg e, if_neg e]

theorem copyCheckE_any (b : Nat) (cs : Array Value) (l : List UInt8) (w : World) (h : Cmd b cs l w) :
    Calls Tryz.prog 65 #[slf b] w fun e w' => e = .returned (.tuple #[]) ∧ Cmd b (cs.setIfInBounds 20 (slf b)) l w' ∧ (cs.setIfInBounds 20 (slf b))[20]? = some (slf b) ∧ Below b w w' := by
  obtain ⟨p, v, hp, hv, hor, hown, hne, hnil⟩ := h.own
  have h20 : (cs.setIfInBounds 20 (slf b))[20]? = some (slf b) := by rw [arr_set h.size (by decide), if_pos rfl]
  have h21 : (cs.setIfInBounds 20 (slf b))[21]? = some v := by rw [arr_set h.size (by decide), if_neg (by decide)]; exact hv
  rcases hor with rfl | rfl
  · have hsh : w.shape? b = some (157, 22) := by simp [World.shape?, h.blk, h.size]
    refine (copyCheckE_fresh b w ((cell_blk h.blk 20).trans hp) hsh (free_blk h.blk 20)).mono ?_
    rintro e w' ⟨rfl, rfl⟩
    refine ⟨rfl, ⟨blk_set h.blk 20 (slf b), by simp [h.size], slf b, v, h20, h21, .inr rfl, ?_, hne, hnil⟩, h20, (Below.refl b w).setCell (p := ⟨b, 20, none⟩) (Nat.le_refl _) _⟩
    refine ⟨hown.1, ?_⟩
    rcases hown.2 with hn | ⟨g, cap, cur, h1, h2, h3, h4⟩
    · exact .inl hn
    · exact .inr ⟨g, cap, cur, h1, h2, blk_far h3 (fun e => hne (by rw [h1]; exact congrArg some e)) _, h4⟩
  · refine (copyCheckE_used b w ((cell_blk h.blk 20).trans hp)).mono ?_
    rintro e w' ⟨rfl, rfl⟩
    have hcs : cs.setIfInBounds 20 (slf b) = cs := by
      apply Array.ext_getElem?
      intro j
      rw [arr_set h.size (by decide)]
      by_cases e : 20 = j
      · rw [if_pos e, ← e]; exact hp.symm
      · rw [if_neg e]
    rw [hcs]
    exact ⟨rfl, h, hp, Below.refl b _⟩

set_option maxHeartbeats 2000000 in
set_option maxRecDepth 100000 in
theorem writeStringE_any (b : Nat) (cs : Array Value) (l : List UInt8) (s : ByteArray) (w : World) (h : Cmd b cs l w) (hl : l.length + s.size ≤ 1000000000) (hs : 0 < s.size) :
    Calls Tryz.prog 34 #[slf b, .string s] w fun e w' => e = .returned (.tuple #[.int .i64 s.size, .nilIface]) ∧ ∃ v, Cmd b ((cs.setIfInBounds 20 (slf b)).setIfInBounds 21 v) (l ++ s.data.toList) w' ∧ Below b w w' := by
  obtain ⟨i0, hi, hz0, hz1, hz2⟩ := info_parts infoU8
  have Hl := Lib.hid (cells_len l)
  go_enter Tryz.func34, Tryz.ntmps34
  go_wp2_with fail
  refine (copyCheckE_any b cs l _ h).mono ?_
  rintro e w1 ⟨rfl, ⟨hbk, hsz, p, v, hp, hv, hor, hown, hne, hnil⟩, h20, hb1⟩
  have Hown := Lib.hid hown
  have Hne := Lib.hid hne
  have Hbk := Lib.hid hbk
  have k1 : w1.cell? ⟨b, 21, none⟩ = some v := (cell_blk hbk 21).trans hv
  have hlt := blk_lt hbk
  have HB1 := Lib.hid hb1
  have hz := hb1.size
  have Hsz := Lib.hid hsz
  have H20 := Lib.hid h20
  clear hown hne hbk hb1 hp hv hor hnil hsz h20
  go_wp2_with (at_builtin; refine Lib.wpList_append_own_string _ rfl _ _ 88 9 rfl b 5 i0 Tryz.underlying88 Tryz.underlying9 hi hz0 hz1 hz2 _ _ _ rfl Hown.out s rfl ?c3 ?c4 ?c5 ?_)
  case c3 => have := Hl.out; unfold maxLen; omega
  case c4 => have := Hl.out; omega
  case c5 => omega
  intro v' w2 hown' hgrow _
  have pk := Lib.hid (blk_grown Hbk.out hgrow (fun e => Hne.out e.symm))
  have k2 : w2.cell? ⟨b, 21, none⟩ = some v := (cell_blk pk.out 21).trans ((cell_blk Hbk.out 21).symm.trans k1)
  have y2 : w2.frozen? ⟨b, 21, none⟩ = false := free_blk pk.out 21
  obtain ⟨ao, n', cap, rfl, hob⟩ : ∃ ao n' cap, v' = .slice ao n' cap ∧ v'.ownBlock ≠ some b := by
    rcases hown'.2 with ⟨hv, _⟩ | ⟨g, cap, cur, hv, hg1, hg2, _⟩
    · exact ⟨_, _, _, hv, by rw [hv]; simp [Value.ownBlock]⟩
    · refine ⟨_, _, _, hv, ?_⟩
      rw [hv]
      intro e
      have e' : g = b := by simpa [Value.ownBlock] using e
      subst e'
      have := pk.out.symm.trans hg2
      injection this with this
      injection this with h1 h2
      exact absurd h2 (by decide)
  have Hown2 := Lib.hid hown'
  have Hgrow := Lib.hid hgrow
  have Hob := Lib.hid hob
  clear hown' hgrow hob
  go_wp2
  go_ret2
  refine ⟨rfl, _, ⟨blk_set pk.out 21 _, by simpa using Hsz.out, slf b, _, ?_, ?_, .inr rfl, ?_, Hob.out, ?_⟩, ?_⟩
  · rw [arr_set Hsz.out (by decide), if_neg (by decide)]; exact H20.out
  · rw [arr_set Hsz.out (by decide), if_pos rfl]
  · have hss : s.data.toList.length = s.size := Array.length_toList
    have h4 : w2.ownsRow b 5 1 (.slice ao n' cap) (l ++ s.data.toList).length (Lib.byteCells (l ++ s.data.toList)) := by
      rw [cells_append, List.length_append, hss]
      exact Hown2.out
    refine ⟨h4.1, ?_⟩
    rcases h4.2 with hn | ⟨g, cap, cur, h1, h2, h3, h5⟩
    · exact .inl hn
    · exact .inr ⟨g, cap, cur, h1, h2, blk_far h3 (fun e => Hob.out (by rw [h1]; exact congrArg some e)) _, h5⟩
  · intro e
    have := congrArg List.length e
    rw [List.length_append] at this
    have hss : s.data.toList.length = s.size := Array.length_toList
    have h0 : l.length + s.data.toList.length = 0 := this
    omega
  · refine Below.setCell ?_ (p := ⟨b, 21, none⟩) (Nat.le_refl _) _
    exact HB1.out.grown Hgrow.out (by omega) (fun k hk => (World.ownsRow.lt Hown.out k hk).1)

theorem unsafeString_none' (W : World) (q : Option Addr) : (Builtin.unsafeString_ #[147, 3] 9 #[.pointer q, .int .i64 0]).run Tryz.prog W = .ok (.string .empty) W :=
  Lib.run_unsafeString_none W _ _ _ q
set_option maxHeartbeats 2000000 in
set_option maxRecDepth 100000 in
theorem stringE_nil (b : Nat) (w : World) (h1 : w.cell? ⟨b, 21, none⟩ = some (.slice none 0 0)) :
    Calls Tryz.prog 36 #[slf b] w fun e w' => e = .returned (.string ⟨#[]⟩) ∧ w' = w.drew := by
  have hUS := unsafeString_none'
  have c1 : w.drew.cell? ⟨b, 21, none⟩ = some (.slice none 0 0) := h1
  have hSD : (Builtin.unsafeSliceData_ #[88] 147 #[.slice none 0 0]).run Tryz.prog w.drew = .ok (.pointer none) w.drew := rfl
  go_enter Tryz.func36, Tryz.ntmps36
  go_wp2
  go_region
  all_goals (go_wp2; go_ret; exact ⟨rfl, rfl⟩)
set_option maxHeartbeats 2000000 in
set_option maxRecDepth 100000 in
theorem stringE_row (b g cap : Nat) (cur : Array Value) (l : List UInt8) (w : World) (h1 : w.cell? ⟨b, 21, none⟩ = some (.slice (some ⟨g, 0, none⟩) l.length cap)) (h0 : l ≠ [])
    (hg : w.heap[g]? = some (.cells cur 5 (0, 0))) (hnc : l.length ≤ cap) (hcm : cap ≤ maxLen) (hcs : cur.size = cap * 1) (htake : cur.toList.take (l.length * 1) = Lib.byteCells l) :
    Calls Tryz.prog 36 #[slf b] w fun e w' => e = .returned (.string ⟨l.toArray⟩) ∧ w' = w.drew.freeze ⟨g, 0, none⟩ l.length := by
  have hl0 : l.length ≠ 0 := by simpa using h0
  have c1 : w.drew.cell? ⟨b, 21, none⟩ = some (.slice (some ⟨g, 0, none⟩) l.length cap) := h1
  have hSD : (Builtin.unsafeSliceData_ #[88] 147 #[.slice (some ⟨g, 0, none⟩) l.length cap]).run Tryz.prog w.drew = .ok (.pointer (some ⟨g, 0, none⟩)) w.drew :=
    Lib.run_unsafeSliceData_row _ _ _ _ _ _ (by omega)
  have hUS : (Builtin.unsafeString_ #[147, 3] 9 #[.pointer (some ⟨g, 0, none⟩), .int .i64 l.length]).run Tryz.prog w.drew = .ok (.string ⟨l.toArray⟩) (w.drew.freeze ⟨g, 0, none⟩ l.length) := by
    refine Lib.run_unsafeString_row w.drew 147 3 9 5 Tryz.underlying147 (by kernel_rfl) g cur.size (by have hg' : w.drew.heap[g]? = some (.cells cur 5 (0, 0)) := hg; simp [World.shape?, hg']) l h0 (by omega) (by unfold maxLen at hcm; omega) ?_
    intro j x hx
    have hg' : w.drew.heap[g]? = some (.cells cur 5 (0, 0)) := hg
    have hadd : (⟨g, 0, none⟩ : Addr).add j = ⟨g, j, none⟩ := by unfold Addr.add; split <;> simp_all
    first | rw [hadd] | skip
    rw [cell_blk hg' j]
    have hj : j < l.length := (List.getElem?_eq_some_iff.1 hx).1
    have h3 : (cur.toList.take (l.length * 1))[j]? = some (.int .u8 x.toNat) := by rw [htake]; simp [Lib.byteCells, hx]
    rw [List.getElem?_take] at h3
    rw [if_pos (by omega)] at h3
    simpa using h3
  go_enter Tryz.func36, Tryz.ntmps36
  go_wp2
  go_region
  all_goals (go_wp2; go_ret; exact ⟨rfl, rfl⟩)
theorem freeze_far {w : World} {g b : Nat} (h : g ≠ b) (n : Nat) : (w.freeze ⟨g, 0, none⟩ n).heap[b]? = w.heap[b]? := by
  unfold World.freeze
  split
  · rfl
  · simp only [Array.getElem?_modify]
    rw [if_neg h]
/-- String: whatever the builder holds -/
theorem stringE_any (b : Nat) (cs : Array Value) (l : List UInt8) (w : World) (h : Cmd b cs l w) :
    Calls Tryz.prog 36 #[slf b] w fun e w' => e = .returned (.string ⟨l.toArray⟩) ∧ Below b w w' ∧ w'.heap[b]? = w.heap[b]? := by
  obtain ⟨p, v, hp, hv, _, hown, hne, hnil⟩ := h.own
  have k1 : w.cell? ⟨b, 21, none⟩ = some v := (cell_blk h.blk 21).trans hv
  by_cases h0 : l = []
  · subst h0
    rw [hnil rfl] at k1
    refine (stringE_nil b w k1).mono ?_
    rintro e w' ⟨rfl, rfl⟩
    exact ⟨rfl, Below.drew (Below.refl b w), rfl⟩
  · rcases hown.2 with ⟨_, hz⟩ | ⟨g, cap, cur, h1, h2, h3, h4, h5, h6, h7⟩
    · exact absurd (List.eq_nil_of_length_eq_zero hz) h0
    · rw [h1] at k1 hne
      refine (stringE_row b g cap cur l w k1 h0 h3 h4 h5 h6 h7).mono ?_
      rintro e w' ⟨rfl, rfl⟩
      refine ⟨rfl, Lib.below_freeze (Below.drew (Below.refl b w)) (p := ⟨g, 0, none⟩) h2 _, ?_⟩
      exact freeze_far (fun e => hne (congrArg some e)) _
end Go.Proofs.YtomnljigoljldaaGreatDoor.IM

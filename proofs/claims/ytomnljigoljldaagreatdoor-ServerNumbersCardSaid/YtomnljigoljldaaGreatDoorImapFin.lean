/- The memory at the end of imap.Do, while its results are laid down in whatever order. No conditions but those stated. -/
import Derived.Test.YtomnljigoljldaaGreatDoorImapCmds
import Derived.Test.YtomnljigoljldaaGreatDoorImapTable
import Derived.Test.YtomnljigoljldaaGreatDoorRegL
namespace Go.Proofs.YtomnljigoljldaaGreatDoor.IM
open Go.RowKit MM BU Mailsack

abbrev dskO (a b : Value) : Obj := .cells #[a, b] 44
abbrev staO (s0 s1 s2 s3 s4 s5 s6 s7 s8 s9 : Value) : Obj := .cells #[s0, s1, s2, s3, s4, s5, s6, s7, s8, s9] 64
abbrev drwO (n0 n1 n2 n3 n4 n5 : Value) : Obj := .cells #[n0, n1, n2, n3, n4, n5] 76
abbrev staZ : Obj := staO (.string ⟨#[]⟩) (.string ⟨#[]⟩) (.string ⟨#[]⟩) (.int .i64 0) (.slice none 0 0) (.slice none 0 0) (.int .i64 0) (.string ⟨#[]⟩) (.bool false) (.bool false)
theorem Cmd.setBelow {b : Nat} {cs : Array Value} {l : List UInt8} {w : World} (h : Cmd b cs l w) {p : Addr} (hp : p.block < b) (u : Value) : Cmd b cs l (w.setCell p u) := by
  obtain ⟨q, v, h1, h2, h3, h4, h5, h6⟩ := h.own
  exact ⟨blk_far h.blk (by omega) u, h.size, q, v, h1, h2, h3, ownsRow_setCell_below h4 hp u, h5, h6⟩
theorem Cmd.drewN {b : Nat} {cs : Array Value} {l : List UInt8} {w : World} (h : Cmd b cs l w) (n : Nat) : Cmd b cs l (w.drewN n) := by
  obtain ⟨q, v, h1, h2, h3, h4, h5, h6⟩ := h.own
  exact ⟨h.blk, h.size, q, v, h1, h2, h3, h4, h5, h6⟩
theorem Cmd.drew {b : Nat} {cs : Array Value} {l : List UInt8} {w : World} (h : Cmd b cs l w) : Cmd b cs l w.drew := by
  obtain ⟨q, v, h1, h2, h3, h4, h5, h6⟩ := h.own
  exact ⟨h.blk, h.size, q, v, h1, h2, h3, h4, h5, h6⟩

/-- called: the builder's text has been taken; st1, st2: the disk, the state have been laid down -/
structure FinI (w : World) (b g4 g5 : Nat) (cs : Array Value) (l : List UInt8) (called st1 st2 : Bool) (o4 o5 : Obj) (W : World) : Prop where
  bel : Below w.heap.size w W
  cmd : W.heap[b]? = some (.cells cs 157 (0, 0))
  bld : called = false → Cmd b cs l W
  r4 : W.heap[g4]? = some (if st1 then o4 else dskO (.slice none 0 0) (.slice none 0 0))
  r5 : W.heap[g5]? = some (if st2 then o5 else staZ)
theorem FinI.drew {w : World} {b g4 g5 : Nat} {cs : Array Value} {l : List UInt8} {c s1 s2 : Bool} {o4 o5 : Obj} {W : World} (h : FinI w b g4 g5 cs l c s1 s2 o4 o5 W) : FinI w b g4 g5 cs l c s1 s2 o4 o5 W.drew :=
  ⟨h.bel.drew, h.cmd, fun e => (h.bld e).drew, h.r4, h.r5⟩
theorem FinI.call {w : World} {b g4 g5 : Nat} {cs : Array Value} {l : List UInt8} {c s1 s2 : Bool} {o4 o5 : Obj} {W W' : World} (h : FinI w b g4 g5 cs l c s1 s2 o4 o5 W) (hb : Below b W W') (he : W'.heap[b]? = W.heap[b]?) (h4 : g4 < b) (h5 : g5 < b) (hw : w.heap.size ≤ b) :
    FinI w b g4 g5 cs l true s1 s2 o4 o5 W' :=
  ⟨h.bel.trans (hb.mono hw), he.trans h.cmd, fun e => (by cases e), blk_below h.r4 hb h4, blk_below h.r5 hb h5⟩
theorem FinI.st1 {w : World} {b g4 g5 : Nat} {cs : Array Value} {l : List UInt8} {c s2 : Bool} {a0 a1 : Value} {o5 : Obj} {W : World} (h : FinI w b g4 g5 cs l c false s2 (dskO a0 a1) o5 W) (h4 : g4 < b) (hne : g5 ≠ g4) (hw : w.heap.size ≤ g4) :
    FinI w b g4 g5 cs l c true s2 (dskO a0 a1) o5 ((W.setCell ⟨g4, 0, none⟩ a0).setCell ⟨g4, 1, none⟩ a1) := by
  refine ⟨(h.bel.setCell (p := ⟨g4, 0, none⟩) hw _).setCell (p := ⟨g4, 1, none⟩) hw _, blk_far (blk_far h.cmd (p := ⟨g4, 0, none⟩) (by simp; omega) _) (p := ⟨g4, 1, none⟩) (by simp; omega) _,
    fun e => ((h.bld e).setBelow (p := ⟨g4, 0, none⟩) h4 _).setBelow (p := ⟨g4, 1, none⟩) h4 _, ?_, blk_far (blk_far h.r5 (p := ⟨g4, 0, none⟩) hne _) (p := ⟨g4, 1, none⟩) hne _⟩
  have r := h.r4
  rw [if_neg (by simp)] at r
  exact blk_set (blk_set r 0 a0) 1 a1
theorem set_far2 {w : World} {b g g' : Nat} {cs : Array Value} {l : List UInt8} {c : Bool} {o : Obj} {W : World} {i : Nat} {u : Value} (hb : Below w.heap.size w W) (hc : W.heap[b]? = some (.cells cs 157 (0, 0))) (hd : c = false → Cmd b cs l W) (ho : W.heap[g']? = some o) (h1 : g < b) (h2 : g' ≠ g) (h3 : w.heap.size ≤ g) :
    Below w.heap.size w (W.setCell ⟨g, i, none⟩ u) ∧ (W.setCell ⟨g, i, none⟩ u).heap[b]? = some (.cells cs 157 (0, 0)) ∧ (c = false → Cmd b cs l (W.setCell ⟨g, i, none⟩ u)) ∧ (W.setCell ⟨g, i, none⟩ u).heap[g']? = some o :=
  ⟨hb.setCell (p := ⟨g, i, none⟩) h3 _, blk_far hc (p := ⟨g, i, none⟩) (by simp; omega) _, fun e => (hd e).setBelow (p := ⟨g, i, none⟩) h1 _, blk_far ho (p := ⟨g, i, none⟩) h2 _⟩
set_option maxHeartbeats 2000000 in
theorem FinI.st2 {w : World} {b g4 g5 : Nat} {cs : Array Value} {l : List UInt8} {c s1 : Bool} {o4 : Obj} {s0 s1' s2 s3 s4 s5 s6 s7 s8 s9 : Value} {W : World} (h : FinI w b g4 g5 cs l c s1 false o4 (staO s0 s1' s2 s3 s4 s5 s6 s7 s8 s9) W) (h5 : g5 < b) (hne : g4 ≠ g5) (hw : w.heap.size ≤ g5) :
    FinI w b g4 g5 cs l c s1 true o4 (staO s0 s1' s2 s3 s4 s5 s6 s7 s8 s9) ((((((((((W.setCell ⟨g5, 0, none⟩ s0).setCell ⟨g5, 1, none⟩ s1').setCell ⟨g5, 2, none⟩ s2).setCell ⟨g5, 3, none⟩ s3).setCell ⟨g5, 4, none⟩ s4).setCell ⟨g5, 5, none⟩ s5).setCell ⟨g5, 6, none⟩ s6).setCell ⟨g5, 7, none⟩ s7).setCell ⟨g5, 8, none⟩ s8).setCell ⟨g5, 9, none⟩ s9) := by
  have r := h.r5
  rw [if_neg (by simp)] at r
  obtain ⟨x1, y1, z1, t1⟩ := set_far2 (i := 0) (u := s0) h.bel h.cmd h.bld h.r4 h5 hne hw
  obtain ⟨x2, y2, z2, t2⟩ := set_far2 (i := 1) (u := s1') x1 y1 z1 t1 h5 hne hw
  obtain ⟨x3, y3, z3, t3⟩ := set_far2 (i := 2) (u := s2) x2 y2 z2 t2 h5 hne hw
  obtain ⟨x4, y4, z4, t4⟩ := set_far2 (i := 3) (u := s3) x3 y3 z3 t3 h5 hne hw
  obtain ⟨x5, y5, z5, t5⟩ := set_far2 (i := 4) (u := s4) x4 y4 z4 t4 h5 hne hw
  obtain ⟨x6, y6, z6, t6⟩ := set_far2 (i := 5) (u := s5) x5 y5 z5 t5 h5 hne hw
  obtain ⟨x7, y7, z7, t7⟩ := set_far2 (i := 6) (u := s6) x6 y6 z6 t6 h5 hne hw
  obtain ⟨x8, y8, z8, t8⟩ := set_far2 (i := 7) (u := s7) x7 y7 z7 t7 h5 hne hw
  obtain ⟨x9, y9, z9, t9⟩ := set_far2 (i := 8) (u := s8) x8 y8 z8 t8 h5 hne hw
  obtain ⟨x10, y10, z10, t10⟩ := set_far2 (i := 9) (u := s9) x9 y9 z9 t9 h5 hne hw
  have r0 : W.heap[g5]? = some staZ := r
  have q0 : (W.setCell ⟨g5, 0, none⟩ s0).heap[g5]? = some (staO (s0) (.string ⟨#[]⟩) (.string ⟨#[]⟩) (.int .i64 0) (.slice none 0 0) (.slice none 0 0) (.int .i64 0) (.string ⟨#[]⟩) (.bool false) (.bool false)) := blk_set r0 0 s0
  have q1 : ((W.setCell ⟨g5, 0, none⟩ s0).setCell ⟨g5, 1, none⟩ s1').heap[g5]? = some (staO (s0) (s1') (.string ⟨#[]⟩) (.int .i64 0) (.slice none 0 0) (.slice none 0 0) (.int .i64 0) (.string ⟨#[]⟩) (.bool false) (.bool false)) := blk_set q0 1 s1'
  have q2 : (((W.setCell ⟨g5, 0, none⟩ s0).setCell ⟨g5, 1, none⟩ s1').setCell ⟨g5, 2, none⟩ s2).heap[g5]? = some (staO (s0) (s1') (s2) (.int .i64 0) (.slice none 0 0) (.slice none 0 0) (.int .i64 0) (.string ⟨#[]⟩) (.bool false) (.bool false)) := blk_set q1 2 s2
  have q3 : ((((W.setCell ⟨g5, 0, none⟩ s0).setCell ⟨g5, 1, none⟩ s1').setCell ⟨g5, 2, none⟩ s2).setCell ⟨g5, 3, none⟩ s3).heap[g5]? = some (staO (s0) (s1') (s2) (s3) (.slice none 0 0) (.slice none 0 0) (.int .i64 0) (.string ⟨#[]⟩) (.bool false) (.bool false)) := blk_set q2 3 s3
  have q4 : (((((W.setCell ⟨g5, 0, none⟩ s0).setCell ⟨g5, 1, none⟩ s1').setCell ⟨g5, 2, none⟩ s2).setCell ⟨g5, 3, none⟩ s3).setCell ⟨g5, 4, none⟩ s4).heap[g5]? = some (staO (s0) (s1') (s2) (s3) (s4) (.slice none 0 0) (.int .i64 0) (.string ⟨#[]⟩) (.bool false) (.bool false)) := blk_set q3 4 s4
  have q5 : ((((((W.setCell ⟨g5, 0, none⟩ s0).setCell ⟨g5, 1, none⟩ s1').setCell ⟨g5, 2, none⟩ s2).setCell ⟨g5, 3, none⟩ s3).setCell ⟨g5, 4, none⟩ s4).setCell ⟨g5, 5, none⟩ s5).heap[g5]? = some (staO (s0) (s1') (s2) (s3) (s4) (s5) (.int .i64 0) (.string ⟨#[]⟩) (.bool false) (.bool false)) := blk_set q4 5 s5
  have q6 : (((((((W.setCell ⟨g5, 0, none⟩ s0).setCell ⟨g5, 1, none⟩ s1').setCell ⟨g5, 2, none⟩ s2).setCell ⟨g5, 3, none⟩ s3).setCell ⟨g5, 4, none⟩ s4).setCell ⟨g5, 5, none⟩ s5).setCell ⟨g5, 6, none⟩ s6).heap[g5]? = some (staO (s0) (s1') (s2) (s3) (s4) (s5) (s6) (.string ⟨#[]⟩) (.bool false) (.bool false)) := blk_set q5 6 s6
  have q7 : ((((((((W.setCell ⟨g5, 0, none⟩ s0).setCell ⟨g5, 1, none⟩ s1').setCell ⟨g5, 2, none⟩ s2).setCell ⟨g5, 3, none⟩ s3).setCell ⟨g5, 4, none⟩ s4).setCell ⟨g5, 5, none⟩ s5).setCell ⟨g5, 6, none⟩ s6).setCell ⟨g5, 7, none⟩ s7).heap[g5]? = some (staO (s0) (s1') (s2) (s3) (s4) (s5) (s6) (s7) (.bool false) (.bool false)) := blk_set q6 7 s7
  have q8 : (((((((((W.setCell ⟨g5, 0, none⟩ s0).setCell ⟨g5, 1, none⟩ s1').setCell ⟨g5, 2, none⟩ s2).setCell ⟨g5, 3, none⟩ s3).setCell ⟨g5, 4, none⟩ s4).setCell ⟨g5, 5, none⟩ s5).setCell ⟨g5, 6, none⟩ s6).setCell ⟨g5, 7, none⟩ s7).setCell ⟨g5, 8, none⟩ s8).heap[g5]? = some (staO (s0) (s1') (s2) (s3) (s4) (s5) (s6) (s7) (s8) (.bool false)) := blk_set q7 8 s8
  have q9 : ((((((((((W.setCell ⟨g5, 0, none⟩ s0).setCell ⟨g5, 1, none⟩ s1').setCell ⟨g5, 2, none⟩ s2).setCell ⟨g5, 3, none⟩ s3).setCell ⟨g5, 4, none⟩ s4).setCell ⟨g5, 5, none⟩ s5).setCell ⟨g5, 6, none⟩ s6).setCell ⟨g5, 7, none⟩ s7).setCell ⟨g5, 8, none⟩ s8).setCell ⟨g5, 9, none⟩ s9).heap[g5]? = some (staO (s0) (s1') (s2) (s3) (s4) (s5) (s6) (s7) (s8) (s9)) := blk_set q8 9 s9
  refine ⟨?_, ?_, ?_, ?_, ?_⟩
  · with_reducible exact x10
  · with_reducible exact y10
  · with_reducible exact z10
  · with_reducible exact t10
  · rw [if_pos rfl]
    with_reducible exact q9
end Go.Proofs.YtomnljigoljldaaGreatDoor.IM

/- The small functions of layer 20: word, number, upper, and the closures that keys are. Conditions: lengths, and that the library's MaxLen holds some int. -/
import Derived.Test.YtkgngahmpafdhaaGreatDoorQueryMem
import Derived.Test.YtkgngahmpafdhaaGreatDoorSpanHas
import Derived.Test.YtkgngahmpafdhaaGreatDoorPartGet
namespace Go.Proofs.YtkgngahmpafdhaaGreatDoor.QU
open Go.RowKit Mailsack MM PT

/-- a message that is short enough -/
structure GoodV (v : QV) : Prop where
  fl0 : 0 ≤ v.flags
  fl1 : v.flags < 64
  txt : v.text.length ≤ 1000
/-- one block, and those from lo on, ahead of hi -/
structure Rg where
  one : Nat
  lo : Nat
  hi : Nat
def Rg.has (q : Rg) (b : Nat) : Prop := b = q.one ∨ (q.lo ≤ b ∧ b < q.hi)
/-- other blocks than those of q are as they were -/
structure Kp (q : Rg) (w w' : World) : Prop where
  os : w'.os = w.os
  tape : w'.tape = w.tape
  output : w'.output = w.output
  size : w.heap.size ≤ w'.heap.size
  block : ∀ k, k < w.heap.size → ¬ q.has k → w'.heap[k]? = w.heap[k]?
theorem Kp.refl (b : Rg) (w : World) : Kp b w w := ⟨rfl, rfl, rfl, Nat.le_refl _, fun _ _ _ => rfl⟩
theorem Kp.trans {b : Rg} {w w1 w2 : World} (h : Kp b w w1) (h2 : Kp b w1 w2) : Kp b w w2 :=
  ⟨h2.os.trans h.os, h2.tape.trans h.tape, h2.output.trans h.output, Nat.le_trans h.size h2.size, fun k hk hne => (h2.block k (Nat.lt_of_lt_of_le hk h.size) hne).trans (h.block k hk hne)⟩
theorem Kp.below {b : Rg} {w w' : World} (h : Below w.heap.size w w') : Kp b w w' := ⟨h.os, h.tape, h.output, h.size, fun k hk _ => h.block k hk⟩

/-- what a key holds of -/
def semQ : QKey → QV → Bool
  | .flags t m, v => decide (bits BinOp.and IntKind.i64 v.flags t = t) && decide (bits BinOp.and IntKind.i64 v.flags m = 0)
  | .size true n, v => decide (n < v.size)
  | .size false n, v => decide (v.size < n)
  | .field nm x, v => (fieldP (fieldsP (linesP (v.text.take (splitN v.text)))) nm).2 && hasP (fieldP (fieldsP (linesP (v.text.take (splitN v.text)))) nm).1 x
  | .text true x, v => hasP (v.text.drop (splitN v.text)) x
  | .text false x, v => hasP v.text x
  | .set true R, v => hasS R v.uid v.uids
  | .set false R, v => hasS R v.seq v.seqs
  | .not k, v => !semQ k v
  | .or a b, v => semQ a v || semQ b v

/-- a function that holds of messages as f says, in whatever world comes behind w but for the block b -/
structure KeyFn (b : Rg) (w : World) (id : Nat) (caps : Array Value) (f : QV → Bool) : Prop where
  ent : ∀ args w, (callFunc id args).run Tryz.prog w = .ok (.enter id args) w
  run : ∀ W, Kp b w W → ∀ v, GoodV v → Calls Tryz.prog id (#[viewV v] ++ caps) W fun e W' => e = .returned (.bool (f v)) ∧ Below W.heap.size W W'
def KeyIs (b : Rg) (w : World) (kv : Value) (f : QV → Bool) : Prop := ∃ id caps, kv = .func (.func id) #[] caps ∧ KeyFn b w id caps f
theorem KeyIs.kept {b : Rg} {w w' : World} {kv : Value} {f : QV → Bool} (h : KeyIs b w kv f) (hk : Kp b w w') : KeyIs b w' kv f := by
  obtain ⟨id, caps, h1, h2⟩ := h
  exact ⟨id, caps, h1, h2.ent, fun W hW => h2.run W (hk.trans hW)⟩

/-- one cell in a block of its own -/
abbrev Bx (w : World) (b : Nat) (t : TypeId) (v : Value) : Prop := w.heap[b]? = some (.cells #[v] t (0, 0))
theorem bx_kept {w w' : World} {b : Nat} {r : Rg} {t : TypeId} {v : Value} (h : Bx w b t v) (hk : Kp r w w') (hne : ¬ r.has b) : Bx w' b t v := (hk.block b (blk_lt h) hne).trans h

set_option maxHeartbeats 400000 in
set_option maxRecDepth 100000 in
theorem flags11_any (b1 b2 : Nat) (t m : Int) (v : QV) (W : World) (h1 : Bx W b1 3 (.int .i64 t)) (h2 : Bx W b2 3 (.int .i64 m)) :
    Calls Tryz.prog 39 #[viewV v, .pointer (some ⟨b1, 0, none⟩), .pointer (some ⟨b2, 0, none⟩)] W fun e W' => e = .returned (.bool (semQ (.flags t m) v)) ∧ Below W.heap.size W W' := by
  have l1 := blk_lt h1
  have l2 := blk_lt h2
  have k1 : W.cell? ⟨b1, 0, none⟩ = some (.int .i64 t) := cell_blk h1 0
  have k2 : W.cell? ⟨b2, 0, none⟩ = some (.int .i64 m) := cell_blk h2 0
  have hs : semQ (.flags t m) v = (decide (bits BinOp.and IntKind.i64 v.flags t = t) && decide (bits BinOp.and IntKind.i64 v.flags m = 0)) := by rfl
  obtain ⟨sq, ui, fl, sz, tx, sqs, uis⟩ := v
  have HB := Lib.hid ((Below.refl W.heap.size W).alloc (Nat.le_refl _) (.cells #[.int .i64 sq, .int .i64 ui, .int .i64 fl, .int .i64 sz, strV tx, .int .i64 sqs, .int .i64 uis] 24))
  unfold viewV
  rw [hs]
  simp only
  clear h1 h2 hs
  cases ha : (bits BinOp.and IntKind.i64 fl t == t) <;> cases hb : (bits BinOp.and IntKind.i64 fl m == 0)
  all_goals
    have Ha := Lib.hid ha
    have Hb := Lib.hid hb
    go_enter Tryz.func39, Tryz.ntmps39
    go_wp2
    go_ret
    refine ⟨?_, HB.out⟩
    have ha' := Ha.out
    have hb' := Hb.out
    simp only [beq_iff_eq, beq_eq_false_iff_ne, ne_eq] at ha' hb'
    simp [ha', hb']

set_option maxHeartbeats 400000 in
set_option maxRecDepth 100000 in
theorem makers1_any (a n : Int) (W : World) : Calls Tryz.prog 21 #[.int .i64 a, .int .i64 n] W fun e W' => e = .returned (.bool (decide (n < a))) ∧ W = W' := by
  go_enter Tryz.func21, Tryz.ntmps21
  go_wp2
  go_ret
  exact ⟨rfl, rfl⟩
set_option maxHeartbeats 400000 in
set_option maxRecDepth 100000 in
theorem makers2_any (a n : Int) (W : World) : Calls Tryz.prog 22 #[.int .i64 a, .int .i64 n] W fun e W' => e = .returned (.bool (decide (a < n))) ∧ W = W' := by
  go_enter Tryz.func22, Tryz.ntmps22
  go_wp2
  go_ret
  exact ⟨rfl, rfl⟩
set_option maxHeartbeats 400000 in
set_option maxRecDepth 100000 in
theorem size11_any (g : Bool) (b1 b2 : Nat) (n : Int) (v : QV) (W : World) (h1 : Bx W b1 60 (.func (.func (if g then 21 else 22)) #[] #[])) (h2 : Bx W b2 3 (.int .i64 n)) :
    Calls Tryz.prog 42 #[viewV v, .pointer (some ⟨b1, 0, none⟩), .pointer (some ⟨b2, 0, none⟩)] W fun e W' => e = .returned (.bool (semQ (.size g n) v)) ∧ Below W.heap.size W W' := by
  have l1 := blk_lt h1
  have l2 := blk_lt h2
  have k1 := cell_blk h1 0
  have k2 : W.cell? ⟨b2, 0, none⟩ = some (.int .i64 n) := cell_blk h2 0
  obtain ⟨sq, ui, fl, sz, tx, sqs, uis⟩ := v
  have HB := Lib.hid ((Below.refl W.heap.size W).alloc (Nat.le_refl _) (.cells #[.int .i64 sq, .int .i64 ui, .int .i64 fl, .int .i64 sz, strV tx, .int .i64 sqs, .int .i64 uis] 24))
  unfold viewV
  clear h1 h2
  cases g
  · simp only [Bool.false_eq_true, if_false, List.getElem?_toArray, List.getElem?_cons_zero] at k1
    go_enter Tryz.func42, Tryz.ntmps42
    go_wp2_with fail
    refine (makers2_any sz n _).mono ?_
    rintro e w2 ⟨rfl, rfl⟩
    go_wp2
    go_ret
    exact ⟨rfl, HB.out⟩
  · simp only [if_true, List.getElem?_toArray, List.getElem?_cons_zero] at k1
    go_enter Tryz.func42, Tryz.ntmps42
    go_wp2_with fail
    refine (makers1_any sz n _).mono ?_
    rintro e w2 ⟨rfl, rfl⟩
    go_wp2
    go_ret
    exact ⟨rfl, HB.out⟩
end Go.Proofs.YtkgngahmpafdhaaGreatDoor.QU

/- Words for the memory of a server and its clients; worlds in which only some blocks turn. No conditions but those stated. -/
import Derived.Test.YtomnljigoljldaaGreatDoorMem
import Derived.Test.YtomnljigoljldaaGreatDoorProg
import Derived.KernelRfl
namespace Go.Proofs.YtomnljigoljldaaGreatDoor.SV
open Go.RowKit MM

/-- all that lay there, but the blocks of P, stands -/
structure Tn (P : Nat → Prop) (w w' : World) : Prop where
  os : w'.os = w.os
  tape : w'.tape = w.tape
  output : w'.output = w.output
  size : w.heap.size ≤ w'.heap.size
  block : ∀ k, k < w.heap.size → ¬ P k → w'.heap[k]? = w.heap[k]?
section
variable {P : Nat → Prop} {a b c : World}
theorem Tn.refl (P : Nat → Prop) (w : World) : Tn P w w := ⟨rfl, rfl, rfl, Nat.le_refl _, fun _ _ _ => rfl⟩
theorem Tn.trans (h : Tn P a b) (k : Tn P b c) : Tn P a c :=
  ⟨k.os.trans h.os, k.tape.trans h.tape, k.output.trans h.output, Nat.le_trans h.size k.size, fun i hi hp => (k.block i (Nat.lt_of_lt_of_le hi h.size) hp).trans (h.block i hi hp)⟩
theorem Tn.of (h : Below a.heap.size a b) : Tn P a b := ⟨h.os, h.tape, h.output, h.size, fun i hi _ => h.block i hi⟩
theorem Tn.call (h : Tn P a b) (k : Below b.heap.size b c) : Tn P a c := h.trans (Tn.of k)
theorem Tn.low {B : Nat} (h : Tn P a b) (k : Below B b c) (hB : a.heap.size ≤ B) : Tn P a c :=
  ⟨k.os.trans h.os, k.tape.trans h.tape, k.output.trans h.output, Nat.le_trans h.size k.size, fun i hi hp => (k.block i (Nat.lt_of_lt_of_le hi hB)).trans (h.block i hi hp)⟩
theorem Tn.set (h : Tn P a b) {p : Addr} (hp : P p.block ∨ a.heap.size ≤ p.block) (u : Value) : Tn P a (b.setCell p u) :=
  ⟨h.os, h.tape, h.output, by rw [size_set]; exact h.size, fun i hi hq => by
    rw [Below.heap_setCell b p u i (fun e => by subst e; rcases hp with hp | hp; exact hq hp; omega)]
    exact h.block i hi hq⟩
theorem Tn.alloc (h : Tn P a b) (o : Obj) : Tn P a (b.alloc o) := h.call ((Below.refl _ b).alloc (Nat.le_refl _) o)
theorem Tn.drew (h : Tn P a b) : Tn P a b.drew := ⟨h.os, h.tape, h.output, h.size, h.block⟩
theorem Tn.below {B : Nat} (h : Tn P a b) (hP : ∀ k, P k → B ≤ k) (hB : B ≤ a.heap.size) : Below B a b :=
  ⟨h.os, h.tape, h.output, h.size, fun i hi => h.block i (Nat.lt_of_lt_of_le hi hB) (fun hp => by have := hP i hp; omega)⟩
theorem Tn.blk (h : Tn P a b) {k : Nat} {o : Obj} (hk : a.heap[k]? = some o) (hp : ¬ P k) : b.heap[k]? = some o := (h.block k (blk_lt hk) hp).trans hk
theorem Tn.more {P' : Nat → Prop} (h : Tn P a b) (hP : ∀ k, P k → P' k) : Tn P' a b := ⟨h.os, h.tape, h.output, h.size, fun i hi hp => h.block i hi (fun q => hp (hP i q))⟩
end

/-- the cells of the block b from i on, stored one after the other -/
def setAll (b : Nat) : Nat → List Value → World → World
  | _, [], W => W
  | i, a :: l, W => setAll b (i + 1) l (W.setCell ⟨b, i, none⟩ a)
theorem setAll_far {b g : Nat} {o : Obj} (hne : g ≠ b) : ∀ (l : List Value) (i : Nat) (W : World), W.heap[g]? = some o → (setAll b i l W).heap[g]? = some o
  | [], _, _, h => h
  | _ :: l, i, _, h => setAll_far hne l (i + 1) _ (blk_far h (p := ⟨b, i, none⟩) hne _)
theorem setAll_tn {P : Nat → Prop} {a : World} {b : Nat} (hb : P b ∨ a.heap.size ≤ b) : ∀ (l : List Value) (i : Nat) (W : World), Tn P a W → Tn P a (setAll b i l W)
  | [], _, _, h => h
  | _ :: l, i, _, h => setAll_tn hb l (i + 1) _ (h.set (p := ⟨b, i, none⟩) hb _)
theorem setAll_below {B : Nat} {a : World} {b : Nat} (hb : B ≤ b) : ∀ (l : List Value) (i : Nat) (W : World), Below B a W → Below B a (setAll b i l W)
  | [], _, _, h => h
  | _ :: l, i, _, h => setAll_below hb l (i + 1) _ (h.setCell (p := ⟨b, i, none⟩) hb _)
theorem setAll_arr {b : Nat} {t : TypeId} : ∀ (l : List Value) (i : Nat) (W : World) (cs : Array Value), W.heap[b]? = some (.cells cs t (0, 0)) → i + l.length ≤ cs.size →
    (setAll b i l W).heap[b]? = some (.cells (cs.toList.take i ++ l ++ cs.toList.drop (i + l.length)).toArray t (0, 0))
  | [], i, W, cs, h, _ => by
    unfold setAll
    rw [h]
    simp
  | a :: l, i, W, cs, h, hi => by
    simp only [List.length_cons] at hi
    have h1 := blk_set h i a
    have h2 := setAll_arr l (i + 1) _ _ h1 (by simp; omega)
    unfold setAll
    rw [h2]
    congr 2
    apply congrArg
    apply List.ext_getElem?
    intro j
    simp only [Array.toList_setIfInBounds, List.getElem?_append, List.length_take, List.length_set, Array.length_toList, List.getElem?_take, List.getElem?_drop, List.getElem?_set, List.length_append, List.length_cons]
    by_cases h1 : j < i
    · rw [if_pos (by omega), if_pos (by omega), if_pos (by omega), if_neg (by omega), if_pos (by omega), if_pos (by omega), if_pos (by omega)]
    · by_cases h2 : j = i
      · subst h2
        rw [if_pos (by omega), if_pos (by omega), if_pos (by omega), if_pos rfl, if_pos (by omega), if_pos (by omega), if_neg (by omega), show j - min j cs.size = 0 by omega]
        rfl
      · by_cases h3 : j < i + 1 + l.length
        · rw [if_pos (by omega), if_neg (by omega), if_pos (by omega), if_neg (by omega), show j - min i cs.size = (j - min (i + 1) cs.size) + 1 by omega, List.getElem?_cons_succ]
        · rw [if_neg (by omega), if_neg (by omega), if_neg (by omega)]
          congr 1
          omega
theorem setAll_all {b : Nat} {t : TypeId} {l : List Value} {W : World} {cs : Array Value} (h : W.heap[b]? = some (.cells cs t (0, 0))) (hl : l.length = cs.size) : (setAll b 0 l W).heap[b]? = some (.cells l.toArray t (0, 0)) := by
  rw [setAll_arr l 0 W cs h (by omega), show 0 + l.length = cs.toList.length by simp [hl]]
  simp

abbrev pt (b : Nat) : Value := .pointer (some ⟨b, 0, none⟩)
/-- a server -/
abbrev srvO (d0 d1 : Value) (seed : ByteArray) (k last : Int) (mv : Value) : Obj := .cells #[d0, d1, .string seed, .int .i64 k, .int .i64 last, mv] 49
/-- a client: what has not been processed, the literals that were answered, its states, whether it is gone, what it runs -/
abbrev cliO (wt : ByteArray) (an : Int) (m0 m1 m2 m3 m4 m5 m6 r0 r1 r2 r3 r4 r5 r6 r7 r8 r9 : Value) (gone : Bool) (f : Value) : Obj :=
  .cells #[.string wt, .int .i64 an, m0, m1, m2, m3, m4, m5, m6, r0, r1, r2, r3, r4, r5, r6, r7, r8, r9, .bool gone, f] 67
abbrev drwO (n0 n1 n2 n3 n4 n5 : Value) : Obj := .cells #[n0, n1, n2, n3, n4, n5] 76
abbrev es : Value := .string ⟨#[]⟩
abbrev drwZ : Obj := drwO es es es es es (.int .i64 0)
end Go.Proofs.YtomnljigoljldaaGreatDoor.SV

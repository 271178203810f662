/- Words for memory that the walks of this seat share: a row of texts that the call owns; results of four and five values. No conditions but those stated. -/
import Derived.WalkKit
import Derived.Below
import Derived.Laws.OwnMore
import Derived.Deep.AppendLies
import Derived.Deep.Draws
import Derived.Maps.AppendAt
import Derived.Lib.Hide
namespace Go.Proofs.YtomnljigoljldaaGreatDoor.MM
open Go.RowKit

/-- a text as a value -/
abbrev strV (l : List UInt8) : Value := .string ⟨l.toArray⟩

theorem results_five {fn : Func} {t u v x y : Tmp} (h : fn.results = #[.tmp t, .tmp u, .tmp v, .tmp x, .tmp y]) (tmps : Array Value) (P : Program) (w : World) :
    (results fn tmps).run P w = .ok (.tuple #[tmps.getD t undef, tmps.getD u undef, tmps.getD v undef, tmps.getD x undef, tmps.getD y undef]) w := by simp [results, h]
theorem results_four {fn : Func} {t u v x : Tmp} (h : fn.results = #[.tmp t, .tmp u, .tmp v, .tmp x]) (tmps : Array Value) (P : Program) (w : World) :
    (results fn tmps).run P w = .ok (.tuple #[tmps.getD t undef, tmps.getD u undef, tmps.getD v undef, tmps.getD x undef]) w := by simp [results, h]

/-- the slice value v owns a row of just these texts -/
def OwnS (w : World) (base : Nat) (v : Value) (xs : List (List UInt8)) : Prop := w.ownsRow base 9 1 v xs.length (xs.map strV)

theorem OwnS.nil (w : World) (base : Nat) : OwnS w base (.slice none 0 0) [] := World.ownsRow_nil w base _ _
theorem OwnS.row {w : World} {base : Nat} {v : Value} {xs : List (List UInt8)} (h : OwnS w base v xs) : w.ownsRow base 9 1 v xs.length (xs.map strV) := h
theorem OwnS.of {w : World} {base : Nat} {v : Value} {xs : List (List UInt8)} {x : List UInt8} (h : w.ownsRow base 9 1 v (xs.length + 1) (xs.map strV ++ [strV x])) : OwnS w base v (xs ++ [x]) := by
  unfold OwnS; rw [List.length_append, List.map_append]; exact h
theorem OwnS.form {w : World} {base : Nat} {v : Value} {xs : List (List UInt8)} (h : OwnS w base v xs) : ∃ A c, v = .slice A xs.length c ∧ xs.length ≤ c := by
  rcases h.2 with ⟨h1, h2⟩ | ⟨g, cap, cur, h1, _, _, h2, _⟩
  · exact ⟨none, 0, by rw [h1, h2], by omega⟩
  · exact ⟨_, _, h1, h2⟩
theorem OwnS.grown {w w' : World} {base : Nat} {v : Value} {xs : List (List UInt8)} {row : Option Nat} (h : OwnS w base v xs) (hg : w.grownBy w' row) (hne : v.ownBlock = none ∨ v.ownBlock ≠ row) : OwnS w' base v xs := h.row.kept hg hne
theorem grown_of_below {w w' : World} (h : Below w.heap.size w w') (row : Option Nat) : w.grownBy w' row := ⟨h.os, h.tape, h.output, h.size, fun k hk _ => h.block k hk⟩
theorem OwnS.below {w w' : World} {base : Nat} {v : Value} {xs : List (List UInt8)} (h : OwnS w base v xs) (hb : Below w.heap.size w w') : OwnS w' base v xs :=
  h.grown (grown_of_below hb none) (by cases v.ownBlock <;> simp)
theorem OwnS.alloc {w : World} {base : Nat} {v : Value} {xs : List (List UInt8)} (h : OwnS w base v xs) (o : Obj) : OwnS (w.alloc o) base v xs := World.ownsRow.alloc h o
theorem OwnS.drewN {w : World} {base : Nat} {v : Value} {xs : List (List UInt8)} (h : OwnS w base v xs) (n : Nat) : OwnS (w.drewN n) base v xs := h
theorem below_drewN {B : Nat} {a w : World} (h : Below B a w) (n : Nat) : Below B a (w.drewN n) := ⟨h.os, h.tape, h.output, h.size, h.block⟩
theorem OwnS.less {w : World} {base base' : Nat} {v : Value} {xs : List (List UInt8)} (h : OwnS w base v xs) (hb : base' ≤ base) : OwnS w base' v xs := by
  refine ⟨h.1, ?_⟩
  rcases h.2 with hn | ⟨g, cap, cur, h1, h2, h3⟩
  · exact .inl hn
  · exact .inr ⟨g, cap, cur, h1, by omega, h3⟩
/-- two slice values that share no block -/
def Apart (v u : Value) : Prop := v.ownBlock = none ∨ v.ownBlock ≠ u.ownBlock
theorem Apart.symm {v u : Value} (h : Apart v u) : Apart u v := by
  unfold Apart at h ⊢
  rcases h with h | h
  · cases e : u.ownBlock with
    | none => exact .inl rfl
    | some k => exact .inr (by rw [h]; simp)
  · exact .inr (Ne.symm h)
theorem push_two {w w2 w1 : World} {B : Nat} {tv lv v' : Value} {T L : List (List UInt8)} {x : List UInt8} {o : Obj} (hT : OwnS w2 B tv T) (hL : OwnS w2 B lv L) (hap : Apart tv lv)
    (hown : w1.ownsRow B 9 1 v' (T.length + 1) (T.map strV ++ [strV x])) (hg : (w2.alloc o).grownBy w1 tv.ownBlock) (hloc : v'.ownBlock = tv.ownBlock ∨ v'.ownBlock = some (w2.alloc o).heap.size)
    (hb : Below B w w2) (hB : B ≤ w2.heap.size) : OwnS w1 B v' (T ++ [x]) ∧ OwnS w1 B lv L ∧ Apart v' lv ∧ Below B w w1 := by
  refine ⟨OwnS.of hown, (hL.alloc o).grown hg hap.symm, ?_, (hb.alloc hB o).grown hg (by simp; omega) (fun k hk => (World.ownsRow.lt hT k hk).1)⟩
  rcases hloc with h | h
  · unfold Apart; rw [h]; exact hap
  · right
    rw [h]
    intro e
    have := (World.ownsRow.lt hL _ e.symm).2
    simp at this
    omega
theorem frozen_alloc (w : World) (o : Obj) (p : Addr) (h : p.block < w.heap.size) : (w.alloc o).frozen? p = w.frozen? p := World.frozen?_of_block (Below.heap_alloc w o p.block h)
theorem push_one {w w2 w1 : World} {B : Nat} {tv v' : Value} {T : List (List UInt8)} {x : List UInt8} {o : Obj} (hT : OwnS w2 B tv T)
    (hown : w1.ownsRow B 9 1 v' (T.length + 1) (T.map strV ++ [strV x])) (hg : (w2.alloc o).grownBy w1 tv.ownBlock) (hloc : v'.ownBlock = tv.ownBlock ∨ v'.ownBlock = some (w2.alloc o).heap.size)
    (hb : Below B w w2) (hB : B ≤ w2.heap.size) : OwnS w1 B v' (T ++ [x]) ∧ Below B w w1 ∧ ∀ k, v'.ownBlock = some k → tv.ownBlock = some k ∨ k = w2.heap.size + 1 := by
  refine ⟨OwnS.of hown, (hb.alloc hB o).grown hg (by simp; omega) (fun k hk => (World.ownsRow.lt hT k hk).1), fun k hk => ?_⟩
  rcases hloc with h | h
  · exact .inl (h ▸ hk)
  · rw [h] at hk
    injection hk with hk
    right; rw [← hk]; simp
theorem loc_of {v : Value} {g n cap H : Nat} (h : v.ownBlock = some g ∨ g = H) : (Value.slice (some ⟨g, 0, none⟩) n cap).ownBlock = v.ownBlock ∨ (Value.slice (some ⟨g, 0, none⟩) n cap).ownBlock = some H := by
  rcases h with h | rfl
  · exact .inl h.symm
  · exact .inr rfl
theorem one_cell_str (l : List UInt8) : ∀ u ∈ [strV l], u.oneCell' = true := by
  intro u hu; rw [List.mem_singleton.1 hu]; rfl
theorem one_cell_bytes (s : ByteArray) : ∀ u ∈ [Value.string s], u.oneCell' = true := by
  intro u hu; rw [List.mem_singleton.1 hu]; rfl
theorem cell_blk {w : World} {g : Nat} {t : TypeId} {cs : Array Value} (h : w.heap[g]? = some (.cells cs t (0, 0))) (i : Nat) : w.cell? ⟨g, i, none⟩ = cs[i]? := cell_of_row w g i cs t (0, 0) h
theorem free_blk {w : World} {g : Nat} {t : TypeId} {cs : Array Value} (h : w.heap[g]? = some (.cells cs t (0, 0))) (i : Nat) : w.frozen? ⟨g, i, none⟩ = false := by simp [World.frozen?, h]
theorem blk_set {w : World} {g : Nat} {t : TypeId} {cs : Array Value} (h : w.heap[g]? = some (.cells cs t (0, 0))) (i : Nat) (u : Value) : (w.setCell ⟨g, i, none⟩ u).heap[g]? = some (.cells (cs.setIfInBounds i u) t (0, 0)) := by
  simp [World.setCell, Array.getElem?_modify, h]
theorem blk_far {w : World} {g : Nat} {o : Obj} (h : w.heap[g]? = some o) {p : Addr} (hp : g ≠ p.block) (u : Value) : (w.setCell p u).heap[g]? = some o := (Below.heap_setCell w p u g hp).trans h
theorem blk_lt {w : World} {g : Nat} {o : Obj} (h : w.heap[g]? = some o) : g < w.heap.size := (Array.getElem?_eq_some_iff.1 h).1
theorem blk_alloc {w : World} {g : Nat} {o : Obj} (h : w.heap[g]? = some o) (o' : Obj) : (w.alloc o').heap[g]? = some o := (Below.heap_alloc w o' g (blk_lt h)).trans h
theorem blk_grown {w w' : World} {g : Nat} {o : Obj} {row : Option Nat} (h : w.heap[g]? = some o) (hg : w.grownBy w' row) (hne : some g ≠ row) : w'.heap[g]? = some o := (hg.block g (blk_lt h) hne).trans h
theorem blk_below {w w' : World} {B g : Nat} {o : Obj} (h : w.heap[g]? = some o) (hb : Below B w w') (hg : g < B) : w'.heap[g]? = some o := (hb.block g hg).trans h
theorem blk_new (w : World) (o : Obj) : (w.alloc o).heap[w.heap.size]? = some o := heap_alloc_new w o
theorem two_old (w : World) (o o' : Obj) : ((w.alloc o).alloc o').heap[w.heap.size]? = some o := blk_alloc (blk_new w o) o'
theorem two_new (w : World) (o o' : Obj) : ((w.alloc o).alloc o').heap[w.heap.size + 1]? = some o' := by
  have := blk_new (w.alloc o) o'
  rwa [show (w.alloc o).heap.size = w.heap.size + 1 by simp] at this
theorem OwnS.set {w : World} {base : Nat} {v : Value} {xs : List (List UInt8)} (h : OwnS w base v xs) {p : Addr} (hp : p.block < base) (u : Value) : OwnS (w.setCell p u) base v xs := ownsRow_setCell_below h hp u
theorem OwnS.setFar {w : World} {base : Nat} {v : Value} {xs : List (List UInt8)} (h : OwnS w base v xs) {p : Addr} (u : Value) (hne : ∀ k, v.ownBlock = some k → k ≠ p.block) : OwnS (w.setCell p u) base v xs := by
  refine ⟨h.1, ?_⟩
  rcases h.2 with hn | ⟨g, cap, cur, h1, h2, h3, h4⟩
  · exact .inl hn
  · exact .inr ⟨g, cap, cur, h1, h2, blk_far h3 (hne g (by rw [h1]; rfl)) u, h4⟩
theorem size_set (w : World) (p : Addr) (u : Value) : (w.setCell p u).heap.size = w.heap.size := by simp [World.setCell]
theorem size_new (w : World) (o : Obj) : (w.alloc o).heap.size = w.heap.size + 1 := by simp
/-- the slice value v reads as these texts, in a block below B -/
def RdS (w : World) (B : Nat) (v : Value) (xs : List (List UInt8)) : Prop :=
  ∃ A c, v = .slice A xs.length c ∧ xs.length ≤ c ∧ (0 < xs.length → ∃ b off, A = some ⟨b, off, none⟩ ∧ b < B ∧ ∀ j x, xs[j]? = some x → w.cell? ⟨b, off + j, none⟩ = some (strV x))
theorem OwnS.rd {w : World} {base : Nat} {v : Value} {xs : List (List UInt8)} (h : OwnS w base v xs) : RdS w w.heap.size v xs := by
  rcases h.2 with ⟨h1, h2⟩ | ⟨g, cap, cur, h1, hb, hg, hnc, _, _, htake⟩
  · exact ⟨none, 0, by rw [h1, h2], by omega, fun h => by omega⟩
  · refine ⟨_, cap, h1, hnc, fun _ => ⟨g, 0, rfl, blk_lt hg, fun j x hx => ?_⟩⟩
    have := World.ownsRow.cells h (g := g) (by rw [h1]; rfl) j (strV x) (by simp [hx])
    rw [Nat.zero_add]
    have hadd : (⟨g, 0, none⟩ : Addr).add j = ⟨g, j, none⟩ := by unfold Addr.add; split <;> simp_all
    rw [hadd] at this
    exact this
theorem RdS.keep {w w' : World} {B : Nat} {v : Value} {xs : List (List UInt8)} (h : RdS w B v xs) (hk : ∀ p : Addr, p.block < B → w'.cell? p = w.cell? p) : RdS w' B v xs := by
  obtain ⟨A, c, h1, h2, h3⟩ := h
  refine ⟨A, c, h1, h2, fun hn => ?_⟩
  obtain ⟨b, off, h4, h5, h6⟩ := h3 hn
  exact ⟨b, off, h4, h5, fun j x hx => (hk _ h5).trans (h6 j x hx)⟩
theorem RdS.below {w w' : World} {B B' : Nat} {v : Value} {xs : List (List UInt8)} (h : RdS w B v xs) (hb : Below B' w w') (hB : B ≤ B') : RdS w' B v xs := h.keep fun _ hp => hb.cell (by omega)
theorem RdS.drewN {w : World} {B : Nat} {v : Value} {xs : List (List UInt8)} (h : RdS w B v xs) (n : Nat) : RdS (w.drewN n) B v xs := h
theorem RdS.more {w : World} {B B' : Nat} {v : Value} {xs : List (List UInt8)} (h : RdS w B v xs) (hB : B ≤ B') : RdS w B' v xs := by
  obtain ⟨A, c, h1, h2, h3⟩ := h
  refine ⟨A, c, h1, h2, fun hn => ?_⟩
  obtain ⟨b, off, h4, h5, h6⟩ := h3 hn
  exact ⟨b, off, h4, by omega, h6⟩
theorem bytes_eq {x y : List UInt8} : (⟨x.toArray⟩ : ByteArray) = ⟨y.toArray⟩ ↔ x = y := by
  constructor
  · intro h; injection h with h; exact List.toArray_inj h
  · rintro rfl; rfl
def lenOf (v : Value) : Nat := match v with
  | .string b => b.size
  | _ => 0
end Go.Proofs.YtomnljigoljldaaGreatDoor.MM

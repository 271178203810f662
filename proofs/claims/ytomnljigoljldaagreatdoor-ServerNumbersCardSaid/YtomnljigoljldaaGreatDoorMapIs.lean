/- A map from texts to values that the call has made: look-ups and insertions. No conditions but those stated. -/
import Derived.Test.YtomnljigoljldaaGreatDoorMem
import Derived.Test.YtomnljigoljldaaGreatDoorProg
import Derived.WalkKit
import Derived.WalkLawsBesides
import Derived.WalkSpells
import Derived.Lib.Hide
import Derived.Deep.Cut
import Derived.StringKeys
import Derived.Maps.Own
namespace Go.Proofs.YtomnljigoljldaaGreatDoor.MP
open Go.RowKit MM Go.ChangeMaps Go.WideMaps Go.WideShapes
abbrev Bs := List UInt8
/-- the block b is a map of just these texts -/
def MapIs (w : World) (b : Nat) (tab : List (Bs × Value)) : Prop :=
  ∃ es clock, w.heap[b]? = some (.map es clock) ∧ es.toList.map (fun e => (e.key, e.val)) = tab.map (fun p => (strV p.1, p.2))
theorem MapIs.new (w : World) : MapIs (w.alloc (.map #[] 0)) w.heap.size [] := ⟨#[], 0, blk_new w _, rfl⟩
theorem MapIs.kept {w w' : World} {b : Nat} {tab : List (Bs × Value)} {row : Option Nat} (h : MapIs w b tab) (hg : w.grownBy w' row) (hne : some b ≠ row) : MapIs w' b tab := by
  obtain ⟨es, c, h1, h2⟩ := h
  exact ⟨es, c, blk_grown h1 hg hne, h2⟩
theorem MapIs.lt {w : World} {b : Nat} {tab : List (Bs × Value)} (h : MapIs w b tab) : b < w.heap.size := by
  obtain ⟨es, c, h1, _⟩ := h
  exact blk_lt h1

theorem strLaw : KeyLaw Tryz.prog 9 := WideMaps.string_law Tryz.underlying9
theorem keyS {s : Bs} (h : s.length ≤ 1000000) : keyOf Tryz.prog 9 (strV s) = some (.string s) :=
  WideMaps.keyOf_string_mk Tryz.underlying9 (by show s.length ≤ _; unfold maxLen; omega)
theorem strV_inj {a b : Bs} (h : strV a = strV b) : a = b := by
  injection h with h
  exact bytes_eq.1 h
theorem MapIs.keys {tab : List (Bs × Value)} {es : Array MapEntry} (h2 : es.toList.map (fun e => (e.key, e.val)) = tab.map (fun p => (strV p.1, p.2))) (hl : ∀ p ∈ tab, p.1.length ≤ 1000000) :
    ∀ e ∈ es.toList, ∃ l, keyOf Tryz.prog 9 e.key = some l := by
  intro e he
  have : (e.key, e.val) ∈ es.toList.map (fun e => (e.key, e.val)) := List.mem_map_of_mem (f := fun e : MapEntry => (e.key, e.val)) he
  rw [h2] at this
  obtain ⟨p, hp, hpe⟩ := List.mem_map.1 this
  injection hpe with h3 h4
  exact ⟨_, by rw [← h3]; exact keyS (hl p hp)⟩
/-- a look-up that finds nothing -/
theorem MapIs.miss {w : World} {b : Nat} {tab : List (Bs × Value)} {t e : TypeId} {z : Value} (h : MapIs w b tab) (hl : ∀ p ∈ tab, p.1.length ≤ 1000000) (ht : Tryz.prog.underlying t = some (.map 9 e)) (hz : (zeroValue e).run Tryz.prog w = .ok z w)
    {s : Bs} (hs : s.length ≤ 1000000) (hno : ∀ p ∈ tab, p.1 ≠ s) : (Instr.lookup t (.map (some b)) (strV s) true).run Tryz.prog w = .ok (.tuple #[z, .bool false]) w := by
  obtain ⟨es, clock, hb, h2⟩ := h
  rcases strLaw.find w (keyS hs) es.toList (MapIs.keys h2 hl) with ⟨h1, _⟩ | ⟨j, e0, h1, h3, h4⟩
  · simp [Instr.lookup, run_underlying ht, MapKept.run_getObj_map hb, strLaw.check w _ (keyS hs), h1, hz, Result.andThen]
  · exfalso
    have : (e0.key, e0.val) ∈ es.toList.map (fun e => (e.key, e.val)) := List.mem_map_of_mem (f := fun e : MapEntry => (e.key, e.val)) (List.mem_of_getElem? h3)
    rw [h2] at this
    obtain ⟨p, hp, hpe⟩ := List.mem_map.1 this
    injection hpe with h5 h6
    exact hno p hp (strV_inj (h5.trans h4))
/-- a look-up that finds -/
theorem MapIs.hit {w : World} {b : Nat} {tab : List (Bs × Value)} {t e : TypeId} (h : MapIs w b tab) (hl : ∀ p ∈ tab, p.1.length ≤ 1000000) (ht : Tryz.prog.underlying t = some (.map 9 e))
    {s : Bs} (hs : s.length ≤ 1000000) {v : Value} (hv : (s, v) ∈ tab) (huniq : ∀ u, (s, u) ∈ tab → u = v) : (Instr.lookup t (.map (some b)) (strV s) true).run Tryz.prog w = .ok (.tuple #[v, .bool true]) w := by
  obtain ⟨es, clock, hb, h2⟩ := h
  rcases strLaw.find w (keyS hs) es.toList (MapIs.keys h2 hl) with ⟨h1, h3⟩ | ⟨j, e0, h1, h3, h4⟩
  · exfalso
    have : (strV s, v) ∈ tab.map (fun p => (strV p.1, p.2)) := List.mem_map_of_mem (f := fun p : Bs × Value => (strV p.1, p.2)) hv
    rw [← h2] at this
    obtain ⟨x, hx, hxe⟩ := List.mem_map.1 this
    injection hxe with h5 h6
    exact h3 x hx h5
  · have : (e0.key, e0.val) ∈ es.toList.map (fun e => (e.key, e.val)) := List.mem_map_of_mem (f := fun e : MapEntry => (e.key, e.val)) (List.mem_of_getElem? h3)
    rw [h2] at this
    obtain ⟨p, hp, hpe⟩ := List.mem_map.1 this
    have h5 : strV p.1 = e0.key := congrArg Prod.fst hpe
    have h6 : p.2 = e0.val := congrArg Prod.snd hpe
    have h7 : p.1 = s := strV_inj (h5.trans h4)
    have h8 : e0.val = v := by rw [← h6]; exact huniq p.2 (by rw [← h7]; exact hp)
    have e9 : (Instr.lookup t (.map (some b)) (strV s) true).run Tryz.prog w = .ok (.tuple #[e0.val, .bool true]) w := by
      clear h8 huniq hv h6 h7 h5 hp this h2 hl
      simp [Instr.lookup, run_underlying ht, MapKept.run_getObj_map hb, strLaw.check w _ (keyS hs), h1, Result.andThen]
    rw [e9, h8]
/-- a new key -/
theorem MapIs.put {w : World} {b : Nat} {tab : List (Bs × Value)} {t e : TypeId} (h : MapIs w b tab) (hl : ∀ p ∈ tab, p.1.length ≤ 1000000) (ht : Tryz.prog.underlying t = some (.map 9 e))
    {s : Bs} (hs : s.length ≤ 1000000) (v : Value) (hno : ∀ p ∈ tab, p.1 ≠ s) : ∃ w', (Instr.mapUpdate t (.map (some b)) (strV s) v).run Tryz.prog w = .ok () w' ∧ MapIs w' b (tab ++ [(s, v)]) ∧ w.grownBy w' (some b) := by
  obtain ⟨es, clock, hb, h2⟩ := h
  rcases strLaw.find w (keyS hs) es.toList (MapIs.keys h2 hl) with ⟨h1, _⟩ | ⟨j, e0, h1, h3, h4⟩
  · refine ⟨setBlock w b (.map (es.push ⟨strV s, v, clock⟩) (clock + 1)), ?_, ⟨es.push ⟨strV s, v, clock⟩, clock + 1, heap_setBlock_same hb _, ?_⟩, ⟨rfl, rfl, rfl, by simp [setBlock], fun i _ hi => heap_setBlock_other hb _ (fun e => hi (by rw [e]))⟩⟩
    · simp [Instr.mapUpdate, run_underlying ht, MapKept.run_getObj_map hb, strLaw.check w false (keyS hs), h1, MapKept.run_setObj_map _ hb, Result.andThen, setBlock]
    · rw [Array.toList_push, List.map_append, h2, List.map_append]; rfl
  · exfalso
    have : (e0.key, e0.val) ∈ es.toList.map (fun e => (e.key, e.val)) := List.mem_map_of_mem (f := fun e : MapEntry => (e.key, e.val)) (List.mem_of_getElem? h3)
    rw [h2] at this
    obtain ⟨p, hp, hpe⟩ := List.mem_map.1 this
    injection hpe with h5 h6
    exact hno p hp (strV_inj (h5.trans h4))
/-- at the operation, for the walk -/
theorem wpList_insert {w : World} {ops : Array Oper} {rest : List Oper} {o : Oper} {a : Act} {Q : Exit → Act → World → Prop}
    (hg : o.guard = none) (m x v : Operand) (t : TypeId) (hop : o.op = Op.insert t m x v) {b : Nat} {tab : List (Bs × Value)} {e : TypeId} (h : MapIs w b tab) (hl : ∀ p ∈ tab, p.1.length ≤ 1000000) (ht : Tryz.prog.underlying t = some (.map 9 e))
    (hm : a.eval m = .map (some b)) {s : Bs} (hx : a.eval x = strV s) (hs : s.length ≤ 1000000) {val : Value} (hv : a.eval v = val) (hno : ∀ p ∈ tab, p.1 ≠ s)
    (hK : ∀ w', MapIs w' b (tab ++ [(s, val)]) → w.grownBy w' (some b) → wpList Tryz.prog ops Q rest (a.put o.dst undef) w') : wpList Tryz.prog ops Q (o :: rest) a w := by
  refine wpList_plain hg fun K' hK' => ?_
  obtain ⟨w', hrun, r1, r2⟩ := h.put hl ht hs val hno
  unfold Oper.wp
  simp [execOp, hop, hm, hx, hv, hrun, Result.andThen]
  exact hK' _ _ (hK w' r1 r2)
end Go.Proofs.YtomnljigoljldaaGreatDoor.MP

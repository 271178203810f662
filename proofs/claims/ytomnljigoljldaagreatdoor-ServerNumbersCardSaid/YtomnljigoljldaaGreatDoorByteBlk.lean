/- A block of bytes: made, copied into, stored into, read as a text. No conditions but those stated. -/
import Derived.Test.YtomnljigoljldaaGreatDoorMem
import Derived.Test.YtomnljigoljldaaGreatDoorLinesPlain
import Derived.Test.YtomnljigoljldaaGreatDoorProg
import Derived.KernelRfl
import Derived.Lib.BufferWrite
import Derived.Lib.SlBuf
import Derived.Laws.IdiomStrings
import Derived.Laws.MakeOwn
import Derived.Laws.CopyOwn
namespace Mailsack
/-- a number's lowest byte -/
def oct (z : Int) : UInt8 := UInt8.ofNat (z % 256).toNat
theorem oct_int (z : Int) : ((oct z).toNat : Int) = z % 256 := by
  unfold oct
  have h1 := Int.emod_nonneg z (b := 256) (by decide)
  have h2 := Int.emod_lt_of_pos z (b := 256) (by decide)
  rw [UInt8.toNat_ofNat', Nat.mod_eq_of_lt (by omega)]
  omega
/-- so many zeros -/
def zerosB (n : Nat) : Bs := List.replicate n 0
theorem zerosB_len (n : Nat) : (zerosB n).length = n := by simp [zerosB]
end Mailsack
namespace Go.Proofs.YtomnljigoljldaaGreatDoor.BB
open Go.RowKit Mailsack MM

def encB (l : Bs) : Array Value := (l.map fun b => Value.int .u8 (b.toNat : Int)).toArray
theorem encB_size (l : Bs) : (encB l).size = l.length := by simp [encB]
theorem encB_get {l : Bs} {i : Nat} (h : i < l.length) : (encB l)[i]? = some (.int .u8 ((l.getD i 0).toNat : Int)) := by
  simp [encB, List.getD_eq_getElem?_getD, List.getElem?_eq_getElem h]
theorem encB_put (l : Bs) (i : Nat) (b : UInt8) : (encB l).setIfInBounds i (.int .u8 (b.toNat : Int)) = encB (l.set i b) := by
  simp [encB, List.map_set]
theorem encB_set (l : Bs) (i : Nat) (z : Int) : (encB l).setIfInBounds i (.int .u8 (z % 256)) = encB (l.set i (oct z)) := by
  rw [← oct_int, encB_put]
theorem encB_one (l : Bs) : ∀ v ∈ (encB l).toList, v.oneCell' = true := by
  intro v hv
  simp [encB] at hv
  obtain ⟨b, _, rfl⟩ := hv
  rfl
theorem encB_zero (n : Nat) : madeCells (Value.cells (.int .u8 0)) (n * 1) = encB (zerosB n) := by
  unfold zerosB
  apply Array.ext_getElem?
  intro i
  by_cases h : i < n
  · have : (encB (List.replicate n 0))[i]? = some (.int .u8 0) := by rw [encB_get (by simpa using h)]; simp [List.getD_eq_getElem?_getD, h]
    rw [this]
    simp [madeCells, Value.cells, h, Nat.mod_one]
  · rw [Array.getElem?_eq_none (by simp [madeCells]; omega), Array.getElem?_eq_none (by rw [encB_size]; simp; omega)]
/-- the block g holds these bytes -/
def HasB (W : World) (g : Nat) (l : Bs) : Prop := W.heap[g]? = some (.cells (encB l) 5 (0, 0))
theorem HasB.blk {W : World} {g : Nat} {l : Bs} (h : HasB W g l) : W.heap[g]? = some (.cells (encB l) 5 (0, 0)) := h
theorem HasB.lt {W : World} {g : Nat} {l : Bs} (h : HasB W g l) : g < W.heap.size := blk_lt h.blk
theorem HasB.cell {W : World} {g : Nat} {l : Bs} (h : HasB W g l) {i : Nat} (hi : i < l.length) : W.cell? ⟨g, i, none⟩ = some (.int .u8 ((l.getD i 0).toNat : Int)) := by rw [cell_blk h.blk, encB_get hi]
theorem HasB.free {W : World} {g : Nat} {l : Bs} (h : HasB W g l) (i : Nat) : W.frozen? ⟨g, i, none⟩ = false := free_blk h.blk i
theorem HasB.put {W : World} {g : Nat} {l : Bs} (h : HasB W g l) (i : Nat) (z : Int) : HasB (W.setCell ⟨g, i, none⟩ (.int .u8 (z % 256))) g (l.set i (oct z)) := by
  have := blk_set h.blk i (.int .u8 (z % 256))
  rw [encB_set] at this
  exact this
theorem HasB.putB {W : World} {g : Nat} {l : Bs} (h : HasB W g l) (i : Nat) (b : UInt8) : HasB (W.setCell ⟨g, i, none⟩ (.int .u8 (b.toNat : Int))) g (l.set i b) := by
  have := blk_set h.blk i (.int .u8 (b.toNat : Int))
  rw [encB_put] at this
  exact this
theorem HasB.drew {W : World} {g : Nat} {l : Bs} (h : HasB W g l) : HasB W.drew g l := h
theorem HasB.below {W W' : World} {B g : Nat} {l : Bs} (h : HasB W g l) (hb : Below B W W') (hg : g < B) : HasB W' g l := blk_below h.blk hb hg
theorem HasB.alloc {W : World} {g : Nat} {l : Bs} (h : HasB W g l) (o : Obj) : HasB (W.alloc o) g l := blk_alloc h.blk o
theorem HasB.far {W : World} {g : Nat} {l : Bs} (h : HasB W g l) {p : Addr} (hp : g ≠ p.block) (u : Value) : HasB (W.setCell p u) g l := blk_far h.blk hp u

theorem made (W : World) (n c : Nat) (hc : n ≤ c) (hm : c ≤ 281474976710656) : (Instr.makeSlice 88 (.int .i64 (n : Int)) (.int .i64 (c : Int))).run Tryz.prog W = .ok (.slice (some ⟨W.heap.size, 0, none⟩) n c) (W.alloc (.cells (encB (zerosB c)) 5)) := by
  have hinfo : (Tryz.prog.info? 5).map (fun i => (i.zero, i.size, i.bytes)) = some (some (.int .u8 0), 1, 1) := by kernel_rfl
  cases hq : Tryz.prog.info? 5 with
  | none => rw [hq] at hinfo; cases hinfo
  | some i =>
    rw [hq] at hinfo
    simp only [Option.map_some, Option.some.injEq, Prod.mk.injEq] at hinfo
    obtain ⟨hz, hs, hb⟩ := hinfo
    have h := run_make (P := Tryz.prog) (w := W) 88 5 i _ Tryz.underlying88 hq hz .i64 .i64 (n : Int) (c : Int) (by omega) (by omega) (by rw [hb]; omega) (by omega)
    simp only [Int.toNat_natCast] at h
    rw [hs, encB_zero] at h
    exact h
theorem copied {W : World} {g : Nat} {l : Bs} (h : HasB W g l) (ty : TypeId) (dLen dCap : Nat) (s : ByteArray) (h1 : s.size ≤ dLen) (h2 : s.size ≤ l.length) :
    (Builtin.copy_ #[88, 9] ty #[.slice (some ⟨g, 0, none⟩) dLen dCap, .string s]).run Tryz.prog W = .ok (goInt s.size) (W.setRow g (encB (s.data.toList ++ l.drop s.size))) := by
  have h3 := Lib.run_copy_row_string (P := Tryz.prog) W 88 9 ty 5 g 0 dLen dCap s (encB l) _ Tryz.underlying88 (by kernel_rfl) h.blk h1 (by rw [encB_size]; omega)
  have h4 : ((encB l).toList.take 0 ++ Lib.byteCells s.data.toList ++ (encB l).toList.drop (0 + s.size)).toArray = encB (s.data.toList ++ l.drop s.size) := by
    simp [encB, Lib.byteCells, List.map_drop]
  rw [h3, h4]
theorem HasB.row {W : World} {g : Nat} {l : Bs} (h : HasB W g l) (l' : Bs) : HasB (W.setRow g (encB l')) g l' := setRow_heap W g _ _ _ _ h.blk
theorem text_of {W : World} {g : Nat} {l : Bs} (h : HasB W g l) (n cap : Nat) (hn : n ≤ l.length) : (convert 88 9 (.slice (some ⟨g, 0, none⟩) n cap)).run Tryz.prog W = .ok (.string ⟨(l.take n).toArray⟩) W := by
  have h1 := run_convert_bytes_back (P := Tryz.prog) W 88 9 5 ⟨g, 0, none⟩ cap (l.take n) Tryz.underlying88 Tryz.underlying5 Tryz.underlying9 (fun j hj => by
    have hj' : j < l.length := by rw [List.length_take] at hj; omega
    have hadd : (⟨g, 0, none⟩ : Addr).add j = ⟨g, j, none⟩ := by unfold Addr.add; split <;> simp_all
    rw [hadd, h.cell hj', List.getElem_take, List.getD_eq_getElem?_getD, List.getElem?_eq_getElem hj']
    rfl)
  rw [List.length_take, Nat.min_eq_left hn] at h1
  exact h1
end Go.Proofs.YtomnljigoljldaaGreatDoor.BB

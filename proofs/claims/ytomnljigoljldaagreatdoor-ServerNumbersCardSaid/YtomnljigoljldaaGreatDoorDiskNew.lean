/- A block of texts: made, stored into, copied into. No conditions but those stated. -/
/- What disk.New returns. Conditions: a number of sectors that it takes; strings.Repeat's contract. -/
import Derived.Test.YtomnljigoljldaaGreatDoorByteBlk
import Derived.RegionTactic
import Derived.Deep.Cut

namespace Go.Proofs.YtomnljigoljldaaGreatDoor.BB
open Go.RowKit Mailsack MM

def encS (l : List Bs) : Array Value := (l.map strV).toArray
theorem encS_size (l : List Bs) : (encS l).size = l.length := by simp [encS]
theorem encS_get {l : List Bs} {i : Nat} {x : Bs} (h : l[i]? = some x) : (encS l)[i]? = some (strV x) := by
  simp [encS, h]
theorem encS_put (l : List Bs) (i : Nat) (x : Bs) : (encS l).setIfInBounds i (strV x) = encS (l.set i x) := by
  simp [encS, List.map_set]
theorem encS_one (l : List Bs) : ∀ v ∈ (encS l).toList, v.oneCell' = true := by
  intro v hv
  simp [encS] at hv
  obtain ⟨b, _, rfl⟩ := hv
  rfl
theorem encS_none (n : Nat) : madeCells (Value.cells (.string ⟨#[]⟩)) (n * 1) = encS (List.replicate n []) := by
  apply Array.ext_getElem?
  intro i
  by_cases h : i < n
  · have : (encS (List.replicate n []))[i]? = some (strV []) := encS_get (by simp [h])
    rw [this]
    simp [madeCells, Value.cells, h, Nat.mod_one, strV]
  · rw [Array.getElem?_eq_none (by simp [madeCells]; omega), Array.getElem?_eq_none (by rw [encS_size]; simp; omega)]
/-- the block g holds these texts -/
def HasS (W : World) (g : Nat) (l : List Bs) : Prop := W.heap[g]? = some (.cells (encS l) 9 (0, 0))
theorem HasS.blk {W : World} {g : Nat} {l : List Bs} (h : HasS W g l) : W.heap[g]? = some (.cells (encS l) 9 (0, 0)) := h
theorem HasS.lt {W : World} {g : Nat} {l : List Bs} (h : HasS W g l) : g < W.heap.size := blk_lt h.blk
theorem HasS.cell {W : World} {g : Nat} {l : List Bs} (h : HasS W g l) {i : Nat} {x : Bs} (hi : l[i]? = some x) : W.cell? ⟨g, i, none⟩ = some (strV x) := by rw [cell_blk h.blk, encS_get hi]
theorem HasS.free {W : World} {g : Nat} {l : List Bs} (h : HasS W g l) (i : Nat) : W.frozen? ⟨g, i, none⟩ = false := free_blk h.blk i
theorem HasS.put {W : World} {g : Nat} {l : List Bs} (h : HasS W g l) (i : Nat) (x : Bs) : HasS (W.setCell ⟨g, i, none⟩ (strV x)) g (l.set i x) := by
  have := blk_set h.blk i (strV x)
  rw [encS_put] at this
  exact this
theorem HasS.drew {W : World} {g : Nat} {l : List Bs} (h : HasS W g l) : HasS W.drew g l := h
theorem HasS.below {W W' : World} {B g : Nat} {l : List Bs} (h : HasS W g l) (hb : Below B W W') (hg : g < B) : HasS W' g l := blk_below h.blk hb hg
theorem HasS.alloc {W : World} {g : Nat} {l : List Bs} (h : HasS W g l) (o : Obj) : HasS (W.alloc o) g l := blk_alloc h.blk o
theorem HasS.far {W : World} {g : Nat} {l : List Bs} (h : HasS W g l) {p : Addr} (hp : g ≠ p.block) (u : Value) : HasS (W.setCell p u) g l := blk_far h.blk hp u
theorem HasS.rd {W : World} {g : Nat} {l : List Bs} (h : HasS W g l) (c : Nat) (hc : l.length ≤ c) : RdS W (g + 1) (.slice (some ⟨g, 0, none⟩) l.length c) l :=
  ⟨_, c, rfl, hc, fun _ => ⟨g, 0, rfl, Nat.lt_succ_self g, fun j x hx => by rw [Nat.zero_add]; exact h.cell hx⟩⟩

theorem madeS (W : World) (n : Nat) (hm : n ≤ 1000000) : (Instr.makeSlice 40 (.int .i64 (n : Int)) (.int .i64 (n : Int))).run Tryz.prog W = .ok (.slice (some ⟨W.heap.size, 0, none⟩) n n) (W.alloc (.cells (encS (List.replicate n [])) 9)) := by
  have hinfo : (Tryz.prog.info? 9).map (fun i => (i.zero, i.size, i.bytes)) = some (some (.string ⟨#[]⟩), 1, 16) := by kernel_rfl
  cases hq : Tryz.prog.info? 9 with
  | none => rw [hq] at hinfo; cases hinfo
  | some i =>
    rw [hq] at hinfo
    simp only [Option.map_some, Option.some.injEq, Prod.mk.injEq] at hinfo
    obtain ⟨hz, hs, hb⟩ := hinfo
    have h := run_make (P := Tryz.prog) (w := W) 40 9 i _ Tryz.underlying40 hq hz .i64 .i64 (n : Int) (n : Int) (by omega) (by omega) (by rw [hb]; omega) (by omega)
    simp only [Int.toNat_natCast] at h
    rw [hs, encS_none] at h
    exact h
end Go.Proofs.YtomnljigoljldaaGreatDoor.BB


namespace Mailsack
/-- a write to a sector -/
structure Wr where
  at_ : Int
  data : Bs
/-- a disk -/
structure Dk where
  secs : List Bs
  cache : List Wr
def rowK (z : Bs) (n k : Nat) : List Bs := List.replicate k z ++ List.replicate (n - k) []
theorem rowK_set (z : Bs) {n k : Nat} (h : k < n) : (rowK z n k).set k z = rowK z n (k + 1) := by
  unfold rowK
  rw [List.set_append_right _ _ (by simp), List.length_replicate, Nat.sub_self, show n - k = (n - (k + 1)) + 1 by omega, List.replicate_succ, List.set_cons_zero, List.replicate_succ']
  simp
theorem rowK_all (z : Bs) (n : Nat) : rowK z n n = List.replicate n z := by simp [rowK]
theorem rowK_none (z : Bs) (n : Nat) : rowK z n 0 = List.replicate n [] := by simp [rowK]
theorem rowK_at (z : Bs) {n k : Nat} (h : k < n) : (rowK z n k)[k]? = some [] := by
  unfold rowK
  rw [List.getElem?_append_right (by simp), List.length_replicate, Nat.sub_self, show n - k = (n - (k + 1)) + 1 by omega, List.replicate_succ]
  rfl
end Mailsack
namespace Go.Proofs.YtomnljigoljldaaGreatDoor.DS
open Go.RowKit Mailsack MM BB

abbrev dskO (a b : Value) : Obj := .cells #[a, b] 44
structure NewI (w : World) (g : Nat) (l : List Bs) (W : World) : Prop where
  res : W.heap[w.heap.size]? = some (dskO (.slice none 0 0) (.slice none 0 0))
  row : HasS W g l
  bel : Below w.heap.size w W
  lt : w.heap.size < g
theorem NewI.put {w : World} {g : Nat} {l : List Bs} {W : World} (h : NewI w g l W) (i : Nat) (x : Bs) : NewI w g (l.set i x) (W.setCell ⟨g, i, none⟩ (strV x)) :=
  ⟨blk_far h.res (p := ⟨g, i, none⟩) (by have := h.lt; simp; omega) _, h.row.put i x, h.bel.setCell (p := ⟨g, i, none⟩) (Nat.le_of_lt h.lt) _, h.lt⟩

set_option maxHeartbeats 1000000 in
set_option maxRecDepth 100000 in
theorem new_any (n : Nat) (z : Bs) (w : World) (h1 : 1 ≤ n) (h2 : n ≤ 1024) (hR : ∀ W, Calls Tryz.prog 60 #[.string ⟨#[0]⟩, .int .i64 64] W fun e w' => e = .returned (strV z) ∧ Below W.heap.size W w') :
    Calls Tryz.prog 29 #[.int .i64 n] w fun e w' => ∃ g, e = .returned (.tuple #[.agg #[.slice (some ⟨g, 0, none⟩) n n, .slice none 0 0], .int .i64 0]) ∧ HasS w' g (List.replicate n z) ∧ w.heap.size < g ∧ Below w.heap.size w w' := by
  have HR := Lib.hid hR
  have HN := Lib.hid h2
  clear hR
  have t1 : ¬ ((n : Int) < 1) := by omega
  have t2 : ¬ (1024 < (n : Int)) := by omega
  have hmk := fun W => madeS W n (by omega)
  go_enter Tryz.func29, Tryz.ntmps29
  go_wp2_with fail
  refine (HR.out _).mono ?_
  rintro e w1 ⟨rfl, hb1⟩
  have B1 := Lib.hid (((Below.refl w.heap.size w).alloc (Nat.le_refl _) (dskO (.slice none 0 0) (.slice none 0 0))).trans (hb1.mono (by simp)))
  have P1 := Lib.hid (blk_below (blk_new w (dskO (.slice none 0 0) (.slice none 0 0))) hb1 (by simp))
  have hz1 : w.heap.size < w1.heap.size := by have := hb1.size; simp at this; omega
  have HI : Hid (NewI w w1.heap.size (rowK z n 0) (w1.alloc (.cells (encS (List.replicate n [])) 9))) := Lib.hid ⟨blk_alloc P1.out _, by rw [rowK_none]; exact blk_new _ _, B1.out.alloc B1.out.size _, hz1⟩
  clear hb1 HR
  go_wp2_with fail
  clear hmk
  go_loopw [19] (fun iv wr => ∃ k : Nat, k ≤ n ∧ iv = .int .i64 k ∧ Hid (NewI w w1.heap.size (rowK z n k) wr)) (fun iv _ => n - (intOf iv).toNat)
  case atStart => exact ⟨0, Nat.zero_le _, rfl, HI⟩
  case round =>
    obtain ⟨k, hk, rfl, hr⟩ := hrel
    by_cases hlt : k < n
    · have c0 := hr.out.row.cell (rowK_at z hlt)
      have f0 := hr.out.row.free k
      have HP := Lib.hid (hr.out.put k z)
      rw [rowK_set z hlt] at HP
      go_wp2
      exact ⟨⟨k + 1, by omega, by go_num, HP⟩, by simp [intOf]; omega⟩
    · obtain rfl : k = n := by omega
      rw [rowK_all] at hr
      have c0 := cell_blk hr.out.res 0
      have c1 := cell_blk hr.out.res 1
      have y0 := free_blk hr.out.res 0
      have y1 := free_blk hr.out.res 1
      have hB := blk_set (blk_set hr.out.res 0 (.slice (some ⟨w1.heap.size, 0, none⟩) k k)) 1 (.slice none 0 0)
      have HF : Hid (NewI w w1.heap.size (List.replicate k z) wr) := hr
      have f0 := cell_blk hB 0
      have f1 := cell_blk hB 1
      simp only [List.setIfInBounds_toArray, List.set_cons_zero, List.set_cons_succ, List.getElem?_toArray, List.getElem?_cons_zero, List.getElem?_cons_succ] at f0 f1
      clear hr hB
      go_wp2
      refine bodyPost_ret (v := .tuple #[.agg #[.slice (some ⟨w1.heap.size, 0, none⟩) k k, .slice none 0 0], .int .i64 0]) (by simp [results, Tryz.results29, go_sem, f0, f1]) rfl ?_
      refine ⟨_, rfl, ?_, hz1, ?_⟩
      · exact (HF.out.row.far (p := ⟨w.heap.size, 0, none⟩) (by simp; omega) _).far (p := ⟨w.heap.size, 1, none⟩) (by simp; omega) _
      · exact (HF.out.bel.setCell (p := ⟨w.heap.size, 0, none⟩) (Nat.le_refl _) _).setCell (p := ⟨w.heap.size, 1, none⟩) (Nat.le_refl _) _

set_option maxHeartbeats 1000000 in
set_option maxRecDepth 100000 in
theorem format_any (z : Bs) (w : World) (hR : ∀ W, Calls Tryz.prog 60 #[.string ⟨#[0]⟩, .int .i64 64] W fun e w' => e = .returned (strV z) ∧ Below W.heap.size W w') :
    Calls Tryz.prog 15 #[] w fun e w' => ∃ g n, n = 381 ∧ e = .returned (.agg #[.slice (some ⟨g, 0, none⟩) n n, .slice none 0 0]) ∧ HasS w' g (List.replicate n z) ∧ w.heap.size < g ∧ Below w.heap.size w w' := by
  obtain ⟨n, hn⟩ : ∃ n : Nat, n = 381 := ⟨_, rfl⟩
  have HN : Hid (∀ W, Calls Tryz.prog 29 #[.int .i64 381] W fun e w' => ∃ g, e = .returned (.tuple #[.agg #[.slice (some ⟨g, 0, none⟩) n n, .slice none 0 0], .int .i64 0]) ∧ HasS w' g (List.replicate n z) ∧ W.heap.size < g ∧ Below W.heap.size W w') := Lib.hid (fun W => by
    have := new_any n z W (by omega) (by omega) hR
    rw [hn] at this ⊢
    exact this)
  have HE := Lib.hid hn
  clear hn hR
  go_enter Tryz.func15, Tryz.ntmps15
  go_wp2_with fail
  refine (HN.out _).mono ?_
  rintro e w1 ⟨g, rfl, hs, hg, hb1⟩
  have HS := Lib.hid hs
  have B1 := Lib.hid (((Below.refl w.heap.size w).alloc (Nat.le_refl _) (dskO (.slice none 0 0) (.slice none 0 0))).trans (hb1.mono (by simp)))
  have P1 := Lib.hid (blk_below (blk_new w (dskO (.slice none 0 0) (.slice none 0 0))) hb1 (by simp))
  have hz1 : w.heap.size < w1.heap.size := by have := hb1.size; simp at this; omega
  have hg2 : w.heap.size < g := by simp at hg; omega
  clear hs hb1 HN hg
  have c0 := cell_blk P1.out 0
  have c1 := cell_blk P1.out 1
  have y0 := free_blk P1.out 0
  have y1 := free_blk P1.out 1
  have hB := blk_alloc (blk_set (blk_set P1.out 0 (.slice (some ⟨g, 0, none⟩) n n)) 1 (.slice none 0 0)) (dskO (.slice (some ⟨g, 0, none⟩) n n) (.slice none 0 0))
  have f0 := cell_blk hB 0
  have f1 := cell_blk hB 1
  simp only [List.setIfInBounds_toArray, List.set_cons_zero, List.set_cons_succ, List.getElem?_toArray, List.getElem?_cons_zero, List.getElem?_cons_succ] at f0 f1 c0 c1
  clear hB
  go_wp2
  refine bodyPost_ret (v := .agg #[.slice (some ⟨g, 0, none⟩) n n, .slice none 0 0]) (by simp [results, Tryz.results15, go_sem, f0, f1]) rfl ?_
  refine ⟨g, n, HE.out, rfl, ?_, hg2, ?_⟩
  · exact ((HS.out.far (p := ⟨w.heap.size, 0, none⟩) (by simp; omega) _).far (p := ⟨w.heap.size, 1, none⟩) (by simp; omega) _).alloc _
  · exact ((B1.out.setCell (p := ⟨w.heap.size, 0, none⟩) (Nat.le_refl _) _).setCell (p := ⟨w.heap.size, 1, none⟩) (Nat.le_refl _) _).alloc (by rw [size_set, size_set]; omega) _
end Go.Proofs.YtomnljigoljldaaGreatDoor.DS

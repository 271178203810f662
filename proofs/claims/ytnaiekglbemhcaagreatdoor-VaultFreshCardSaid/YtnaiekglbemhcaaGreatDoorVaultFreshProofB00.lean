/- Contracts of functions of the program. Conditions: those that each theorem states. -/
import Derived.WalkKit
import Derived.Below
import Derived.Laws.OwnMore
import Derived.Deep.AppendLies
import Derived.Deep.Draws
import Derived.Maps.AppendAt
import Derived.Lib.Hide
import Derived.Lib.IndexMore
import Derived.Test.YtnaiekglbemhcaaGreatDoorProg
import Derived.KernelRfl
import Derived.Lib.BufferWrite
import Derived.Lib.SlBuf
import Derived.Laws.IdiomStrings
import Derived.Laws.MakeOwn
import Derived.Laws.CopyOwn
import Derived.RegionTactic
import Derived.Deep.Cut
set_option maxHeartbeats 8000000
set_option maxRecDepth 100000
theorem _root_.hI' {p : Prop} (h : p) : Go.RowKit.Hid p := h
theorem _root_.gA {α : Type _} {l : List α} {i : Nat} : l.toArray[i]? = l[i]? := List.getElem?_toArray
theorem _root_.gB {α : Type _} {a : α} {l : List α} {i : Nat} : (a :: l)[i + 1]? = l[i]? := List.getElem?_cons_succ
theorem _root_.gC {α : Type _} {a : α} {l : List α} : (a :: l)[0]? = some a := List.getElem?_cons_zero
namespace Go.Proofs.MM
open Go.RowKit
abbrev xU (l : List UInt8) : Value := .string ⟨l.toArray⟩
theorem xKv {fn : Func} {t u v x : Tmp} (h : fn.results = #[.tmp t,.tmp u,.tmp v,.tmp x]) (tmps : Array Value) (P : Program) (w : World) :
  (results fn tmps).run P w = .ok (.tuple #[tmps.getD t undef,tmps.getD u undef,tmps.getD v undef,tmps.getD x undef]) w := by simp [results,h]
def xQ7 (w : World) (base : Nat) (v : Value) (xs : List (List UInt8)) : Prop := w.ownsRow base 9 1 v xs.length (xs.map xU)
theorem xQ7.nil (w : World) (base : Nat) : xQ7 w base (.slice none 0 0) [] := World.ownsRow_nil w base _ _
theorem xQ7.form {w : World} {base : Nat} {v : Value} {xs : List (List UInt8)} (h : xQ7 w base v xs) : ∃ A c,v = .slice A xs.length c ∧ xs.length ≤ c := by
 rcases h.2 with ⟨h1,h2⟩ | ⟨g,cap,cur,h1,_,_,h2,_⟩
 ·exact ⟨none,0,by rw [h1,h2],by omega⟩
 ·exact ⟨_,_,h1,h2⟩
theorem xC1 {w w' : World} (h : Below w.heap.size w w') (row : Option Nat) : w.grownBy w' row := ⟨h.os,h.tape,h.output,h.size,fun k hk _ => h.block k hk⟩
theorem below_drewN {B : Nat} {a w : World} (h : Below B a w) (n : Nat) : Below B a (w.drewN n) := ⟨h.os,h.tape,h.output,h.size,h.block⟩
theorem loc_of {v : Value} {g n cap H : Nat} (h : v.ownBlock = some g ∨ g = H) : (Value.slice (some ⟨g,0,none⟩) n cap).ownBlock = v.ownBlock ∨ (Value.slice (some ⟨g,0,none⟩) n cap).ownBlock = some H := by
 rcases h with h | rfl
 ·exact .inl h.symm
 ·exact .inr rfl
theorem xA {w : World} {g : Nat} {t : TypeId} {cs : Array Value} (h : w.heap[g]? = some (.cells cs t (0,0))) (i : Nat) : w.cell? ⟨g,i,none⟩ = cs[i]? := cell_of_row w g i cs t (0,0) h
theorem xK {w : World} {g : Nat} {t : TypeId} {cs : Array Value} (h : w.heap[g]? = some (.cells cs t (0,0))) (i : Nat) : w.frozen? ⟨g,i,none⟩ = false := by simp [World.frozen?,h]
theorem yB {w : World} {g : Nat} {t : TypeId} {cs : Array Value} (h : w.heap[g]? = some (.cells cs t (0,0))) (i : Nat) (u : Value) : (w.setCell ⟨g,i,none⟩ u).heap[g]? = some (.cells (cs.setIfInBounds i u) t (0,0)) := by
 simp [World.setCell,Array.getElem?_modify,h]
theorem _root_.xWj {w : World} {g : Nat} {t : TypeId} {c0 : Value} {l : List Value} (h : w.heap[g]? = some (.cells (c0 :: l).toArray t (0,0))) : w.cell? ⟨g,0,none⟩ = some c0 := (xA h 0).trans (by simp)
theorem _root_.uG {w : World} {g : Nat} {t : TypeId} {c0 c1 : Value} {l : List Value} (h : w.heap[g]? = some (.cells (c0 :: c1 :: l).toArray t (0,0))) : w.cell? ⟨g,0,none⟩ = some c0 ∧ w.cell? ⟨g,1,none⟩ = some c1 := ⟨(xA h 0).trans (by simp),(xA h 1).trans (by simp)⟩
theorem _root_.xO0 {w : World} {g : Nat} {t : TypeId} {c0 c1 c2 : Value} {l : List Value} (h : w.heap[g]? = some (.cells (c0 :: c1 :: c2 :: l).toArray t (0,0))) : w.cell? ⟨g,0,none⟩ = some c0 ∧ w.cell? ⟨g,1,none⟩ = some c1 ∧ w.cell? ⟨g,2,none⟩ = some c2 := ⟨(xA h 0).trans (by simp),(xA h 1).trans (by simp),(xA h 2).trans (by simp)⟩
theorem _root_.xM5 {w : World} {g : Nat} {t : TypeId} {c0 c1 c2 c3 : Value} {l : List Value} (h : w.heap[g]? = some (.cells (c0 :: c1 :: c2 :: c3 :: l).toArray t (0,0))) : w.cell? ⟨g,0,none⟩ = some c0 ∧ w.cell? ⟨g,1,none⟩ = some c1 ∧ w.cell? ⟨g,2,none⟩ = some c2 ∧ w.cell? ⟨g,3,none⟩ = some c3 := ⟨(xA h 0).trans (by simp),(xA h 1).trans (by simp),(xA h 2).trans (by simp),(xA h 3).trans (by simp)⟩
theorem _root_.xSf {w : World} {g : Nat} {t : TypeId} {c0 c1 c2 c3 c4 : Value} {l : List Value} (h : w.heap[g]? = some (.cells (c0 :: c1 :: c2 :: c3 :: c4 :: l).toArray t (0,0))) : w.cell? ⟨g,0,none⟩ = some c0 ∧ w.cell? ⟨g,1,none⟩ = some c1 ∧ w.cell? ⟨g,2,none⟩ = some c2 ∧ w.cell? ⟨g,3,none⟩ = some c3 ∧ w.cell? ⟨g,4,none⟩ = some c4 := ⟨(xA h 0).trans (by simp),(xA h 1).trans (by simp),(xA h 2).trans (by simp),(xA h 3).trans (by simp),(xA h 4).trans (by simp)⟩
theorem _root_.xPx {w : World} {g : Nat} {t : TypeId} {c0 c1 c2 c3 c4 c5 c6 : Value} {l : List Value} (h : w.heap[g]? = some (.cells (c0 :: c1 :: c2 :: c3 :: c4 :: c5 :: c6 :: l).toArray t (0,0))) : w.cell? ⟨g,0,none⟩ = some c0 ∧ w.cell? ⟨g,1,none⟩ = some c1 ∧ w.cell? ⟨g,2,none⟩ = some c2 ∧ w.cell? ⟨g,3,none⟩ = some c3 ∧ w.cell? ⟨g,4,none⟩ = some c4 ∧ w.cell? ⟨g,5,none⟩ = some c5 ∧ w.cell? ⟨g,6,none⟩ = some c6 := ⟨(xA h 0).trans (by simp),(xA h 1).trans (by simp),(xA h 2).trans (by simp),(xA h 3).trans (by simp),(xA h 4).trans (by simp),(xA h 5).trans (by simp),(xA h 6).trans (by simp)⟩
theorem _root_.xRx {w : World} {g : Nat} {t : TypeId} {c0 c1 c2 c3 c4 c5 c6 c7 : Value} {l : List Value} (h : w.heap[g]? = some (.cells (c0 :: c1 :: c2 :: c3 :: c4 :: c5 :: c6 :: c7 :: l).toArray t (0,0))) : w.cell? ⟨g,0,none⟩ = some c0 ∧ w.cell? ⟨g,1,none⟩ = some c1 ∧ w.cell? ⟨g,2,none⟩ = some c2 ∧ w.cell? ⟨g,3,none⟩ = some c3 ∧ w.cell? ⟨g,4,none⟩ = some c4 ∧ w.cell? ⟨g,5,none⟩ = some c5 ∧ w.cell? ⟨g,6,none⟩ = some c6 ∧ w.cell? ⟨g,7,none⟩ = some c7 := ⟨(xA h 0).trans (by simp),(xA h 1).trans (by simp),(xA h 2).trans (by simp),(xA h 3).trans (by simp),(xA h 4).trans (by simp),(xA h 5).trans (by simp),(xA h 6).trans (by simp),(xA h 7).trans (by simp)⟩
theorem xZ {w : World} {g : Nat} {o : Obj} (h : w.heap[g]? = some o) {p : Addr} (hp : g ≠ p.block) (u : Value) : (w.setCell p u).heap[g]? = some o := (Below.heap_setCell w p u g hp).trans h
theorem xI {w : World} {g : Nat} {o : Obj} (h : w.heap[g]? = some o) : g < w.heap.size := (Array.getElem?_eq_some_iff.1 h).1
theorem xP {w : World} {g : Nat} {o : Obj} (h : w.heap[g]? = some o) (o' : Obj) : (w.alloc o').heap[g]? = some o := (Below.heap_alloc w o' g (xI h)).trans h
theorem kX {w w' : World} {g : Nat} {o : Obj} {row : Option Nat} (h : w.heap[g]? = some o) (hg : w.grownBy w' row) (hne : some g ≠ row) : w'.heap[g]? = some o := (hg.block g (xI h) hne).trans h
theorem xE {w w' : World} {B g : Nat} {o : Obj} (h : w.heap[g]? = some o) (hb : Below B w w') (hg : g < B) : w'.heap[g]? = some o := (hb.block g hg).trans h
theorem xM (w : World) (o : Obj) : (w.alloc o).heap[w.heap.size]? = some o := heap_alloc_new w o
theorem zQ (w : World) (o o' : Obj) : ((w.alloc o).alloc o').heap[w.heap.size]? = some o := xP (xM w o) o'
theorem zM (w : World) (o o' : Obj) : ((w.alloc o).alloc o').heap[w.heap.size + 1]? = some o' := by
 have := xM (w.alloc o) o'
 rwa [show (w.alloc o).heap.size = w.heap.size + 1 by simp] at this
theorem size_set (w : World) (p : Addr) (u : Value) : (w.setCell p u).heap.size = w.heap.size := by simp [World.setCell]
theorem vD (w : World) (o : Obj) : (w.alloc o).heap.size = w.heap.size + 1 := by simp
def RdS (w : World) (B : Nat) (v : Value) (xs : List (List UInt8)) : Prop :=
 ∃ A c,v = .slice A xs.length c ∧ xs.length ≤ c ∧ (0 < xs.length → ∃ b off,A = some ⟨b,off,none⟩ ∧ b < B ∧ ∀ j x,xs[j]? = some x → w.cell? ⟨b,off + j,none⟩ = some (xU x))
theorem xQ7.rd {w : World} {base : Nat} {v : Value} {xs : List (List UInt8)} (h : xQ7 w base v xs) : RdS w w.heap.size v xs := by
 rcases h.2 with ⟨h1,h2⟩ | ⟨g,cap,cur,h1,hb,hg,hnc,_,_,htake⟩
 ·exact ⟨none,0,by rw [h1,h2],by omega,fun h => by omega⟩
 ·refine ⟨_,cap,h1,hnc,fun _ => ⟨g,0,rfl,xI hg,fun j x hx => ?_⟩⟩
  have := World.ownsRow.cells h (g := g) (by rw [h1]; rfl) j (xU x) (by simp [hx])
  rw [Nat.zero_add]
  have hadd : (⟨g,0,none⟩ : Addr).add j = ⟨g,j,none⟩ := by unfold Addr.add; split <;> simp_all
  rw [hadd] at this
  exact this
theorem RdS.keep {w w' : World} {B : Nat} {v : Value} {xs : List (List UInt8)} (h : RdS w B v xs) (hk : ∀ p : Addr,p.block < B → w'.cell? p = w.cell? p) : RdS w' B v xs := by
 obtain ⟨A,c,h1,h2,h3⟩ := h
 refine ⟨A,c,h1,h2,fun hn => ?_⟩
 obtain ⟨b,off,h4,h5,h6⟩ := h3 hn
 exact ⟨b,off,h4,h5,fun j x hx => (hk _ h5).trans (h6 j x hx)⟩
theorem RdS.below {w w' : World} {B B' : Nat} {v : Value} {xs : List (List UInt8)} (h : RdS w B v xs) (hb : Below B' w w') (hB : B ≤ B') : RdS w' B v xs := h.keep fun _ hp => hb.cell (by omega)
theorem RdS.more {w : World} {B B' : Nat} {v : Value} {xs : List (List UInt8)} (h : RdS w B v xs) (hB : B ≤ B') : RdS w B' v xs := by
 obtain ⟨A,c,h1,h2,h3⟩ := h
 refine ⟨A,c,h1,h2,fun hn => ?_⟩
 obtain ⟨b,off,h4,h5,h6⟩ := h3 hn
 exact ⟨b,off,h4,by omega,h6⟩
def lenOf (v : Value) : Nat := match v with
 | .string b => b.size
 | _ => 0
end Go.Proofs.MM
namespace Mailsack
abbrev Bs := List UInt8
end Mailsack
namespace Mailsack
def oct (z : Int) : UInt8 := UInt8.ofNat (z % 256).toNat
theorem kT (z : Int) : ((oct z).toNat : Int) = z % 256 := by
 unfold oct
 have h1 := Int.emod_nonneg z (b := 256) (by decide)
 have h2 := Int.emod_lt_of_pos z (b := 256) (by decide)
 rw [UInt8.toNat_ofNat',Nat.mod_eq_of_lt (by omega)]
 omega
def xQ (n : Nat) : Bs := List.replicate n 0
theorem yT (n : Nat) : (xQ n).length = n := by simp [xQ]
end Mailsack
namespace Go.Proofs.BB
open Go.RowKit Mailsack MM
def yJ (l : Bs) : Array Value := (l.map fun b => Value.int .u8 (b.toNat : Int)).toArray
theorem vC (l : Bs) : (yJ l).size = l.length := by simp [yJ]
theorem tL {l : Bs} {i : Nat} (h : i < l.length) : (yJ l)[i]? = some (.int .u8 ((l.getD i 0).toNat : Int)) := by
 simp [yJ,List.getD_eq_getElem?_getD,List.getElem?_eq_getElem h]
theorem xPr (l : Bs) (i : Nat) (b : UInt8) : (yJ l).setIfInBounds i (.int .u8 (b.toNat : Int)) = yJ (l.set i b) := by
 simp [yJ,List.map_set]
theorem xDf (l : Bs) (i : Nat) (z : Int) : (yJ l).setIfInBounds i (.int .u8 (z % 256)) = yJ (l.set i (oct z)) := by
 rw [← kT,xPr]
theorem xJz (l : Bs) : ∀ v ∈ (yJ l).toList,v.oneCell' = true := by
 intro v hv
 simp [yJ] at hv
 obtain ⟨b,_,rfl⟩ := hv
 rfl
theorem xVv (n : Nat) : madeCells (Value.cells (.int .u8 0)) (n * 1) = yJ (xQ n) := by
 unfold xQ
 apply Array.ext_getElem?
 intro i
 by_cases h : i < n
 ·have : (yJ (List.replicate n 0))[i]? = some (.int .u8 0) := by rw [tL (by simpa using h)]; simp [List.getD_eq_getElem?_getD,h]
  rw [this]
  simp [madeCells,Value.cells,h,Nat.mod_one]
 ·rw [Array.getElem?_eq_none (by simp [madeCells]; omega),Array.getElem?_eq_none (by rw [vC]; simp; omega)]
def jN (W : World) (g : Nat) (l : Bs) : Prop := W.heap[g]? = some (.cells (yJ l) 5 (0,0))
theorem jN.blk {W : World} {g : Nat} {l : Bs} (h : jN W g l) : W.heap[g]? = some (.cells (yJ l) 5 (0,0)) := h
theorem jN.cell {W : World} {g : Nat} {l : Bs} (h : jN W g l) {i : Nat} (hi : i < l.length) : W.cell? ⟨g,i,none⟩ = some (.int .u8 ((l.getD i 0).toNat : Int)) := by rw [xA h.blk,tL hi]
theorem jN.free {W : World} {g : Nat} {l : Bs} (h : jN W g l) (i : Nat) : W.frozen? ⟨g,i,none⟩ = false := xK h.blk i
theorem jN.put {W : World} {g : Nat} {l : Bs} (h : jN W g l) (i : Nat) (z : Int) : jN (W.setCell ⟨g,i,none⟩ (.int .u8 (z % 256))) g (l.set i (oct z)) := by
 have := yB h.blk i (.int .u8 (z % 256))
 rw [xDf] at this
 exact this
theorem made (W : World) (n c : Nat) (hc : n ≤ c) (hm : c ≤ 281474976710656) : (Instr.makeSlice 113 (.int .i64 (n : Int)) (.int .i64 (c : Int))).run Tryz.prog W = .ok (.slice (some ⟨W.heap.size,0,none⟩) n c) (W.alloc (.cells (yJ (xQ c)) 5)) := by
 have hinfo : (Tryz.prog.info? 5).map (fun i => (i.zero,i.size,i.bytes)) = some (some (.int .u8 0),1,1) := by kernel_rfl
 cases hq : Tryz.prog.info? 5 with
 | none => rw [hq] at hinfo; cases hinfo
 | some i =>
  rw [hq] at hinfo
  simp only [Option.map_some,Option.some.injEq,Prod.mk.injEq] at hinfo
  obtain ⟨hz,hs,hb⟩ := hinfo
  have h := run_make (P := Tryz.prog) (w := W) 113 5 i _ Tryz.underlying113 hq hz .i64 .i64 (n : Int) (c : Int) (by omega) (by omega) (by rw [hb]; omega) (by omega)
  simp only [Int.toNat_natCast] at h
  rw [hs,xVv] at h
  exact h
theorem copied {W : World} {g : Nat} {l : Bs} (h : jN W g l) (ty : TypeId) (dLen dCap : Nat) (s : ByteArray) (h1 : s.size ≤ dLen) (h2 : s.size ≤ l.length) :
  (Builtin.copy_ #[113,9] ty #[.slice (some ⟨g,0,none⟩) dLen dCap,.string s]).run Tryz.prog W = .ok (goInt s.size) (W.setRow g (yJ (s.data.toList ++ l.drop s.size))) := by
 have h3 := Lib.run_copy_row_string (P := Tryz.prog) W 113 9 ty 5 g 0 dLen dCap s (yJ l) _ Tryz.underlying113 (by kernel_rfl) h.blk h1 (by rw [vC]; omega)
 have h4 : ((yJ l).toList.take 0 ++ Lib.byteCells s.data.toList ++ (yJ l).toList.drop (0 + s.size)).toArray = yJ (s.data.toList ++ l.drop s.size) := by
  simp [yJ,Lib.byteCells,List.map_drop]
 rw [h3,h4]
theorem jN.row {W : World} {g : Nat} {l : Bs} (h : jN W g l) (l' : Bs) : jN (W.setRow g (yJ l')) g l' := setRow_heap W g _ _ _ _ h.blk
theorem xMh {W : World} {g : Nat} {l : Bs} (h : jN W g l) (n cap : Nat) (hn : n ≤ l.length) : (convert 113 9 (.slice (some ⟨g,0,none⟩) n cap)).run Tryz.prog W = .ok (.string ⟨(l.take n).toArray⟩) W := by
 have h1 := run_convert_bytes_back (P := Tryz.prog) W 113 9 5 ⟨g,0,none⟩ cap (l.take n) Tryz.underlying113 Tryz.underlying5 Tryz.underlying9 (fun j hj => by
  have hj' : j < l.length := by rw [List.length_take] at hj; omega
  have hadd : (⟨g,0,none⟩ : Addr).add j = ⟨g,j,none⟩ := by unfold Addr.add; split <;> simp_all
  rw [hadd,h.cell hj',List.getElem_take,List.getD_eq_getElem?_getD,List.getElem?_eq_getElem hj']
  rfl)
 rw [List.length_take,Nat.min_eq_left hn] at h1
 exact h1
end Go.Proofs.BB
namespace Go.Proofs.BB
open Go.RowKit Mailsack MM
def encS (l : List Bs) : Array Value := (l.map xU).toArray
theorem xLg (l : List Bs) : (encS l).size = l.length := by simp [encS]
theorem xPn {l : List Bs} {i : Nat} {x : Bs} (h : l[i]? = some x) : (encS l)[i]? = some (xU x) := by
 simp [encS,h]
theorem xYj (l : List Bs) (i : Nat) (x : Bs) : (encS l).setIfInBounds i (xU x) = encS (l.set i x) := by
 simp [encS,List.map_set]
theorem xVt (n : Nat) : madeCells (Value.cells (.string ⟨#[]⟩)) (n * 1) = encS (List.replicate n []) := by
 apply Array.ext_getElem?
 intro i
 by_cases h : i < n
 ·have : (encS (List.replicate n []))[i]? = some (xU []) := xPn (by simp [h])
  rw [this]
  simp [madeCells,Value.cells,h,Nat.mod_one,xU]
 ·rw [Array.getElem?_eq_none (by simp [madeCells]; omega),Array.getElem?_eq_none (by rw [xLg]; simp; omega)]
def jB (W : World) (g : Nat) (l : List Bs) : Prop := W.heap[g]? = some (.cells (encS l) 9 (0,0))
theorem jB.blk {W : World} {g : Nat} {l : List Bs} (h : jB W g l) : W.heap[g]? = some (.cells (encS l) 9 (0,0)) := h
theorem jB.lt {W : World} {g : Nat} {l : List Bs} (h : jB W g l) : g < W.heap.size := xI h.blk
theorem jB.cell {W : World} {g : Nat} {l : List Bs} (h : jB W g l) {i : Nat} {x : Bs} (hi : l[i]? = some x) : W.cell? ⟨g,i,none⟩ = some (xU x) := by rw [xA h.blk,xPn hi]
theorem jB.free {W : World} {g : Nat} {l : List Bs} (h : jB W g l) (i : Nat) : W.frozen? ⟨g,i,none⟩ = false := xK h.blk i
theorem jB.put {W : World} {g : Nat} {l : List Bs} (h : jB W g l) (i : Nat) (x : Bs) : jB (W.setCell ⟨g,i,none⟩ (xU x)) g (l.set i x) := by
 have := yB h.blk i (xU x)
 rw [xYj] at this
 exact this
theorem jB.below {W W' : World} {B g : Nat} {l : List Bs} (h : jB W g l) (hb : Below B W W') (hg : g < B) : jB W' g l := xE h.blk hb hg
theorem jB.alloc {W : World} {g : Nat} {l : List Bs} (h : jB W g l) (o : Obj) : jB (W.alloc o) g l := xP h.blk o
theorem jB.far {W : World} {g : Nat} {l : List Bs} (h : jB W g l) {p : Addr} (hp : g ≠ p.block) (u : Value) : jB (W.setCell p u) g l := xZ h.blk hp u
theorem jB.rd {W : World} {g : Nat} {l : List Bs} (h : jB W g l) (c : Nat) (hc : l.length ≤ c) : RdS W (g + 1) (.slice (some ⟨g,0,none⟩) l.length c) l :=
 ⟨_,c,rfl,hc,fun _ => ⟨g,0,rfl,Nat.lt_succ_self g,fun j x hx => by rw [Nat.zero_add]; exact h.cell hx⟩⟩
theorem madeS (W : World) (n : Nat) (hm : n ≤ 1000000) : (Instr.makeSlice 25 (.int .i64 (n : Int)) (.int .i64 (n : Int))).run Tryz.prog W = .ok (.slice (some ⟨W.heap.size,0,none⟩) n n) (W.alloc (.cells (encS (List.replicate n [])) 9)) := by
 have hinfo : (Tryz.prog.info? 9).map (fun i => (i.zero,i.size,i.bytes)) = some (some (.string ⟨#[]⟩),1,16) := by kernel_rfl
 cases hq : Tryz.prog.info? 9 with
 | none => rw [hq] at hinfo; cases hinfo
 | some i =>
  rw [hq] at hinfo
  simp only [Option.map_some,Option.some.injEq,Prod.mk.injEq] at hinfo
  obtain ⟨hz,hs,hb⟩ := hinfo
  have h := run_make (P := Tryz.prog) (w := W) 25 9 i _ Tryz.underlying25 hq hz .i64 .i64 (n : Int) (n : Int) (by omega) (by omega) (by rw [hb]; omega) (by omega)
  simp only [Int.toNat_natCast] at h
  rw [hs,xVt] at h
  exact h
end Go.Proofs.BB
namespace Mailsack
structure Wr where
 at_ : Int
 data : Bs
structure Dk where
 secs : List Bs
 cache : List Wr
def xTn (z : Bs) (n k : Nat) : List Bs := List.replicate k z ++ List.replicate (n - k) []
theorem xX8 (z : Bs) {n k : Nat} (h : k < n) : (xTn z n k).set k z = xTn z n (k + 1) := by
 unfold xTn
 rw [List.set_append_right _ _ (by simp),List.length_replicate,Nat.sub_self,show n - k = (n - (k + 1)) + 1 by omega,List.replicate_succ,List.set_cons_zero,List.replicate_succ']
 simp
theorem xX9 (z : Bs) (n : Nat) : xTn z n n = List.replicate n z := by simp [xTn]
theorem xTm (z : Bs) (n : Nat) : xTn z n 0 = List.replicate n [] := by simp [xTn]
theorem yAj (z : Bs) {n k : Nat} (h : k < n) : (xTn z n k)[k]? = some [] := by
 unfold xTn
 rw [List.getElem?_append_right (by simp),List.length_replicate,Nat.sub_self,show n - k = (n - (k + 1)) + 1 by omega,List.replicate_succ]
 rfl
end Mailsack
namespace Go.Proofs.DS
open Go.RowKit Mailsack MM BB
abbrev yD (a b : Value) : Obj := .cells #[a,b] 28
structure NewI (w : World) (g : Nat) (l : List Bs) (W : World) : Prop where
 res : W.heap[w.heap.size]? = some (yD (.slice none 0 0) (.slice none 0 0))
 row : jB W g l
 bel : Below w.heap.size w W
 lt : w.heap.size < g
theorem NewI.put {w : World} {g : Nat} {l : List Bs} {W : World} (h : NewI w g l W) (i : Nat) (x : Bs) : NewI w g (l.set i x) (W.setCell ⟨g,i,none⟩ (xU x)) :=
 ⟨xZ h.res (p := ⟨g,i,none⟩) (by have := h.lt; simp; omega) _,h.row.put i x,h.bel.setCell (p := ⟨g,i,none⟩) (Nat.le_of_lt h.lt) _,h.lt⟩
theorem yAx (n : Nat) (z : Bs) (w : World) (h1 : 1 ≤ n) (h2 : n ≤ 1024) (hR : ∀ W,Calls Tryz.prog 75 #[.string ⟨#[0]⟩,.int .i64 64] W fun e w' => e = .returned (xU z) ∧ Below W.heap.size W w') :
  Calls Tryz.prog 28 #[.int .i64 n] w fun e w' => ∃ g,e = .returned (.tuple #[.agg #[.slice (some ⟨g,0,none⟩) n n,.slice none 0 0],.int .i64 0]) ∧ jB w' g (List.replicate n z) ∧ w.heap.size < g ∧ Below w.heap.size w w' := by
 have HR := hI' hR
 have HN := hI' h2
 clear hR
 have t1 : ¬ ((n : Int) < 1) := by omega
 have t2 : ¬ (1024 < (n : Int)) := by omega
 have hmk := fun W => madeS W n (by omega)
 go_enter Tryz.func28,Tryz.ntmps28
 go_wp2_with fail
 refine (HR.out _).mono ?_
 rintro e w1 ⟨rfl,hb1⟩
 have B1 := hI' (((Below.refl w.heap.size w).alloc (Nat.le_refl _) (yD (.slice none 0 0) (.slice none 0 0))).trans (hb1.mono (by simp)))
 have P1 := hI' (xE (xM w (yD (.slice none 0 0) (.slice none 0 0))) hb1 (by simp))
 have hz1 : w.heap.size < w1.heap.size := by have := hb1.size; simp at this; omega
 have HI : Hid (NewI w w1.heap.size (xTn z n 0) (w1.alloc (.cells (encS (List.replicate n [])) 9))) := hI' ⟨xP P1.out _,by rw [xTm]; exact xM _ _,B1.out.alloc B1.out.size _,hz1⟩
 clear hb1 HR
 go_wp2_with fail
 clear hmk
 go_loopw [19] (fun iv wr => ∃ k : Nat,k ≤ n ∧ iv = .int .i64 k ∧ Hid (NewI w w1.heap.size (xTn z n k) wr)) (fun iv _ => n - (intOf iv).toNat)
 case atStart => exact ⟨0,Nat.zero_le _,rfl,HI⟩
 case round =>
  obtain ⟨k,hk,rfl,hr⟩ := hrel
  by_cases hlt : k < n
  ·have c0 := hr.out.row.cell (yAj z hlt)
   have f0 := hr.out.row.free k
   have HP := hI' (hr.out.put k z)
   rw [xX8 z hlt] at HP
   go_wp2
   exact ⟨⟨k + 1,by omega,by go_num,HP⟩,by simp [intOf]; omega⟩
  ·obtain rfl : k = n := by omega
   rw [xX9] at hr
   have c0 := xA hr.out.res 0
   have c1 := xA hr.out.res 1
   have y0 := xK hr.out.res 0
   have y1 := xK hr.out.res 1
   have hB := yB (yB hr.out.res 0 (.slice (some ⟨w1.heap.size,0,none⟩) k k)) 1 (.slice none 0 0)
   have HF : Hid (NewI w w1.heap.size (List.replicate k z) wr) := hr
   have f0 := xA hB 0
   have f1 := xA hB 1
   simp only [List.setIfInBounds_toArray,List.set_cons_zero,List.set_cons_succ,gA,gC,gB] at f0 f1
   clear hr hB
   go_wp2
   refine bodyPost_ret (v := .tuple #[.agg #[.slice (some ⟨w1.heap.size,0,none⟩) k k,.slice none 0 0],.int .i64 0]) (by simp [results,Tryz.results28,go_sem,f0,f1]) rfl ?_
   refine ⟨_,rfl,?_,hz1,?_⟩
   ·exact (HF.out.row.far (p := ⟨w.heap.size,0,none⟩) (by simp; omega) _).far (p := ⟨w.heap.size,1,none⟩) (by simp; omega) _
   ·exact (HF.out.bel.setCell (p := ⟨w.heap.size,0,none⟩) (Nat.le_refl _) _).setCell (p := ⟨w.heap.size,1,none⟩) (Nat.le_refl _) _
theorem xRm (z : Bs) (w : World) (hR : ∀ W,Calls Tryz.prog 75 #[.string ⟨#[0]⟩,.int .i64 64] W fun e w' => e = .returned (xU z) ∧ Below W.heap.size W w') :
  Calls Tryz.prog 7 #[] w fun e w' => ∃ g n,n = 381 ∧ e = .returned (.agg #[.slice (some ⟨g,0,none⟩) n n,.slice none 0 0]) ∧ jB w' g (List.replicate n z) ∧ w.heap.size < g ∧ Below w.heap.size w w' := by
 obtain ⟨n,hn⟩ : ∃ n : Nat,n = 381 := ⟨_,rfl⟩
 have HN : Hid (∀ W,Calls Tryz.prog 28 #[.int .i64 381] W fun e w' => ∃ g,e = .returned (.tuple #[.agg #[.slice (some ⟨g,0,none⟩) n n,.slice none 0 0],.int .i64 0]) ∧ jB w' g (List.replicate n z) ∧ W.heap.size < g ∧ Below W.heap.size W w') := hI' (fun W => by
  have := yAx n z W (by omega) (by omega) hR
  rw [hn] at this ⊢
  exact this)
 have HE := hI' hn
 clear hn hR
 go_enter Tryz.func7,Tryz.ntmps7
 go_wp2_with fail
 refine (HN.out _).mono ?_
 rintro e w1 ⟨g,rfl,hs,hg,hb1⟩
 have HS := hI' hs
 have B1 := hI' (((Below.refl w.heap.size w).alloc (Nat.le_refl _) (yD (.slice none 0 0) (.slice none 0 0))).trans (hb1.mono (by simp)))
 have P1 := hI' (xE (xM w (yD (.slice none 0 0) (.slice none 0 0))) hb1 (by simp))
 have hz1 : w.heap.size < w1.heap.size := by have := hb1.size; simp at this; omega
 have hg2 : w.heap.size < g := by simp at hg; omega
 clear hs hb1 HN hg
 have c0 := xA P1.out 0
 have c1 := xA P1.out 1
 have y0 := xK P1.out 0
 have y1 := xK P1.out 1
 have hB := xP (yB (yB P1.out 0 (.slice (some ⟨g,0,none⟩) n n)) 1 (.slice none 0 0)) (yD (.slice (some ⟨g,0,none⟩) n n) (.slice none 0 0))
 have f0 := xA hB 0
 have f1 := xA hB 1
 simp only [List.setIfInBounds_toArray,List.set_cons_zero,List.set_cons_succ,gA,gC,gB] at f0 f1 c0 c1
 clear hB
 go_wp2
 refine bodyPost_ret (v := .agg #[.slice (some ⟨g,0,none⟩) n n,.slice none 0 0]) (by simp [results,Tryz.results7,go_sem,f0,f1]) rfl ?_
 refine ⟨g,n,HE.out,rfl,?_,hg2,?_⟩
 ·exact ((HS.out.far (p := ⟨w.heap.size,0,none⟩) (by simp; omega) _).far (p := ⟨w.heap.size,1,none⟩) (by simp; omega) _).alloc _
 ·exact ((B1.out.setCell (p := ⟨w.heap.size,0,none⟩) (Nat.le_refl _) _).setCell (p := ⟨w.heap.size,1,none⟩) (Nat.le_refl _) _).alloc (by rw [size_set,size_set]; omega) _
end Go.Proofs.DS

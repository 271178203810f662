/- Contracts of functions of the program. Conditions: those that each theorem states. -/
import Derived.Test.YtnaiekglbemhcaaGreatDoorVaultFreshProofB00
import Derived.Test.YtnaiekglbemhcaaGreatDoorProg
import Derived.KernelRfl
import Derived.Lib.Hide
import Derived.Shelf.Strings.Builder1
import Derived.Shelf.Strings.Builder2
import Derived.Shelf.Strings.OnBuilder
import Derived.Shelf.Small.Bits
import Derived.Shelf.Small.Wraps
import Derived.Shelf.Strings.BuilderF
import Derived.Shelf.Strings.BuilderK
import Derived.Shelf.Strings.Builder2Cap
import Derived.Shelf.Strconv.Itoa0
import Derived.Shelf.Strconv.Itoa1
import Derived.Shelf.LaysM
import Derived.Shelf.Strconv.Itoa2
import Derived.Shelf.Strconv.Itoa3
import Derived.Shelf.Strconv.Clone
import Derived.Shelf.Sort.Plain
import Derived.Shelf.Strings.Prefix
import Derived.Shelf.Bits.Mul64
import Derived.Shelf.Strings.Repeat
import Derived.Shelf.Strings.BuilderCap
import Derived.Shelf.Slices.CompactS
import Derived.Shelf.Slices.Cells
import Derived.Ground.SlgmProg
import Derived.Shelf.SortM.SortNone
set_option maxHeartbeats 8000000
set_option maxRecDepth 100000
namespace Go.Proofs.SV
open Go.RowKit MM
structure Tn (P : Nat → Prop) (w w' : World) : Prop where
 os : w'.os = w.os
 tape : w'.tape = w.tape
 output : w'.output = w.output
 size : w.heap.size ≤ w'.heap.size
 block : ∀ k,k < w.heap.size → ¬ P k → w'.heap[k]? = w.heap[k]?
section
variable {P : Nat → Prop} {a b c : World}
theorem Tn.refl (P : Nat → Prop) (w : World) : Tn P w w := ⟨rfl,rfl,rfl,Nat.le_refl _,fun _ _ _ => rfl⟩
theorem Tn.trans (h : Tn P a b) (k : Tn P b c) : Tn P a c :=
 ⟨k.os.trans h.os,k.tape.trans h.tape,k.output.trans h.output,Nat.le_trans h.size k.size,fun i hi hp => (k.block i (Nat.lt_of_lt_of_le hi h.size) hp).trans (h.block i hi hp)⟩
theorem Tn.of (h : Below a.heap.size a b) : Tn P a b := ⟨h.os,h.tape,h.output,h.size,fun i hi _ => h.block i hi⟩
theorem Tn.call (h : Tn P a b) (k : Below b.heap.size b c) : Tn P a c := h.trans (Tn.of k)
theorem Tn.set (h : Tn P a b) {p : Addr} (hp : P p.block ∨ a.heap.size ≤ p.block) (u : Value) : Tn P a (b.setCell p u) :=
 ⟨h.os,h.tape,h.output,by rw [size_set]; exact h.size,fun i hi hq => by
  rw [Below.heap_setCell b p u i (fun e => by subst e; rcases hp with hp | hp; exact hq hp; omega)]
  exact h.block i hi hq⟩
theorem Tn.alloc (h : Tn P a b) (o : Obj) : Tn P a (b.alloc o) := h.call ((Below.refl _ b).alloc (Nat.le_refl _) o)
theorem Tn.drew (h : Tn P a b) : Tn P a b.drew := ⟨h.os,h.tape,h.output,h.size,h.block⟩
theorem Tn.below {B : Nat} (h : Tn P a b) (hP : ∀ k,P k → B ≤ k) (hB : B ≤ a.heap.size) : Below B a b :=
 ⟨h.os,h.tape,h.output,h.size,fun i hi => h.block i (Nat.lt_of_lt_of_le hi hB) (fun hp => by have := hP i hp; omega)⟩
theorem Tn.blk (h : Tn P a b) {k : Nat} {o : Obj} (hk : a.heap[k]? = some o) (hp : ¬ P k) : b.heap[k]? = some o := (h.block k (xI hk) hp).trans hk
theorem Tn.more {P' : Nat → Prop} (h : Tn P a b) (hP : ∀ k,P k → P' k) : Tn P' a b := ⟨h.os,h.tape,h.output,h.size,fun i hi hp => h.block i hi (fun q => hp (hP i q))⟩
end
def yR (b : Nat) : Nat → List Value → World → World
 | _,[],W => W
 | i,a :: l,W => yR b (i + 1) l (W.setCell ⟨b,i,none⟩ a)
theorem yQ {b g : Nat} {o : Obj} (hne : g ≠ b) : ∀ (l : List Value) (i : Nat) (W : World),W.heap[g]? = some o → (yR b i l W).heap[g]? = some o
 | [],_,_,h => h
 | _ :: l,i,_,h => yQ hne l (i + 1) _ (xZ h (p := ⟨b,i,none⟩) hne _)
theorem xG0 {P : Nat → Prop} {a : World} {b : Nat} (hb : P b ∨ a.heap.size ≤ b) : ∀ (l : List Value) (i : Nat) (W : World),Tn P a W → Tn P a (yR b i l W)
 | [],_,_,h => h
 | _ :: l,i,_,h => xG0 hb l (i + 1) _ (h.set (p := ⟨b,i,none⟩) hb _)
theorem zZ {B : Nat} {a : World} {b : Nat} (hb : B ≤ b) : ∀ (l : List Value) (i : Nat) (W : World),Below B a W → Below B a (yR b i l W)
 | [],_,_,h => h
 | _ :: l,i,_,h => zZ hb l (i + 1) _ (h.setCell (p := ⟨b,i,none⟩) hb _)
theorem xDv {b : Nat} {t : TypeId} : ∀ (l : List Value) (i : Nat) (W : World) (cs : Array Value),W.heap[b]? = some (.cells cs t (0,0)) → i + l.length ≤ cs.size →
  (yR b i l W).heap[b]? = some (.cells (cs.toList.take i ++ l ++ cs.toList.drop (i + l.length)).toArray t (0,0))
 | [],i,W,cs,h,_ => by
  unfold yR
  rw [h]
  simp
 | a :: l,i,W,cs,h,hi => by
  simp only [List.length_cons] at hi
  have h1 := yB h i a
  have h2 := xDv l (i + 1) _ _ h1 (by simp; omega)
  unfold yR
  rw [h2]
  congr 2
  apply congrArg
  apply List.ext_getElem?
  intro j
  simp only [Array.toList_setIfInBounds,List.getElem?_append,List.length_take,List.length_set,Array.length_toList,List.getElem?_take,List.getElem?_drop,List.getElem?_set,List.length_append,List.length_cons]
  by_cases h1 : j < i
  ·rw [if_pos (by omega),if_pos (by omega),if_pos (by omega),if_neg (by omega),if_pos (by omega),if_pos (by omega),if_pos (by omega)]
  ·by_cases h2 : j = i
   ·subst h2
    rw [if_pos (by omega),if_pos (by omega),if_pos (by omega),if_pos rfl,if_pos (by omega),if_pos (by omega),if_neg (by omega),show j - min j cs.size = 0 by omega]
    rfl
   ·by_cases h3 : j < i + 1 + l.length
    ·rw [if_pos (by omega),if_neg (by omega),if_pos (by omega),if_neg (by omega),show j - min i cs.size = (j - min (i + 1) cs.size) + 1 by omega,List.getElem?_cons_succ]
    ·rw [if_neg (by omega),if_neg (by omega),if_neg (by omega)]
     congr 1
     omega
theorem uS {b : Nat} {t : TypeId} {l : List Value} {W : World} {cs : Array Value} (h : W.heap[b]? = some (.cells cs t (0,0))) (hl : l.length = cs.size) : (yR b 0 l W).heap[b]? = some (.cells l.toArray t (0,0)) := by
 rw [xDv l 0 W cs h (by omega),show 0 + l.length = cs.toList.length by simp [hl]]
 simp
theorem _root_.xNv {W a : World} {b B : Nat} {t : TypeId} {c0 c1 : Value} (ho : W.heap[b]? = some (.cells #[c0,c1] t (0,0))) (hb : Below B a W) (hB : B ≤ b) (v0 v1 : Value) (U : World) (h : U = (W.setCell ⟨b,0,none⟩ v0).setCell ⟨b,1,none⟩ v1) : W.cell? ⟨b,0,none⟩ = some c0 ∧ W.frozen? ⟨b,0,none⟩ = false ∧ U.cell? ⟨b,0,none⟩ = some v0 ∧ W.cell? ⟨b,1,none⟩ = some c1 ∧ W.frozen? ⟨b,1,none⟩ = false ∧ U.cell? ⟨b,1,none⟩ = some v1 ∧ Hid (Below B a U) := by
 subst h
 have hs := uS (b := b) (l := [v0,v1]) ho rfl
 exact ⟨xA ho 0,xK ho 0,xA hs 0,xA ho 1,xK ho 1,xA hs 1,hI' (zZ hB [v0,v1] 0 _ hb)⟩
theorem _root_.xH1 {W a : World} {b B : Nat} {t : TypeId} {c0 c1 c2 : Value} (ho : W.heap[b]? = some (.cells #[c0,c1,c2] t (0,0))) (hb : Below B a W) (hB : B ≤ b) (v0 v1 v2 : Value) (U : World) (h : U = ((W.setCell ⟨b,0,none⟩ v0).setCell ⟨b,1,none⟩ v1).setCell ⟨b,2,none⟩ v2) : W.cell? ⟨b,0,none⟩ = some c0 ∧ W.frozen? ⟨b,0,none⟩ = false ∧ U.cell? ⟨b,0,none⟩ = some v0 ∧ W.cell? ⟨b,1,none⟩ = some c1 ∧ W.frozen? ⟨b,1,none⟩ = false ∧ U.cell? ⟨b,1,none⟩ = some v1 ∧ W.cell? ⟨b,2,none⟩ = some c2 ∧ W.frozen? ⟨b,2,none⟩ = false ∧ U.cell? ⟨b,2,none⟩ = some v2 ∧ Hid (Below B a U) := by
 subst h
 have hs := uS (b := b) (l := [v0,v1,v2]) ho rfl
 exact ⟨xA ho 0,xK ho 0,xA hs 0,xA ho 1,xK ho 1,xA hs 1,xA ho 2,xK ho 2,xA hs 2,hI' (zZ hB [v0,v1,v2] 0 _ hb)⟩
theorem _root_.cpl4 {W a : World} {b B : Nat} {t : TypeId} {c0 c1 c2 c3 : Value} (ho : W.heap[b]? = some (.cells #[c0,c1,c2,c3] t (0,0))) (hb : Below B a W) (hB : B ≤ b) (v0 v1 v2 v3 : Value) (U : World) (h : U = (((W.setCell ⟨b,0,none⟩ v0).setCell ⟨b,1,none⟩ v1).setCell ⟨b,2,none⟩ v2).setCell ⟨b,3,none⟩ v3) : W.cell? ⟨b,0,none⟩ = some c0 ∧ W.frozen? ⟨b,0,none⟩ = false ∧ U.cell? ⟨b,0,none⟩ = some v0 ∧ W.cell? ⟨b,1,none⟩ = some c1 ∧ W.frozen? ⟨b,1,none⟩ = false ∧ U.cell? ⟨b,1,none⟩ = some v1 ∧ W.cell? ⟨b,2,none⟩ = some c2 ∧ W.frozen? ⟨b,2,none⟩ = false ∧ U.cell? ⟨b,2,none⟩ = some v2 ∧ W.cell? ⟨b,3,none⟩ = some c3 ∧ W.frozen? ⟨b,3,none⟩ = false ∧ U.cell? ⟨b,3,none⟩ = some v3 ∧ Hid (Below B a U) := by
 subst h
 have hs := uS (b := b) (l := [v0,v1,v2,v3]) ho rfl
 exact ⟨xA ho 0,xK ho 0,xA hs 0,xA ho 1,xK ho 1,xA hs 1,xA ho 2,xK ho 2,xA hs 2,xA ho 3,xK ho 3,xA hs 3,hI' (zZ hB [v0,v1,v2,v3] 0 _ hb)⟩
theorem _root_.xYp {W a : World} {b B : Nat} {t : TypeId} {c0 c1 c2 c3 c4 : Value} (ho : W.heap[b]? = some (.cells #[c0,c1,c2,c3,c4] t (0,0))) (hb : Below B a W) (hB : B ≤ b) (v0 v1 v2 v3 v4 : Value) (U : World) (h : U = ((((W.setCell ⟨b,0,none⟩ v0).setCell ⟨b,1,none⟩ v1).setCell ⟨b,2,none⟩ v2).setCell ⟨b,3,none⟩ v3).setCell ⟨b,4,none⟩ v4) : W.cell? ⟨b,0,none⟩ = some c0 ∧ W.frozen? ⟨b,0,none⟩ = false ∧ U.cell? ⟨b,0,none⟩ = some v0 ∧ W.cell? ⟨b,1,none⟩ = some c1 ∧ W.frozen? ⟨b,1,none⟩ = false ∧ U.cell? ⟨b,1,none⟩ = some v1 ∧ W.cell? ⟨b,2,none⟩ = some c2 ∧ W.frozen? ⟨b,2,none⟩ = false ∧ U.cell? ⟨b,2,none⟩ = some v2 ∧ W.cell? ⟨b,3,none⟩ = some c3 ∧ W.frozen? ⟨b,3,none⟩ = false ∧ U.cell? ⟨b,3,none⟩ = some v3 ∧ W.cell? ⟨b,4,none⟩ = some c4 ∧ W.frozen? ⟨b,4,none⟩ = false ∧ U.cell? ⟨b,4,none⟩ = some v4 ∧ Hid (Below B a U) := by
 subst h
 have hs := uS (b := b) (l := [v0,v1,v2,v3,v4]) ho rfl
 exact ⟨xA ho 0,xK ho 0,xA hs 0,xA ho 1,xK ho 1,xA hs 1,xA ho 2,xK ho 2,xA hs 2,xA ho 3,xK ho 3,xA hs 3,xA ho 4,xK ho 4,xA hs 4,hI' (zZ hB [v0,v1,v2,v3,v4] 0 _ hb)⟩
theorem _root_.cpl7 {W a : World} {b B : Nat} {t : TypeId} {c0 c1 c2 c3 c4 c5 c6 : Value} (ho : W.heap[b]? = some (.cells #[c0,c1,c2,c3,c4,c5,c6] t (0,0))) (hb : Below B a W) (hB : B ≤ b) (v0 v1 v2 v3 v4 v5 v6 : Value) (U : World) (h : U = ((((((W.setCell ⟨b,0,none⟩ v0).setCell ⟨b,1,none⟩ v1).setCell ⟨b,2,none⟩ v2).setCell ⟨b,3,none⟩ v3).setCell ⟨b,4,none⟩ v4).setCell ⟨b,5,none⟩ v5).setCell ⟨b,6,none⟩ v6) : W.cell? ⟨b,0,none⟩ = some c0 ∧ W.frozen? ⟨b,0,none⟩ = false ∧ U.cell? ⟨b,0,none⟩ = some v0 ∧ W.cell? ⟨b,1,none⟩ = some c1 ∧ W.frozen? ⟨b,1,none⟩ = false ∧ U.cell? ⟨b,1,none⟩ = some v1 ∧ W.cell? ⟨b,2,none⟩ = some c2 ∧ W.frozen? ⟨b,2,none⟩ = false ∧ U.cell? ⟨b,2,none⟩ = some v2 ∧ W.cell? ⟨b,3,none⟩ = some c3 ∧ W.frozen? ⟨b,3,none⟩ = false ∧ U.cell? ⟨b,3,none⟩ = some v3 ∧ W.cell? ⟨b,4,none⟩ = some c4 ∧ W.frozen? ⟨b,4,none⟩ = false ∧ U.cell? ⟨b,4,none⟩ = some v4 ∧ W.cell? ⟨b,5,none⟩ = some c5 ∧ W.frozen? ⟨b,5,none⟩ = false ∧ U.cell? ⟨b,5,none⟩ = some v5 ∧ W.cell? ⟨b,6,none⟩ = some c6 ∧ W.frozen? ⟨b,6,none⟩ = false ∧ U.cell? ⟨b,6,none⟩ = some v6 ∧ Hid (Below B a U) := by
 subst h
 have hs := uS (b := b) (l := [v0,v1,v2,v3,v4,v5,v6]) ho rfl
 exact ⟨xA ho 0,xK ho 0,xA hs 0,xA ho 1,xK ho 1,xA hs 1,xA ho 2,xK ho 2,xA hs 2,xA ho 3,xK ho 3,xA hs 3,xA ho 4,xK ho 4,xA hs 4,xA ho 5,xK ho 5,xA hs 5,xA ho 6,xK ho 6,xA hs 6,hI' (zZ hB [v0,v1,v2,v3,v4,v5,v6] 0 _ hb)⟩
theorem _root_.xSe {W a : World} {b B : Nat} {t : TypeId} {c0 c1 c2 c3 c4 c5 c6 c7 : Value} (ho : W.heap[b]? = some (.cells #[c0,c1,c2,c3,c4,c5,c6,c7] t (0,0))) (hb : Below B a W) (hB : B ≤ b) (v0 v1 v2 v3 v4 v5 v6 v7 : Value) (U : World) (h : U = (((((((W.setCell ⟨b,0,none⟩ v0).setCell ⟨b,1,none⟩ v1).setCell ⟨b,2,none⟩ v2).setCell ⟨b,3,none⟩ v3).setCell ⟨b,4,none⟩ v4).setCell ⟨b,5,none⟩ v5).setCell ⟨b,6,none⟩ v6).setCell ⟨b,7,none⟩ v7) : W.cell? ⟨b,0,none⟩ = some c0 ∧ W.frozen? ⟨b,0,none⟩ = false ∧ U.cell? ⟨b,0,none⟩ = some v0 ∧ W.cell? ⟨b,1,none⟩ = some c1 ∧ W.frozen? ⟨b,1,none⟩ = false ∧ U.cell? ⟨b,1,none⟩ = some v1 ∧ W.cell? ⟨b,2,none⟩ = some c2 ∧ W.frozen? ⟨b,2,none⟩ = false ∧ U.cell? ⟨b,2,none⟩ = some v2 ∧ W.cell? ⟨b,3,none⟩ = some c3 ∧ W.frozen? ⟨b,3,none⟩ = false ∧ U.cell? ⟨b,3,none⟩ = some v3 ∧ W.cell? ⟨b,4,none⟩ = some c4 ∧ W.frozen? ⟨b,4,none⟩ = false ∧ U.cell? ⟨b,4,none⟩ = some v4 ∧ W.cell? ⟨b,5,none⟩ = some c5 ∧ W.frozen? ⟨b,5,none⟩ = false ∧ U.cell? ⟨b,5,none⟩ = some v5 ∧ W.cell? ⟨b,6,none⟩ = some c6 ∧ W.frozen? ⟨b,6,none⟩ = false ∧ U.cell? ⟨b,6,none⟩ = some v6 ∧ W.cell? ⟨b,7,none⟩ = some c7 ∧ W.frozen? ⟨b,7,none⟩ = false ∧ U.cell? ⟨b,7,none⟩ = some v7 ∧ Hid (Below B a U) := by
 subst h
 have hs := uS (b := b) (l := [v0,v1,v2,v3,v4,v5,v6,v7]) ho rfl
 exact ⟨xA ho 0,xK ho 0,xA hs 0,xA ho 1,xK ho 1,xA hs 1,xA ho 2,xK ho 2,xA hs 2,xA ho 3,xK ho 3,xA hs 3,xA ho 4,xK ho 4,xA hs 4,xA ho 5,xK ho 5,xA hs 5,xA ho 6,xK ho 6,xA hs 6,xA ho 7,xK ho 7,xA hs 7,hI' (zZ hB [v0,v1,v2,v3,v4,v5,v6,v7] 0 _ hb)⟩
end Go.Proofs.SV
namespace Go.Proofs
open Go.Shelf
open Go.RowKit in
def Tryz.lays169_ren : Go.Shelf.Ren := ⟨fun | 169 => 53 | n => n,fun | 70 => 112 | 9 => 9 | 0 => 0 | 72 => 115 | 37 => 113 | 127 => 176 | 3 => 3 | 5 => 5 | n => n,fun | n => n⟩
theorem Tryz.lays169 : Go.Proofs.Lays.n169 Tryz.prog Tryz.lays169_ren := {
 mixed := by kernel_rfl
 f169 := Tryz.func53.trans (congrArg some (by kernel_rfl))
 t0 := Tryz.underlying0
 a0 := Tryz.isAgg0
 z0 := Tryz.sizeOf0
 v0 := Tryz.zeroValue0
 t3 := Tryz.underlying3
 a3 := Tryz.isAgg3
 z3 := Tryz.sizeOf3
 v3 := Tryz.zeroValue3
 t9 := Tryz.underlying9
 a9 := Tryz.isAgg9
 z9 := Tryz.sizeOf9
 v9 := Tryz.zeroValue9
 t37 := Tryz.underlying113
 a37 := Tryz.isAgg113
 z37 := Tryz.sizeOf113
 v37 := Tryz.zeroValue113
 t70 := Tryz.underlying112
 a70 := Tryz.isAgg112
 z70 := Tryz.sizeOf112
 v70 := Tryz.zeroValue112
 t72 := Tryz.underlying115
 a72 := Tryz.isAgg115
 z72 := Tryz.sizeOf115
 v72 := Tryz.zeroValue115
 t127 := Tryz.underlying176
 a127 := Tryz.isAgg176
 z127 := Tryz.sizeOf176
 v127 := Tryz.zeroValue176 }
theorem Tryz.Builder_Extra_169 : Builder.Extra Tryz.prog Tryz.lays169_ren := {
 sizeBuilder := by kernel_rfl
 liesBuilder := by kernel_rfl
 t5 := Tryz.underlying5
 a5 := Tryz.isAgg5
 z5 := Tryz.sizeOf5
 v5 := Tryz.zeroValue5
 infoByte := by kernel_rfl
 cellsByte := by kernel_rfl
 sizeByte := by kernel_rfl
 neB5 := by decide }
open Go.RowKit in
open Go.RowKit in
open Go.RowKit in
open Go.RowKit in
open Go.RowKit in
def Tryz.lays156_ren : Go.Shelf.Ren := ⟨fun | 156 => 68 | 165 => 111 | 166 => 49 | 169 => 53 | 240 => 102 | 241 => 159 | 276 => 155 | 277 => 201 | n => n,fun | 31 => 25 | 9 => 9 | 3 => 3 | 4 => 4 | 0 => 0 | 20 => 20 | 72 => 115 | 76 => 118 | 70 => 112 | 37 => 113 | 75 => 117 | 127 => 176 | 164 => 226 | 5 => 5 | 80 => 125 | n => n,fun | n => n⟩
theorem Tryz.lays156 : Go.Proofs.Lays.n156 Tryz.prog Tryz.lays156_ren := {
 mixed := by kernel_rfl
 f156 := Tryz.func68.trans (congrArg some (by kernel_rfl))
 f165 := Tryz.func111.trans (congrArg some (by kernel_rfl))
 f166 := Tryz.func49.trans (congrArg some (by kernel_rfl))
 f169 := Tryz.func53.trans (congrArg some (by kernel_rfl))
 f240 := Tryz.func102.trans (congrArg some (by kernel_rfl))
 f241 := Tryz.func159.trans (congrArg some (by kernel_rfl))
 f276 := Tryz.func155.trans (congrArg some (by kernel_rfl))
 f277 := Tryz.func201.trans (congrArg some (by kernel_rfl))
 t0 := Tryz.underlying0
 a0 := Tryz.isAgg0
 z0 := Tryz.sizeOf0
 v0 := Tryz.zeroValue0
 t3 := Tryz.underlying3
 a3 := Tryz.isAgg3
 z3 := Tryz.sizeOf3
 v3 := Tryz.zeroValue3
 t4 := Tryz.underlying4
 a4 := Tryz.isAgg4
 z4 := Tryz.sizeOf4
 v4 := Tryz.zeroValue4
 t9 := Tryz.underlying9
 a9 := Tryz.isAgg9
 z9 := Tryz.sizeOf9
 v9 := Tryz.zeroValue9
 t20 := Tryz.underlying20
 a20 := Tryz.isAgg20
 z20 := Tryz.sizeOf20
 v20 := Tryz.zeroValue20
 t31 := Tryz.underlying25
 a31 := Tryz.isAgg25
 z31 := Tryz.sizeOf25
 v31 := Tryz.zeroValue25
 t37 := Tryz.underlying113
 a37 := Tryz.isAgg113
 z37 := Tryz.sizeOf113
 v37 := Tryz.zeroValue113
 t70 := Tryz.underlying112
 a70 := Tryz.isAgg112
 z70 := Tryz.sizeOf112
 v70 := Tryz.zeroValue112
 t72 := Tryz.underlying115
 a72 := Tryz.isAgg115
 z72 := Tryz.sizeOf115
 v72 := Tryz.zeroValue115
 t75 := Tryz.underlying117
 a75 := Tryz.isAgg117
 z75 := Tryz.sizeOf117
 v75 := Tryz.zeroValue117
 t76 := Tryz.underlying118
 a76 := Tryz.isAgg118
 z76 := Tryz.sizeOf118
 v76 := Tryz.zeroValue118
 t127 := Tryz.underlying176
 a127 := Tryz.isAgg176
 z127 := Tryz.sizeOf176
 v127 := Tryz.zeroValue176
 t164 := Tryz.underlying226
 a164 := Tryz.isAgg226
 z164 := Tryz.sizeOf226
 v164 := Tryz.zeroValue226 }
theorem Tryz.Builder_Extra_156 : Builder.Extra Tryz.prog Tryz.lays156_ren := {
 sizeBuilder := by kernel_rfl
 liesBuilder := by kernel_rfl
 t5 := Tryz.underlying5
 a5 := Tryz.isAgg5
 z5 := Tryz.sizeOf5
 v5 := Tryz.zeroValue5
 infoByte := by kernel_rfl
 cellsByte := by kernel_rfl
 sizeByte := by kernel_rfl
 neB5 := by decide }
open Go.RowKit in
open Go.RowKit in
theorem Tryz.strings_Join (bk o c : Nat) (xs : List ByteArray) (sep : ByteArray) (w : World) (hcells : ∀ (j : Nat) x,xs[j]? = some x → w.cell? ⟨bk,o + j,none⟩ = some (.string x)) (hbk : bk < w.heap.size) (hN : xs.length ≤ 140737488355328) (hcap : xs.length ≤ c) (hlen : (Lib.join (xs.map (·.data.toList)) sep.data.toList).length ≤ 140737488355328) :
  Calls Tryz.prog 68 #[.slice (some ⟨bk,o,none⟩) xs.length c,.string sep] w fun e w' => e = .returned (.string ⟨(Lib.join (xs.map (·.data.toList)) sep.data.toList).toArray⟩) ∧ Below w.heap.size w w' := Any.strings_Join Tryz.lays156 Tryz.Builder_Extra_156 bk o c xs sep w hcells hbk hN hcap hlen
open Go.RowKit in
def Tryz.lays103_ren : Go.Shelf.Ren := ⟨fun | 103 => 35 | 210 => 87 | 206 => 130 | n => n,fun | 9 => 9 | 4 => 4 | 24 => 89 | 3 => 3 | n => n,fun | n => n⟩
theorem Tryz.lays103 : Go.Proofs.Lays.n103 Tryz.prog Tryz.lays103_ren := {
 mixed := by kernel_rfl
 f103 := Tryz.func35.trans (congrArg some (by kernel_rfl))
 f206 := Tryz.func130.trans (congrArg some (by kernel_rfl))
 f210 := Tryz.func87.trans (congrArg some (by kernel_rfl))
 t3 := Tryz.underlying3
 a3 := Tryz.isAgg3
 z3 := Tryz.sizeOf3
 v3 := Tryz.zeroValue3
 t4 := Tryz.underlying4
 a4 := Tryz.isAgg4
 z4 := Tryz.sizeOf4
 v4 := Tryz.zeroValue4
 t9 := Tryz.underlying9
 a9 := Tryz.isAgg9
 z9 := Tryz.sizeOf9
 v9 := Tryz.zeroValue9
 t24 := Tryz.underlying89
 a24 := Tryz.isAgg89
 z24 := Tryz.sizeOf89
 v24 := Tryz.zeroValue89 }
open Go.RowKit in
theorem Tryz.strings_CutPrefix (s p : ByteArray) (w : World) :
  Calls Tryz.prog 35 #[.string s,.string p] w fun e w' => e = .returned (.tuple #[.string ⟨(Lib.trimPrefix s.data.toList p.data.toList).toArray⟩,.bool (Lib.hasPrefix s.data.toList p.data.toList)]) ∧ w' = w := Any.strings_CutPrefix Tryz.lays103 s p w
open Go.RowKit in
open Go.RowKit in
open Go.RowKit in
open Go.RowKit in
open Go.RowKit in
open Go.RowKit in
theorem Tryz.Builder_String_k (B b : Nat) (l : List UInt8) (w : World) (h : Lib.IsBuilderF 115 5 B b (Lib.byteCells l) w) (h0 : l ≠ []) :
  Calls Tryz.prog 53 #[.pointer (some ⟨b,0,none⟩)] w fun e w' => e = .returned (.string ⟨l.toArray⟩) ∧ (Lib.IsBuilderF 115 5 B b (Lib.byteCells l) w' ∧ Below B w w' ∧ Lib.OthersKept 5 (some b) w w') := Any.Builder_String_k Tryz.lays169 Tryz.Builder_Extra_169 B b l w h h0
open Go.RowKit in
open Go.RowKit in
open Go.RowKit in
open Go.RowKit in
open Go.Lib in
open Go.Lib in
open Go.Lib in
open Go.Lib in
open Go.RowKit Go.Sort Go.Lib in
open Go.RowKit Go.Sort Go.Lib in
open Go.RowKit Go.Sort Go.Lib in
open Go.RowKit Go.Sort Go.Lib in
open Go.RowKit Go.Sort Go.Lib in
open Go.RowKit Go.Sort Go.Lib in
open Go.RowKit Go.Sort Go.Lib in
open Go.RowKit in
def Tryz.lays189_ren : Go.Shelf.Ren := ⟨fun | 189 => 37 | 125 => 89 | 257 => 88 | 128 => 140 | 129 => 141 | 294 => 131 | 295 => 132 | 296 => 133 | 297 => 134 | 298 => 135 | 299 => 136 | 216 => 137 | 300 => 138 | 301 => 139 | 328 => 183 | 329 => 184 | 330 => 185 | 331 => 186 | 332 => 187 | 215 => 188 | 343 => 214 | n => n,fun | 28 => 49 | 3 => 3 | 46 => 160 | 0 => 0 | 51 => 184 | 53 => 208 | 4 => 4 | 183 => 200 | 182 => 199 | 131 => 91 | 5 => 5 | 9 => 9 | 218 => 252 | 222 => 256 | 228 => 283 | 229 => 137 | n => n,fun | n => n⟩
theorem Tryz.lays189 : Go.Proofs.Lays.n189 Tryz.prog Tryz.lays189_ren := {
 mixed := by kernel_rfl
 f125 := Tryz.func89.trans (congrArg some (by kernel_rfl))
 f128 := Tryz.func140.trans (congrArg some (by kernel_rfl))
 f129 := Tryz.func141.trans (congrArg some (by kernel_rfl))
 f189 := Tryz.func37.trans (congrArg some (by kernel_rfl))
 f215 := Tryz.func188.trans (congrArg some (by kernel_rfl))
 f216 := Tryz.func137.trans (congrArg some (by kernel_rfl))
 f257 := Tryz.func88.trans (congrArg some (by kernel_rfl))
 f294 := Tryz.func131.trans (congrArg some (by kernel_rfl))
 f295 := Tryz.func132.trans (congrArg some (by kernel_rfl))
 f296 := Tryz.func133.trans (congrArg some (by kernel_rfl))
 f297 := Tryz.func134.trans (congrArg some (by kernel_rfl))
 f298 := Tryz.func135.trans (congrArg some (by kernel_rfl))
 f299 := Tryz.func136.trans (congrArg some (by kernel_rfl))
 f300 := Tryz.func138.trans (congrArg some (by kernel_rfl))
 f301 := Tryz.func139.trans (congrArg some (by kernel_rfl))
 f328 := Tryz.func183.trans (congrArg some (by kernel_rfl))
 f329 := Tryz.func184.trans (congrArg some (by kernel_rfl))
 f330 := Tryz.func185.trans (congrArg some (by kernel_rfl))
 f331 := Tryz.func186.trans (congrArg some (by kernel_rfl))
 f332 := Tryz.func187.trans (congrArg some (by kernel_rfl))
 f343 := Tryz.func214.trans (congrArg some (by kernel_rfl))
 t0 := Tryz.underlying0
 a0 := Tryz.isAgg0
 z0 := Tryz.sizeOf0
 v0 := Tryz.zeroValue0
 t3 := Tryz.underlying3
 a3 := Tryz.isAgg3
 z3 := Tryz.sizeOf3
 v3 := Tryz.zeroValue3
 t4 := Tryz.underlying4
 a4 := Tryz.isAgg4
 z4 := Tryz.sizeOf4
 v4 := Tryz.zeroValue4
 t5 := Tryz.underlying5
 a5 := Tryz.isAgg5
 z5 := Tryz.sizeOf5
 v5 := Tryz.zeroValue5
 t9 := Tryz.underlying9
 a9 := Tryz.isAgg9
 z9 := Tryz.sizeOf9
 v9 := Tryz.zeroValue9
 t28 := Tryz.underlying49
 a28 := Tryz.isAgg49
 z28 := Tryz.sizeOf49
 v28 := Tryz.zeroValue49
 t46 := Tryz.underlying160
 a46 := Tryz.isAgg160
 z46 := Tryz.sizeOf160
 v46 := Tryz.zeroValue160
 t51 := Tryz.underlying184
 a51 := Tryz.isAgg184
 z51 := Tryz.sizeOf184
 v51 := Tryz.zeroValue184
 t53 := Tryz.underlying208
 a53 := Tryz.isAgg208
 z53 := Tryz.sizeOf208
 v53 := Tryz.zeroValue208
 t131 := Tryz.underlying91
 a131 := Tryz.isAgg91
 z131 := Tryz.sizeOf91
 v131 := Tryz.zeroValue91
 t182 := Tryz.underlying199
 a182 := Tryz.isAgg199
 z182 := Tryz.sizeOf199
 v182 := Tryz.zeroValue199
 t183 := Tryz.underlying200
 a183 := Tryz.isAgg200
 z183 := Tryz.sizeOf200
 v183 := Tryz.zeroValue200
 t218 := Tryz.underlying252
 a218 := Tryz.isAgg252
 z218 := Tryz.sizeOf252
 v218 := Tryz.zeroValue252
 t222 := Tryz.underlying256
 a222 := Tryz.isAgg256
 z222 := Tryz.sizeOf256
 v222 := Tryz.zeroValue256
 t228 := Tryz.underlying283
 a228 := Tryz.isAgg283
 z228 := Tryz.sizeOf283
 v228 := Tryz.zeroValue283
 t229 := Tryz.underlying137
 a229 := Tryz.isAgg137
 z229 := Tryz.sizeOf137
 v229 := Tryz.zeroValue137 }
open Go.Sort Go.RowKit in
theorem Tryz.slices_Sort_int (blk off cap : Nat) (zs : List Int) (w : World) (hH : Holds (Value.int .i64) w blk off zs.toArray) (hblk : blk < w.heap.size) (hsz : zs.length < 4611686018427387904) :
  Calls Tryz.prog 37 #[.slice (some ⟨blk,off,none⟩) zs.length cap] w fun e w' =>
   e = .returned (.tuple #[]) ∧ ∃ n os,w' = grow (putRow (Value.int .i64) (Sort.ahead w n) blk off (zs.mergeSort fun x y => decide (x ≤ y)).toArray) os := Any.slices_Sort_int Tryz.lays189 blk off cap zs w hH hblk hsz
def Tryz.lays190_ren : Go.Shelf.Ren := ⟨fun | 190 => 85 | 125 => 89 | 258 => 129 | 128 => 140 | 129 => 141 | 302 => 174 | 303 => 175 | 304 => 176 | 305 => 177 | 306 => 178 | 307 => 179 | 308 => 180 | 309 => 181 | 310 => 182 | 333 => 210 | 329 => 184 | 330 => 185 | 334 => 211 | 335 => 212 | 336 => 213 | 344 => 222 | n => n,fun | 31 => 25 | 9 => 9 | 3 => 3 | 46 => 160 | 0 => 0 | 51 => 184 | 53 => 208 | 4 => 4 | 183 => 200 | 182 => 199 | 131 => 91 | 5 => 5 | 218 => 252 | 222 => 256 | 228 => 283 | 229 => 137 | n => n,fun | n => n⟩
theorem Tryz.lays190 : Go.Proofs.Lays.n190 Tryz.prog Tryz.lays190_ren := {
 mixed := by kernel_rfl
 f125 := Tryz.func89.trans (congrArg some (by kernel_rfl))
 f128 := Tryz.func140.trans (congrArg some (by kernel_rfl))
 f129 := Tryz.func141.trans (congrArg some (by kernel_rfl))
 f190 := Tryz.func85.trans (congrArg some (by kernel_rfl))
 f258 := Tryz.func129.trans (congrArg some (by kernel_rfl))
 f302 := Tryz.func174.trans (congrArg some (by kernel_rfl))
 f303 := Tryz.func175.trans (congrArg some (by kernel_rfl))
 f304 := Tryz.func176.trans (congrArg some (by kernel_rfl))
 f305 := Tryz.func177.trans (congrArg some (by kernel_rfl))
 f306 := Tryz.func178.trans (congrArg some (by kernel_rfl))
 f307 := Tryz.func179.trans (congrArg some (by kernel_rfl))
 f308 := Tryz.func180.trans (congrArg some (by kernel_rfl))
 f309 := Tryz.func181.trans (congrArg some (by kernel_rfl))
 f310 := Tryz.func182.trans (congrArg some (by kernel_rfl))
 f329 := Tryz.func184.trans (congrArg some (by kernel_rfl))
 f330 := Tryz.func185.trans (congrArg some (by kernel_rfl))
 f333 := Tryz.func210.trans (congrArg some (by kernel_rfl))
 f334 := Tryz.func211.trans (congrArg some (by kernel_rfl))
 f335 := Tryz.func212.trans (congrArg some (by kernel_rfl))
 f336 := Tryz.func213.trans (congrArg some (by kernel_rfl))
 f344 := Tryz.func222.trans (congrArg some (by kernel_rfl))
 t0 := Tryz.underlying0
 a0 := Tryz.isAgg0
 z0 := Tryz.sizeOf0
 v0 := Tryz.zeroValue0
 t3 := Tryz.underlying3
 a3 := Tryz.isAgg3
 z3 := Tryz.sizeOf3
 v3 := Tryz.zeroValue3
 t4 := Tryz.underlying4
 a4 := Tryz.isAgg4
 z4 := Tryz.sizeOf4
 v4 := Tryz.zeroValue4
 t5 := Tryz.underlying5
 a5 := Tryz.isAgg5
 z5 := Tryz.sizeOf5
 v5 := Tryz.zeroValue5
 t9 := Tryz.underlying9
 a9 := Tryz.isAgg9
 z9 := Tryz.sizeOf9
 v9 := Tryz.zeroValue9
 t31 := Tryz.underlying25
 a31 := Tryz.isAgg25
 z31 := Tryz.sizeOf25
 v31 := Tryz.zeroValue25
 t46 := Tryz.underlying160
 a46 := Tryz.isAgg160
 z46 := Tryz.sizeOf160
 v46 := Tryz.zeroValue160
 t51 := Tryz.underlying184
 a51 := Tryz.isAgg184
 z51 := Tryz.sizeOf184
 v51 := Tryz.zeroValue184
 t53 := Tryz.underlying208
 a53 := Tryz.isAgg208
 z53 := Tryz.sizeOf208
 v53 := Tryz.zeroValue208
 t131 := Tryz.underlying91
 a131 := Tryz.isAgg91
 z131 := Tryz.sizeOf91
 v131 := Tryz.zeroValue91
 t182 := Tryz.underlying199
 a182 := Tryz.isAgg199
 z182 := Tryz.sizeOf199
 v182 := Tryz.zeroValue199
 t183 := Tryz.underlying200
 a183 := Tryz.isAgg200
 z183 := Tryz.sizeOf200
 v183 := Tryz.zeroValue200
 t218 := Tryz.underlying252
 a218 := Tryz.isAgg252
 z218 := Tryz.sizeOf252
 v218 := Tryz.zeroValue252
 t222 := Tryz.underlying256
 a222 := Tryz.isAgg256
 z222 := Tryz.sizeOf256
 v222 := Tryz.zeroValue256
 t228 := Tryz.underlying283
 a228 := Tryz.isAgg283
 z228 := Tryz.sizeOf283
 v228 := Tryz.zeroValue283
 t229 := Tryz.underlying137
 a229 := Tryz.isAgg137
 z229 := Tryz.sizeOf137
 v229 := Tryz.zeroValue137 }
open Go.Sort Go.RowKit in
theorem Tryz.slices_Sort_string (blk off cap : Nat) (ss : List (List UInt8)) (w : World) (hH : Holds encStr w blk off ss.toArray) (hblk : blk < w.heap.size) (hsz : ss.length < 4611686018427387904) :
  Calls Tryz.prog 85 #[.slice (some ⟨blk,off,none⟩) ss.length cap] w fun e w' =>
   e = .returned (.tuple #[]) ∧ ∃ n os,w' = grow (putRow encStr (Sort.ahead w n) blk off (ss.mergeSort fun x y => decide (x ≤ y)).toArray) os := Any.slices_Sort_string Tryz.lays190 blk off cap ss w hH hblk hsz
open Go.RowKit Go.Lib in
open Go.RowKit Go.Lib in
def Tryz.lays264_ren : Go.Shelf.Ren := ⟨fun | 264 => 167 | n => n,fun | 53 => 208 | 46 => 160 | n => n,fun | n => n⟩
theorem Tryz.lays264 : Go.Proofs.Lays.n264 Tryz.prog Tryz.lays264_ren := {
 mixed := by kernel_rfl
 f264 := Tryz.func167.trans (congrArg some (by kernel_rfl))
 t46 := Tryz.underlying160
 a46 := Tryz.isAgg160
 z46 := Tryz.sizeOf160
 v46 := Tryz.zeroValue160
 t53 := Tryz.underlying208
 a53 := Tryz.isAgg208
 z53 := Tryz.sizeOf208
 v53 := Tryz.zeroValue208 }
open Go.RowKit Go.Lib in
theorem Tryz.bits_Mul64 (x y : Nat) (hx : x < 18446744073709551616) (hy : y < 18446744073709551616) (w : World) :
  Calls Tryz.prog 167 #[.int .u64 x,.int .u64 y] w fun e w' => e = .returned (.tuple #[.int .u64 ((x * y / 18446744073709551616 : Nat) : Int),.int .u64 ((x * y % 18446744073709551616 : Nat) : Int)]) ∧ w' = w := Any.bits_Mul64 Tryz.lays264 x y hx hy w
open Go.RowKit Go.Lib in
def Tryz.lays105_ren : Go.Shelf.Ren := ⟨fun | 105 => 75 | 212 => 118 | 99 => 119 | 165 => 111 | 166 => 49 | 170 => 120 | 169 => 53 | 263 => 166 | 264 => 167 | 206 => 130 | 240 => 102 | 241 => 159 | 276 => 155 | 277 => 201 | n => n,fun | 9 => 9 | 3 => 3 | 4 => 4 | 20 => 20 | 0 => 0 | 46 => 160 | 109 => 186 | 5 => 5 | 72 => 115 | 76 => 118 | 51 => 184 | 146 => 240 | 53 => 208 | 148 => 242 | 70 => 112 | 37 => 113 | 75 => 117 | 127 => 176 | 164 => 226 | 80 => 125 | n => n,fun | n => n⟩
theorem Tryz.lays105 : Go.Proofs.Lays.n105 Tryz.prog Tryz.lays105_ren := {
 mixed := by kernel_rfl
 f99 := Tryz.func119.trans (congrArg some (by kernel_rfl))
 f105 := Tryz.func75.trans (congrArg some (by kernel_rfl))
 f165 := Tryz.func111.trans (congrArg some (by kernel_rfl))
 f166 := Tryz.func49.trans (congrArg some (by kernel_rfl))
 f169 := Tryz.func53.trans (congrArg some (by kernel_rfl))
 f170 := Tryz.func120.trans (congrArg some (by kernel_rfl))
 f206 := Tryz.func130.trans (congrArg some (by kernel_rfl))
 f212 := Tryz.func118.trans (congrArg some (by kernel_rfl))
 f240 := Tryz.func102.trans (congrArg some (by kernel_rfl))
 f241 := Tryz.func159.trans (congrArg some (by kernel_rfl))
 f263 := Tryz.func166.trans (congrArg some (by kernel_rfl))
 f264 := Tryz.func167.trans (congrArg some (by kernel_rfl))
 f276 := Tryz.func155.trans (congrArg some (by kernel_rfl))
 f277 := Tryz.func201.trans (congrArg some (by kernel_rfl))
 t0 := Tryz.underlying0
 a0 := Tryz.isAgg0
 z0 := Tryz.sizeOf0
 v0 := Tryz.zeroValue0
 t3 := Tryz.underlying3
 a3 := Tryz.isAgg3
 z3 := Tryz.sizeOf3
 v3 := Tryz.zeroValue3
 t4 := Tryz.underlying4
 a4 := Tryz.isAgg4
 z4 := Tryz.sizeOf4
 v4 := Tryz.zeroValue4
 t5 := Tryz.underlying5
 a5 := Tryz.isAgg5
 z5 := Tryz.sizeOf5
 v5 := Tryz.zeroValue5
 t9 := Tryz.underlying9
 a9 := Tryz.isAgg9
 z9 := Tryz.sizeOf9
 v9 := Tryz.zeroValue9
 t20 := Tryz.underlying20
 a20 := Tryz.isAgg20
 z20 := Tryz.sizeOf20
 v20 := Tryz.zeroValue20
 t37 := Tryz.underlying113
 a37 := Tryz.isAgg113
 z37 := Tryz.sizeOf113
 v37 := Tryz.zeroValue113
 t46 := Tryz.underlying160
 a46 := Tryz.isAgg160
 z46 := Tryz.sizeOf160
 v46 := Tryz.zeroValue160
 t51 := Tryz.underlying184
 a51 := Tryz.isAgg184
 z51 := Tryz.sizeOf184
 v51 := Tryz.zeroValue184
 t53 := Tryz.underlying208
 a53 := Tryz.isAgg208
 z53 := Tryz.sizeOf208
 v53 := Tryz.zeroValue208
 t70 := Tryz.underlying112
 a70 := Tryz.isAgg112
 z70 := Tryz.sizeOf112
 v70 := Tryz.zeroValue112
 t72 := Tryz.underlying115
 a72 := Tryz.isAgg115
 z72 := Tryz.sizeOf115
 v72 := Tryz.zeroValue115
 t75 := Tryz.underlying117
 a75 := Tryz.isAgg117
 z75 := Tryz.sizeOf117
 v75 := Tryz.zeroValue117
 t76 := Tryz.underlying118
 a76 := Tryz.isAgg118
 z76 := Tryz.sizeOf118
 v76 := Tryz.zeroValue118
 t109 := Tryz.underlying186
 a109 := Tryz.isAgg186
 z109 := Tryz.sizeOf186
 v109 := Tryz.zeroValue186
 t127 := Tryz.underlying176
 a127 := Tryz.isAgg176
 z127 := Tryz.sizeOf176
 v127 := Tryz.zeroValue176
 t146 := Tryz.underlying240
 a146 := Tryz.isAgg240
 z146 := Tryz.sizeOf240
 v146 := Tryz.zeroValue240
 t148 := Tryz.underlying242
 a148 := Tryz.isAgg242
 z148 := Tryz.sizeOf242
 v148 := Tryz.zeroValue242
 t164 := Tryz.underlying226
 a164 := Tryz.isAgg226
 z164 := Tryz.sizeOf226
 v164 := Tryz.zeroValue226 }
theorem Tryz.Builder_Extra_105 : Builder.Extra Tryz.prog Tryz.lays105_ren := {
 sizeBuilder := by kernel_rfl
 liesBuilder := by kernel_rfl
 t5 := Tryz.underlying5
 a5 := Tryz.isAgg5
 z5 := Tryz.sizeOf5
 v5 := Tryz.zeroValue5
 infoByte := by kernel_rfl
 cellsByte := by kernel_rfl
 sizeByte := by kernel_rfl
 neB5 := by decide }
open Go.RowKit Go.Lib in
open Go.RowKit Go.Lib in
open Go.RowKit Go.Lib in
open Go.RowKit Go.Lib in
open Go.RowKit Go.Lib in
open Go.RowKit Go.Lib in
open Go.RowKit Go.Lib in
theorem Tryz.strings_Repeat (s : ByteArray) (c : Nat) (w : World) (hc : c ≤ 9223372036854775807) (hlen : s.size * c ≤ 140737488355328) :
  Calls Tryz.prog 75 #[.string s,.int .i64 c] w fun e w' => e = .returned (.string ⟨(Lib.repeatL s.data.toList c).toArray⟩) ∧ Below w.heap.size w w' := Any.strings_Repeat Tryz.lays105 Tryz.Builder_Extra_105 s c w hc hlen
def Tryz.lays194_ren : Go.Shelf.Ren := ⟨fun | 194 => 86 | n => n,fun | 31 => 25 | 9 => 9 | 3 => 3 | 4 => 4 | 0 => 0 | n => n,fun | n => n⟩
theorem Tryz.lays194 : Go.Proofs.Lays.n194 Tryz.prog Tryz.lays194_ren := {
 mixed := by kernel_rfl
 f194 := Tryz.func86.trans (congrArg some (by kernel_rfl))
 t0 := Tryz.underlying0
 a0 := Tryz.isAgg0
 z0 := Tryz.sizeOf0
 v0 := Tryz.zeroValue0
 t3 := Tryz.underlying3
 a3 := Tryz.isAgg3
 z3 := Tryz.sizeOf3
 v3 := Tryz.zeroValue3
 t4 := Tryz.underlying4
 a4 := Tryz.isAgg4
 z4 := Tryz.sizeOf4
 v4 := Tryz.zeroValue4
 t9 := Tryz.underlying9
 a9 := Tryz.isAgg9
 z9 := Tryz.sizeOf9
 v9 := Tryz.zeroValue9
 t31 := Tryz.underlying25
 a31 := Tryz.isAgg25
 z31 := Tryz.sizeOf25
 v31 := Tryz.zeroValue25 }
open Go.RowKit Go.Lib Go.Sort in
open Go.RowKit Go.Lib Go.Sort in
theorem Tryz.slices_Compact_string (blk off cap : Nat) (zs : List (List UInt8)) (w : World) (hH : Holds encStr w blk off zs.toArray) (hsz : zs.length ≤ 9223372036854775807) (hcap : zs.length ≤ cap) :
  Calls Tryz.prog 86 #[.slice (some ⟨blk,off,none⟩) zs.length cap] w fun e w' => e = .returned (.slice (some ⟨blk,off,none⟩) (Lib.compact zs).length cap) ∧ ∃ q,w' = putRow encStr (Sort.ahead w q) blk off (Lib.compact zs ++ List.replicate (zs.length - (Lib.compact zs).length) []).toArray := Any.slices_Compact_string Tryz.lays194 blk off cap zs w hH hsz hcap
open Go.RowKit Go.Lib Go.Sort in
theorem Tryz.slices_Compact_string_empty (a : Option Addr) (cap : Nat) (w : World) :
  Calls Tryz.prog 86 #[.slice a 0 cap] w fun e w' => e = .returned (.slice a 0 cap) ∧ w' = w := Any.slices_Compact_string_empty Tryz.lays194 a cap w
open Go.RowKit Go.Lib Go.Sort in
def Tryz.laysSlM6_f85_ren : Go.Shelf.Ren := ⟨fun | 6 => 85 | 8 => 89 | 9 => 129 | 19 => 140 | 20 => 141 | 21 => 174 | 22 => 175 | 23 => 176 | 24 => 177 | 25 => 178 | 26 => 179 | 27 => 180 | 28 => 181 | 29 => 182 | 36 => 210 | 31 => 184 | 32 => 185 | 37 => 211 | 38 => 212 | 39 => 213 | 41 => 222 | n => n,fun | 27 => 25 | 29 => 9 | 3 => 3 | 32 => 160 | 26 => 25 | 0 => 0 | 44 => 184 | 46 => 208 | 4 => 4 | 36 => 200 | 35 => 199 | 41 => 91 | 5 => 5 | 9 => 9 | 53 => 252 | 57 => 256 | 63 => 283 | 64 => 137 | n => n,fun | n => n⟩
theorem Tryz.laysSlM6_f85 : Go.Proofs.SlLaysM.n6 Tryz.prog Tryz.laysSlM6_f85_ren := {
 mixed := by kernel_rfl
 f6 := ⟨Tryz.f85.name,by decide,Tryz.func85.trans (congrArg some (by kernel_rfl))⟩
 f8 := Tryz.func89.trans (congrArg some (by kernel_rfl))
 f9 := ⟨Tryz.f129.name,by decide,Tryz.func129.trans (congrArg some (by kernel_rfl))⟩
 f19 := Tryz.func140.trans (congrArg some (by kernel_rfl))
 f20 := Tryz.func141.trans (congrArg some (by kernel_rfl))
 f21 := ⟨Tryz.f174.name,by decide,Tryz.func174.trans (congrArg some (by kernel_rfl))⟩
 f22 := ⟨Tryz.f175.name,by decide,Tryz.func175.trans (congrArg some (by kernel_rfl))⟩
 f23 := ⟨Tryz.f176.name,by decide,Tryz.func176.trans (congrArg some (by kernel_rfl))⟩
 f24 := ⟨Tryz.f177.name,by decide,Tryz.func177.trans (congrArg some (by kernel_rfl))⟩
 f25 := ⟨Tryz.f178.name,by decide,Tryz.func178.trans (congrArg some (by kernel_rfl))⟩
 f26 := ⟨Tryz.f179.name,by decide,Tryz.func179.trans (congrArg some (by kernel_rfl))⟩
 f27 := ⟨Tryz.f180.name,by decide,Tryz.func180.trans (congrArg some (by kernel_rfl))⟩
 f28 := ⟨Tryz.f181.name,by decide,Tryz.func181.trans (congrArg some (by kernel_rfl))⟩
 f29 := ⟨Tryz.f182.name,by decide,Tryz.func182.trans (congrArg some (by kernel_rfl))⟩
 f31 := Tryz.func184.trans (congrArg some (by kernel_rfl))
 f32 := Tryz.func185.trans (congrArg some (by kernel_rfl))
 f36 := ⟨Tryz.f210.name,by decide,Tryz.func210.trans (congrArg some (by kernel_rfl))⟩
 f37 := ⟨Tryz.f211.name,by decide,Tryz.func211.trans (congrArg some (by kernel_rfl))⟩
 f38 := ⟨Tryz.f212.name,by decide,Tryz.func212.trans (congrArg some (by kernel_rfl))⟩
 f39 := ⟨Tryz.f213.name,by decide,Tryz.func213.trans (congrArg some (by kernel_rfl))⟩
 f41 := ⟨Tryz.f222.name,by decide,Tryz.func222.trans (congrArg some (by kernel_rfl))⟩
 t0 := Tryz.underlying0
 a0 := Tryz.isAgg0
 z0 := Tryz.sizeOf0
 v0 := Tryz.zeroValue0
 t3 := Tryz.underlying3
 a3 := Tryz.isAgg3
 z3 := Tryz.sizeOf3
 v3 := Tryz.zeroValue3
 t4 := Tryz.underlying4
 a4 := Tryz.isAgg4
 z4 := Tryz.sizeOf4
 v4 := Tryz.zeroValue4
 t5 := Tryz.underlying5
 a5 := Tryz.isAgg5
 z5 := Tryz.sizeOf5
 v5 := Tryz.zeroValue5
 t9 := Tryz.underlying9
 a9 := Tryz.isAgg9
 z9 := Tryz.sizeOf9
 v9 := Tryz.zeroValue9
 t26 := Tryz.underlying25
 a26 := Tryz.isAgg25
 z26 := Tryz.sizeOf25
 v26 := Tryz.zeroValue25
 t27 := Tryz.underlying25
 a27 := Tryz.isAgg25
 z27 := Tryz.sizeOf25
 v27 := Tryz.zeroValue25
 t29 := Tryz.underlying9
 a29 := Tryz.isAgg9
 z29 := Tryz.sizeOf9
 v29 := Tryz.zeroValue9
 t32 := Tryz.underlying160
 a32 := Tryz.isAgg160
 z32 := Tryz.sizeOf160
 v32 := Tryz.zeroValue160
 t35 := Tryz.underlying199
 a35 := Tryz.isAgg199
 z35 := Tryz.sizeOf199
 v35 := Tryz.zeroValue199
 t36 := Tryz.underlying200
 a36 := Tryz.isAgg200
 z36 := Tryz.sizeOf200
 v36 := Tryz.zeroValue200
 t41 := Tryz.underlying91
 a41 := Tryz.isAgg91
 z41 := Tryz.sizeOf91
 v41 := Tryz.zeroValue91
 t44 := Tryz.underlying184
 a44 := Tryz.isAgg184
 z44 := Tryz.sizeOf184
 v44 := Tryz.zeroValue184
 t46 := Tryz.underlying208
 a46 := Tryz.isAgg208
 z46 := Tryz.sizeOf208
 v46 := Tryz.zeroValue208
 t53 := Tryz.underlying252
 a53 := Tryz.isAgg252
 z53 := Tryz.sizeOf252
 v53 := Tryz.zeroValue252
 t57 := Tryz.underlying256
 a57 := Tryz.isAgg256
 z57 := Tryz.sizeOf256
 v57 := Tryz.zeroValue256
 t63 := Tryz.underlying283
 a63 := Tryz.isAgg283
 z63 := Tryz.sizeOf283
 v63 := Tryz.zeroValue283
 t64 := Tryz.underlying137
 a64 := Tryz.isAgg137
 z64 := Tryz.sizeOf137
 v64 := Tryz.zeroValue137 }
open Go.RowKit Go.Sort in
theorem Tryz.slices_Sort_string_none (p : Option Addr) (cap : Nat) (w : World) :
  Calls Tryz.prog 85 #[.slice p 0 cap] w fun e w' => e = .returned (.tuple #[]) ∧ w' = w := AnyM.slices_Sort_string_none Tryz.laysSlM6_f85 p cap w
def Tryz.laysSlM5_f37_ren : Go.Shelf.Ren := ⟨fun | 5 => 37 | 8 => 89 | 7 => 88 | 19 => 140 | 20 => 141 | 10 => 131 | 11 => 132 | 12 => 133 | 13 => 134 | 14 => 135 | 15 => 136 | 16 => 137 | 17 => 138 | 18 => 139 | 30 => 183 | 31 => 184 | 32 => 185 | 33 => 186 | 34 => 187 | 35 => 188 | 40 => 214 | n => n,fun | 23 => 49 | 25 => 3 | 3 => 3 | 32 => 160 | 22 => 49 | 0 => 0 | 44 => 184 | 46 => 208 | 4 => 4 | 36 => 200 | 35 => 199 | 41 => 91 | 5 => 5 | 9 => 9 | 53 => 252 | 57 => 256 | 63 => 283 | 64 => 137 | n => n,fun | n => n⟩
theorem Tryz.laysSlM5_f37 : Go.Proofs.SlLaysM.n5 Tryz.prog Tryz.laysSlM5_f37_ren := {
 mixed := by kernel_rfl
 f5 := ⟨Tryz.f37.name,by decide,Tryz.func37.trans (congrArg some (by kernel_rfl))⟩
 f7 := ⟨Tryz.f88.name,by decide,Tryz.func88.trans (congrArg some (by kernel_rfl))⟩
 f8 := Tryz.func89.trans (congrArg some (by kernel_rfl))
 f10 := ⟨Tryz.f131.name,by decide,Tryz.func131.trans (congrArg some (by kernel_rfl))⟩
 f11 := ⟨Tryz.f132.name,by decide,Tryz.func132.trans (congrArg some (by kernel_rfl))⟩
 f12 := ⟨Tryz.f133.name,by decide,Tryz.func133.trans (congrArg some (by kernel_rfl))⟩
 f13 := ⟨Tryz.f134.name,by decide,Tryz.func134.trans (congrArg some (by kernel_rfl))⟩
 f14 := ⟨Tryz.f135.name,by decide,Tryz.func135.trans (congrArg some (by kernel_rfl))⟩
 f15 := ⟨Tryz.f136.name,by decide,Tryz.func136.trans (congrArg some (by kernel_rfl))⟩
 f16 := ⟨Tryz.f137.name,by decide,Tryz.func137.trans (congrArg some (by kernel_rfl))⟩
 f17 := ⟨Tryz.f138.name,by decide,Tryz.func138.trans (congrArg some (by kernel_rfl))⟩
 f18 := ⟨Tryz.f139.name,by decide,Tryz.func139.trans (congrArg some (by kernel_rfl))⟩
 f19 := Tryz.func140.trans (congrArg some (by kernel_rfl))
 f20 := Tryz.func141.trans (congrArg some (by kernel_rfl))
 f30 := ⟨Tryz.f183.name,by decide,Tryz.func183.trans (congrArg some (by kernel_rfl))⟩
 f31 := Tryz.func184.trans (congrArg some (by kernel_rfl))
 f32 := Tryz.func185.trans (congrArg some (by kernel_rfl))
 f33 := ⟨Tryz.f186.name,by decide,Tryz.func186.trans (congrArg some (by kernel_rfl))⟩
 f34 := ⟨Tryz.f187.name,by decide,Tryz.func187.trans (congrArg some (by kernel_rfl))⟩
 f35 := ⟨Tryz.f188.name,by decide,Tryz.func188.trans (congrArg some (by kernel_rfl))⟩
 f40 := ⟨Tryz.f214.name,by decide,Tryz.func214.trans (congrArg some (by kernel_rfl))⟩
 t0 := Tryz.underlying0
 a0 := Tryz.isAgg0
 z0 := Tryz.sizeOf0
 v0 := Tryz.zeroValue0
 t3 := Tryz.underlying3
 a3 := Tryz.isAgg3
 z3 := Tryz.sizeOf3
 v3 := Tryz.zeroValue3
 t4 := Tryz.underlying4
 a4 := Tryz.isAgg4
 z4 := Tryz.sizeOf4
 v4 := Tryz.zeroValue4
 t5 := Tryz.underlying5
 a5 := Tryz.isAgg5
 z5 := Tryz.sizeOf5
 v5 := Tryz.zeroValue5
 t9 := Tryz.underlying9
 a9 := Tryz.isAgg9
 z9 := Tryz.sizeOf9
 v9 := Tryz.zeroValue9
 t22 := Tryz.underlying49
 a22 := Tryz.isAgg49
 z22 := Tryz.sizeOf49
 v22 := Tryz.zeroValue49
 t23 := Tryz.underlying49
 a23 := Tryz.isAgg49
 z23 := Tryz.sizeOf49
 v23 := Tryz.zeroValue49
 t25 := Tryz.underlying3
 a25 := Tryz.isAgg3
 z25 := Tryz.sizeOf3
 v25 := Tryz.zeroValue3
 t32 := Tryz.underlying160
 a32 := Tryz.isAgg160
 z32 := Tryz.sizeOf160
 v32 := Tryz.zeroValue160
 t35 := Tryz.underlying199
 a35 := Tryz.isAgg199
 z35 := Tryz.sizeOf199
 v35 := Tryz.zeroValue199
 t36 := Tryz.underlying200
 a36 := Tryz.isAgg200
 z36 := Tryz.sizeOf200
 v36 := Tryz.zeroValue200
 t41 := Tryz.underlying91
 a41 := Tryz.isAgg91
 z41 := Tryz.sizeOf91
 v41 := Tryz.zeroValue91
 t44 := Tryz.underlying184
 a44 := Tryz.isAgg184
 z44 := Tryz.sizeOf184
 v44 := Tryz.zeroValue184
 t46 := Tryz.underlying208
 a46 := Tryz.isAgg208
 z46 := Tryz.sizeOf208
 v46 := Tryz.zeroValue208
 t53 := Tryz.underlying252
 a53 := Tryz.isAgg252
 z53 := Tryz.sizeOf252
 v53 := Tryz.zeroValue252
 t57 := Tryz.underlying256
 a57 := Tryz.isAgg256
 z57 := Tryz.sizeOf256
 v57 := Tryz.zeroValue256
 t63 := Tryz.underlying283
 a63 := Tryz.isAgg283
 z63 := Tryz.sizeOf283
 v63 := Tryz.zeroValue283
 t64 := Tryz.underlying137
 a64 := Tryz.isAgg137
 z64 := Tryz.sizeOf137
 v64 := Tryz.zeroValue137 }
open Go.RowKit Go.Sort in
theorem Tryz.slices_Sort_int_none (p : Option Addr) (cap : Nat) (w : World) :
  Calls Tryz.prog 37 #[.slice p 0 cap] w fun e w' => e = .returned (.tuple #[]) ∧ w' = w := AnyM.slices_Sort_int_none Tryz.laysSlM5_f37 p cap w
end Go.Proofs

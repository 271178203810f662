/- What strings.SplitSeq hands back, and what its iterator hands on, at the separator comma, for any text. No conditions but those stated. -/
import Derived.Test.YtkgngahmpafdhaaGreatDoorRangeB
import Derived.Test.YtkgngahmpafdhaaGreatDoorSplitPlain
import Derived.Test.YtkgngahmpafdhaaGreatDoorShelf
import Derived.Test.YtkgngahmpafdhaaGreatDoorMem
import Derived.RangeFuncBound
import Derived.RangeFuncCalls
import Derived.RangeFuncLeaves
import Derived.Shelf.Abstract
import Derived.Shelf.RegionOpen
import Derived.OwnWalkIn
import Derived.TacticsInMore
import Derived.LoopNIn
import Derived.LoopIn
namespace Go.Proofs.YtkgngahmpafdhaaGreatDoor.RB
open Go.RowKit Go.Shelf Mailsack MM
attribute [local go_sem] Oper.semAt_some

/-- the iterator's three boxes: the text that is left, the separator, how much of it is kept -/
structure ItAt (bs : Nat) (r : ByteArray) (W : World) : Prop where
  txt : Boxed W bs 9 (.string r)
  sep : Boxed W (bs + 1) 9 (.string ⟨#[44]⟩)
  keep : Boxed W (bs + 2) 3 (.int .i64 0)
def KpI (bs : Nat) (W W' : World) : Prop := ∀ k, bs ≤ k → k < bs + 3 → W'.heap[k]? = W.heap[k]?
theorem ItAt.kept {bs : Nat} {r : ByteArray} {W W' : World} (h : ItAt bs r W) (hk : KpI bs W W') : ItAt bs r W' :=
  ⟨(hk bs (by omega) (by omega)).trans h.txt, (hk (bs + 1) (by omega) (by omega)).trans h.sep, (hk (bs + 2) (by omega) (by omega)).trans h.keep⟩
theorem ItAt.set {bs : Nat} {r : ByteArray} {W : World} (h : ItAt bs r W) (q : ByteArray) : ItAt bs q (W.setCell ⟨bs, 0, none⟩ (.string q)) :=
  ⟨h.txt.set _, (Below.heap_setCell W ⟨bs, 0, none⟩ _ (bs + 1) (by simp)).trans h.sep, (Below.heap_setCell W ⟨bs, 0, none⟩ _ (bs + 2) (by simp)).trans h.keep⟩
def lenAt (bs : Nat) (W : World) : Nat := match W.cell? ⟨bs, 0, none⟩ with
  | some (.string b) => b.size
  | _ => 0
theorem lenAt_eq {bs : Nat} {r : ByteArray} {W : World} (h : ItAt bs r W) : lenAt bs W = r.size := by unfold lenAt; rw [h.txt.cell]

/-- a text that is not too long -/
abbrev Sm := { x : ByteArray // x.size ≤ 1000000 }
def parts (xs : List Sm) : List Bs := xs.map fun x => x.1.data.toList

set_option maxHeartbeats 1000000 in
set_option maxRecDepth 100000 in
theorem split1_in (n : Nat) (hn : 1 ≤ n) (l bs : Nat) (s : ByteArray) (hs : s.size ≤ 1000000) (J Jx : List Sm → World → Prop)
    (hJb : ∀ s A v, J s A → J s (A.setCell ⟨bs, 0, none⟩ v))
    (hY : ∀ (pre : List Sm) (x : Sm) W1, J pre W1 → pre.length < s.size + 1 → YieldAt Fence.wide (n - 1) Tryz.prog l #[.string x.1] W1 fun e W' =>
      (e = .returned (.bool true) ∧ J (pre ++ [x]) W' ∧ KpI bs W1 W') ∨ (e = .returned (.bool false) ∧ Jx (pre ++ [x]) W'))
    (W : World) (hI : ItAt bs s W) (h0 : J [] W) :
    CallsIn Fence.wide n Tryz.prog 79 #[.func (.yield l) #[] #[], .pointer (some ⟨bs + 1, 0, none⟩), .pointer (some ⟨bs, 0, none⟩), .pointer (some ⟨bs + 2, 0, none⟩)] W fun e W' => (∃ v, e = .returned v) ∧
      ((∃ xs, parts xs = splitC 44 s.data.toList ∧ J xs W') ∨ (∃ pre, (∃ q, parts pre ++ q = splitC 44 s.data.toList) ∧ Jx pre W')) := by
  refine callsIn_of_wp Tryz.func79 rfl trivial ?_ rfl
  simp only [Tryz.ntmps79, List.size_toArray, List.length_cons, List.length_nil, Nat.reduceAdd, Nat.reduceSub, Array.replicate_succ, Array.replicate_zero, List.push_toArray, List.append_toArray, List.nil_append, List.cons_append]
  have k0 := hI.txt.cell
  have k1 := hI.sep.cell
  have k2 := hI.keep.cell
  gi_wp2
  gi_loopw [7] (fun _ wr => ∃ (pre : List Sm) (r : ByteArray), Hid (ItAt bs r wr) ∧ Hid (parts pre ++ splitC 44 r.data.toList = splitC 44 s.data.toList) ∧ pre.length + r.size ≤ s.size ∧ Hid (J pre wr)) (fun _ wr => lenAt bs wr)
  case atStart => exact ⟨[], s, Lib.hid hI, Lib.hid rfl, by simp, Lib.hid h0⟩
  case round =>
    obtain ⟨pre, r, hit, hsp, hlen, hJs⟩ := hrel
    have j0 := hit.out.txt.cell
    have j1 := hit.out.sep.cell
    have j2 := hit.out.keep.cell
    clear k0 k1 k2 hI h0
    rcases idx_cases r.data.toList 44 with ⟨hi, hno⟩ | ⟨i, hi, hlt, hno, hcut⟩
    · obtain ⟨fn, tmps, assign, body, hy, hR⟩ := hY pre ⟨r, by omega⟩ wr hJs.out (by omega)
      have Hend := Lib.hid (show parts (pre ++ [⟨r, by omega⟩]) = splitC 44 s.data.toList by rw [← hsp.out, splitC_none hno]; simp [parts])
      clear hno hsp hY hJs
      gi_wp2_with (refine ⟨trivial, ?_⟩; gi_at_call 62; refine (callsIn_wide.2 (Tryz.strings_Index_one r 44 _)).mono ?_; rintro e w' ⟨rfl, rfl⟩; rw [hi])
      refine hR.mono ?_
      rintro e W3 (⟨rfl, hJ3, hk3⟩ | ⟨rfl, hJx3⟩)
      · gi_wp2
        go_end0
        exact ⟨⟨_, rfl⟩, .inl ⟨_, Hend.out, hJ3⟩⟩
      · gi_wp2
        go_end0
        exact ⟨⟨_, rfl⟩, .inr ⟨_, ⟨[], by rw [List.append_nil]; exact Hend.out⟩, hJx3⟩⟩
    · rw [size_list] at hlt
      obtain ⟨fn, tmps, assign, body, hy, hR⟩ := hY pre ⟨r.extract 0 i, by rw [ext_size]; omega⟩ wr hJs.out (by omega)
      have Hcut := Lib.hid (show splitC 44 r.data.toList = (r.extract 0 i).data.toList :: splitC 44 (r.extract (i + 1) r.size).data.toList by
        rw [ext_take, ext_drop]; have h5 := splitC_hit (b := r.data.toList.drop (i + 1)) hno; rw [← hcut] at h5; exact h5)
      clear hno hcut hJs
      gi_wp2_with (refine ⟨trivial, ?_⟩; gi_at_call 62; refine (callsIn_wide.2 (Tryz.strings_Index_one r 44 _)).mono ?_; rintro e w' ⟨rfl, rfl⟩; rw [hi])
      refine hR.mono ?_
      rintro e W3 (⟨rfl, hJ3, hk3⟩ | ⟨rfl, hJx3⟩)
      · have hit3 := Lib.hid (hit.out.kept hk3)
        have i0 := hit3.out.txt.cell
        have i0f := hit3.out.txt.frozen
        have i1 := hit3.out.sep.cell
        gi_wp2
        go_roundw
        case rel =>
          refine ⟨_, r.extract (i + 1) r.size, Lib.hid (hit3.out.set _), Lib.hid ?_, ?_, Lib.hid (hJb _ _ _ hJ3)⟩
          · rw [← hsp.out, Hcut.out]; simp [parts]
          · rw [List.length_append, ext_size r (i + 1) r.size]; simp only [List.length_cons, List.length_nil]; omega
        case measure => rw [lenAt_eq (hit3.out.set _), lenAt_eq hit.out, ext_size]; omega
      · gi_wp2
        refine bodyPost_ret (results_none rfl _ _ _) rfl ?_
        exact ⟨⟨_, rfl⟩, .inr ⟨_, ⟨splitC 44 (r.extract (i + 1) r.size).data.toList, by rw [← hsp.out, Hcut.out]; simp [parts]⟩, hJx3⟩⟩

theorem split_stops (n : Nat) (hn : 1 ≤ n) (bs : Nat) (s : ByteArray) (hs : s.size ≤ 1000000) (w : World) (hI : ItAt bs s w) :
    SeqB Fence.wide n Tryz.prog 79 #[.pointer (some ⟨bs + 1, 0, none⟩), .pointer (some ⟨bs, 0, none⟩), .pointer (some ⟨bs + 2, 0, none⟩)] (fun x : Sm => #[.string x.1]) (KpI bs)
      (fun xs => parts xs = splitC 44 s.data.toList) (fun pre => ∃ q, parts pre ++ q = splitC 44 s.data.toList) (s.size + 1) w bs :=
  fun l J Jx W hW _ hJb hY h0 => split1_in n hn l bs s hs J Jx hJb hY W
    ⟨(hW.block bs hI.txt.lt).trans hI.txt, (hW.block (bs + 1) hI.sep.lt).trans hI.sep, (hW.block (bs + 2) hI.keep.lt).trans hI.keep⟩ h0

/-- the world behind SplitSeq: three boxes more -/
def boxW (s : ByteArray) (w : World) : World := ((w.alloc (.cells #[.string s] 9)).alloc (.cells #[.string ⟨#[44]⟩] 9)).alloc (.cells #[.int .i64 0] 3)
theorem boxW_at (s : ByteArray) (w : World) : ItAt w.heap.size s (boxW s w) := by
  refine ⟨((Boxed.new w _ _).alloc _).alloc _, ?_, ?_⟩
  · have := (Boxed.new (w.alloc (.cells #[.string s] 9)) 9 (.string ⟨#[44]⟩)).alloc (.cells #[.int .i64 0] 3)
    rwa [World.size_alloc] at this
  · have := Boxed.new ((w.alloc (.cells #[.string s] 9)).alloc (.cells #[.string ⟨#[44]⟩] 9)) 3 (.int .i64 0)
    rwa [World.size_alloc, World.size_alloc] at this
theorem boxW_size (s : ByteArray) (w : World) : (boxW s w).heap.size = w.heap.size + 3 := by simp [boxW]
theorem boxW_below {B : Nat} {a w : World} (h : Below B a w) (hB : B ≤ w.heap.size) (s : ByteArray) : Below B a (boxW s w) := ((h.alloc hB _).alloc (by simp; omega) _).alloc (by simp; omega) _

set_option maxHeartbeats 400000 in
set_option maxRecDepth 100000 in
theorem splitSeq_any (s : ByteArray) (w : World) :
    Calls Tryz.prog 69 #[.string s, .string ⟨#[44]⟩, .int .i64 0] w fun e w' => e = .returned (.func (.func 79) #[] #[.pointer (some ⟨w.heap.size + 1, 0, none⟩), .pointer (some ⟨w.heap.size, 0, none⟩), .pointer (some ⟨w.heap.size + 2, 0, none⟩)]) ∧ w' = boxW s w := by
  go_enter Tryz.func69, Tryz.ntmps69
  go_wp2
  go_ret
  exact ⟨rfl, rfl⟩
set_option maxHeartbeats 400000 in
set_option maxRecDepth 100000 in
theorem SplitSeq_any (s : ByteArray) (w : World) :
    Calls Tryz.prog 63 #[.string s, .string ⟨#[44]⟩] w fun e w' => e = .returned (.func (.func 79) #[] #[.pointer (some ⟨w.heap.size + 1, 0, none⟩), .pointer (some ⟨w.heap.size, 0, none⟩), .pointer (some ⟨w.heap.size + 2, 0, none⟩)]) ∧ w' = boxW s w := by
  go_enter Tryz.func63, Tryz.ntmps63
  go_wp2_with fail
  refine (splitSeq_any s _).mono ?_
  rintro e w2 ⟨rfl, rfl⟩
  go_wp2
  go_ret
  exact ⟨rfl, rfl⟩
end Go.Proofs.YtkgngahmpafdhaaGreatDoor.RB

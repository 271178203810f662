/- What disk.fits and disk.Right return. Conditions: the slices read as the disk; lengths. -/
/- What disk.perform, disk.Flush and disk.Crash (of nothing kept) return. Conditions: the slices read as a disk that is right. -/
/- What disk.Flush and disk.Crash (of nothing kept) return. Conditions: the slices read as a disk. -/
/- What disk.Crash of nothing kept returns. Conditions: the slices read as a disk. -/
/- What wal.suits returns of any disk; wal.Recover of one whose first sector begins with no mark. Conditions: the slices read as the disk. -/
import Derived.Test.YtomnljigoljldaaGreatDoorDiskNew
import Derived.Test.YtomnljigoljldaaGreatDoorReg
import Derived.Laws.CopyOwn
import Derived.Deep.Cut
import Derived.Test.YtomnljigoljldaaGreatDoorShaSched

namespace Mailsack
def fitsP (x : Wr) (n : Nat) : Bool := decide (0 ≤ x.at_) && decide (x.at_ < n) && decide (x.data.length = 64)
def rightP (d : Dk) : Bool := decide (1 ≤ d.secs.length) && decide (d.secs.length ≤ 1024) && d.secs.all (fun s => decide (s.length = 64)) && d.cache.all (fun x => fitsP x d.secs.length)
theorem all_step {α : Type} {f : α → Bool} {L : List α} {k : Nat} {x : α} (h : L[k]? = some x) (hf : f x = true) (h0 : ∀ r ∈ L.take k, f r = true) : ∀ r ∈ L.take (k + 1), f r = true := by
  intro q hq
  rw [List.take_add_one, h] at hq
  rcases List.mem_append.1 hq with hq | hq
  · exact h0 q hq
  · simp at hq; subst hq; exact hf
theorem all_false {α : Type} {f : α → Bool} {L : List α} {k : Nat} {x : α} (h : L[k]? = some x) (hf : f x = false) : L.all f = false := by
  rw [List.all_eq_false]
  exact ⟨x, List.mem_of_getElem? h, by rw [hf]; simp⟩
theorem all_true {α : Type} {f : α → Bool} {L : List α} (h : ∀ r ∈ L.take L.length, f r = true) : L.all f = true := by
  rw [List.take_length] at h
  exact List.all_eq_true.2 h
end Mailsack
namespace Go.Proofs.YtomnljigoljldaaGreatDoor.DS
open Go.RowKit Mailsack MM BB

/-- the slice value v reads as these writes, in a block below B -/
def RdW (w : World) (B : Nat) (v : Value) (L : List Wr) : Prop :=
  ∃ A c, v = .slice A L.length c ∧ L.length ≤ c ∧ (0 < L.length → ∃ b off, A = some ⟨b, off, none⟩ ∧ b < B ∧ ∀ j x, L[j]? = some x → w.cell? ⟨b, off + j * 2, none⟩ = some (.int .i64 x.at_) ∧ w.cell? ⟨b, off + j * 2 + 1, none⟩ = some (strV x.data))
theorem RdW.keep {w w' : World} {B : Nat} {v : Value} {L : List Wr} (h : RdW w B v L) (hk : ∀ p : Addr, p.block < B → w'.cell? p = w.cell? p) : RdW w' B v L := by
  obtain ⟨A, c, h1, h2, h3⟩ := h
  refine ⟨A, c, h1, h2, fun hn => ?_⟩
  obtain ⟨b, off, h4, h5, h6⟩ := h3 hn
  exact ⟨b, off, h4, h5, fun j x hx => ⟨(hk _ h5).trans (h6 j x hx).1, (hk _ h5).trans (h6 j x hx).2⟩⟩
theorem RdW.below {w w' : World} {B B' : Nat} {v : Value} {L : List Wr} (h : RdW w B v L) (hb : Below B' w w') (hB : B ≤ B') : RdW w' B v L := h.keep fun _ hp => hb.cell (by omega)
theorem RdW.more {w : World} {B B' : Nat} {v : Value} {L : List Wr} (h : RdW w B v L) (hB : B ≤ B') : RdW w B' v L := by
  obtain ⟨A, c, h1, h2, h3⟩ := h
  refine ⟨A, c, h1, h2, fun hn => ?_⟩
  obtain ⟨b, off, h4, h5, h6⟩ := h3 hn
  exact ⟨b, off, h4, by omega, h6⟩
theorem RdW.nil0 (w : World) (B : Nat) : RdW w B (.slice none 0 0) [] := ⟨none, 0, rfl, Nat.le_refl _, fun h => by simp at h⟩
/-- the two slices read as the disk -/
structure RdD (w : World) (B : Nat) (a b : Value) (d : Dk) : Prop where
  s : RdS w B a d.secs
  c : RdW w B b d.cache
  ls : d.secs.length ≤ 1000000
  lc : d.cache.length ≤ 1000000
theorem RdD.below {w w' : World} {B B' : Nat} {a b : Value} {d : Dk} (h : RdD w B a b d) (hb : Below B' w w') (hB : B ≤ B') : RdD w' B a b d := ⟨h.s.below hb hB, h.c.below hb hB, h.ls, h.lc⟩
theorem RdD.more {w : World} {B B' : Nat} {a b : Value} {d : Dk} (h : RdD w B a b d) (hB : B ≤ B') : RdD w B' a b d := ⟨h.s.more hB, h.c.more hB, h.ls, h.lc⟩

set_option maxHeartbeats 1000000 in
set_option maxRecDepth 100000 in
theorem fits_any (x : Wr) (n : Nat) (w : World) :
    Calls Tryz.prog 82 #[.agg #[.int .i64 x.at_, strV x.data], .int .i64 n] w fun e w' => e = .returned (.bool (fitsP x n)) ∧ Below w.heap.size w w' := by
  obtain ⟨a, s⟩ := x
  obtain ⟨sb, hsb⟩ : ∃ sb : ByteArray, (⟨s.toArray⟩ : ByteArray) = sb := ⟨_, rfl⟩
  have HF : Hid (fitsP ⟨a, s⟩ n = (decide (0 ≤ a) && decide (a < n) && decide (sb.size = 64))) := Lib.hid (by rw [← hsb]; rfl)
  show Calls Tryz.prog 82 #[.agg #[.int .i64 a, .string ⟨s.toArray⟩], .int .i64 n] w _
  rw [hsb]
  have hB := blk_new w (.cells #[.int .i64 a, .string sb] 84)
  have c0 := cell_blk hB 0
  have c1 := cell_blk hB 1
  have HB := Lib.hid ((Below.refl w.heap.size w).alloc (Nat.le_refl _) (.cells #[.int .i64 a, .string sb] 84))
  clear hB hsb
  by_cases h1 : 0 ≤ a
  · by_cases h2 : a < n
    · by_cases h3 : sb.size = 64
      · have h3i : (sb.size : Int) = 64 := by omega
        have h3b : ((sb.size : Int) == 64) = true := by simpa using h3i
        have HR : Hid (fitsP ⟨a, s⟩ n = true) := Lib.hid (by rw [HF.out]; simp [h1, h2, h3])
        clear h3
        go_enter Tryz.func82, Tryz.ntmps82
        go_wp2
        go_ret
        exact ⟨by rw [HR.out]; rfl, HB.out⟩
      · have h3i : ¬ ((sb.size : Int) = 64) := by omega
        have h3b : ((sb.size : Int) == 64) = false := by simpa using h3i
        have HR : Hid (fitsP ⟨a, s⟩ n = false) := Lib.hid (by rw [HF.out]; simp [h3])
        clear h3
        go_enter Tryz.func82, Tryz.ntmps82
        go_wp2
        go_ret
        exact ⟨by rw [HR.out]; rfl, HB.out⟩
    · have HR : Hid (fitsP ⟨a, s⟩ n = false) := Lib.hid (by rw [HF.out]; simp [h2])
      go_enter Tryz.func82, Tryz.ntmps82
      go_wp2
      go_ret
      exact ⟨by rw [HR.out]; rfl, HB.out⟩
  · have HR : Hid (fitsP ⟨a, s⟩ n = false) := Lib.hid (by rw [HF.out]; simp [h1])
    go_enter Tryz.func82, Tryz.ntmps82
    go_wp2
    go_ret
    exact ⟨by rw [HR.out]; rfl, HB.out⟩
set_option maxHeartbeats 1000000 in
set_option maxRecDepth 100000 in
theorem right_any (va vb : Value) (d : Dk) (w : World) (h : RdD w w.heap.size va vb d) :
    Calls Tryz.prog 41 #[.agg #[va, vb]] w fun e w' => e = .returned (.bool (rightP d)) ∧ Below w.heap.size w w' := by
  obtain ⟨S, C⟩ := d
  obtain ⟨⟨A1, c1, rfl, hc1, h1⟩, ⟨A2, c2, rfl, hc2, h2⟩, hls, hlc⟩ := h
  have H1 := Lib.hid h1
  have H2 := Lib.hid h2
  simp only at hc1 hc2 hls hlc H1 H2 ⊢
  have HF : Hid (rightP ⟨S, C⟩ = (decide (1 ≤ S.length) && decide (S.length ≤ 1024) && S.all (fun s => decide (s.length = 64)) && C.all (fun x => fitsP x S.length))) := Lib.hid rfl
  have hB := blk_new w (dskO (.slice A1 S.length c1) (.slice A2 C.length c2))
  have HB := Lib.hid ((Below.refl w.heap.size w).alloc (Nat.le_refl _) (dskO (.slice A1 S.length c1) (.slice A2 C.length c2)))
  have b0 := cell_blk hB 0
  have HBK := Lib.hid hB
  clear hB h1 h2
  by_cases g1 : 1 ≤ S.length
  · by_cases g2 : S.length ≤ 1024
    · have i1 : ¬ ((S.length : Int) < 1) := by omega
      have i2 : ¬ (1024 < (S.length : Int)) := by omega
      have HF2 : Hid (rightP ⟨S, C⟩ = (S.all (fun s => decide (s.length = 64)) && C.all (fun x => fitsP x S.length))) := Lib.hid (by rw [HF.out]; simp [g1, g2])
      clear HF
      go_enter Tryz.func41, Tryz.ntmps41
      go_wp2_with fail
      obtain ⟨b, off, rfl, hbw, hcs⟩ := H1.out (by omega)
      have HCS := Lib.hid hcs
      clear H1 hcs b0
      generalize w.alloc (dskO (.slice (some ⟨b, off, none⟩) S.length c1) (.slice A2 C.length c2)) = w0 at HB HBK ⊢
      go_loopw [20] (fun iv wr => ∃ k : Nat, k ≤ S.length ∧ iv = .int .i64 k ∧ wr = w0 ∧ Hid (∀ r ∈ S.take k, decide (r.length = 64) = true)) (fun iv _ => S.length - (intOf iv).toNat)
      case atStart => exact ⟨0, Nat.zero_le _, rfl, rfl, Lib.hid (by simp)⟩
      case round =>
        obtain ⟨k, hk, rfl, rfl, hok⟩ := hrel
        by_cases hlt : k < S.length
        · obtain ⟨x, hx⟩ : ∃ x, S[k]? = some x := ⟨_, List.getElem?_eq_getElem hlt⟩
          have q0 := (HB.out.cell (p := ⟨b, off + k, none⟩) hbw).trans (HCS.out k x hx)
          have HX := Lib.hid hx
          clear hx
          obtain ⟨xb, hxb⟩ : ∃ xb : ByteArray, (⟨x.toArray⟩ : ByteArray) = xb := ⟨_, rfl⟩
          have hxs : xb.size = x.length := by rw [← hxb]; rfl
          have q1 : wr.cell? ⟨b, off + k, none⟩ = some (.string xb) := by rw [← hxb]; exact q0
          clear q0 hxb
          by_cases h64 : x.length = 64
          · have e1 : ((xb.size : Int) != 64) = false := by simp; omega
            have e2 : (xb.size : Int) = 64 := by omega
            have HO := Lib.hid (all_step HX.out (by simpa using h64) hok.out)
            clear h64 hxs
            go_wp2
            exact ⟨⟨k + 1, by omega, by go_num, trivial, HO⟩, by simp [intOf]; omega⟩
          · have e1 : ((xb.size : Int) != 64) = true := by simp; omega
            have e2 : ¬ ((xb.size : Int) = 64) := by omega
            have HR : Hid (rightP ⟨S, C⟩ = false) := Lib.hid (by rw [HF2.out, all_false HX.out (by simpa using h64)]; rfl)
            clear h64 hxs
            go_wp2
            go_ret
            exact ⟨by rw [HR.out]; rfl, HB.out⟩
        · obtain rfl : k = S.length := by omega
          have HF3 : Hid (rightP ⟨S, C⟩ = C.all (fun x => fitsP x S.length)) := Lib.hid (by rw [HF2.out, all_true hok.out]; rfl)
          clear HF2 hok HCS hlt
          have b1 := cell_blk HBK.out 1
          go_wp2_with fail
          clear b1
          go_loopw [31] (fun iv wx => ∃ k : Nat, k ≤ C.length ∧ iv = .int .i64 k ∧ Hid (Below wr.heap.size wr wx) ∧ Hid (∀ r ∈ C.take k, fitsP r S.length = true)) (fun iv _ => C.length - (intOf iv).toNat)
          case atStart => exact ⟨0, Nat.zero_le _, rfl, Lib.hid (Below.refl _ _), Lib.hid (by simp)⟩
          case round =>
            obtain ⟨k, hk, rfl, hbx, hok⟩ := hrel
            by_cases hlt : k < C.length
            · obtain ⟨b2, off2, rfl, hb2, hc2⟩ := H2.out (by omega)
              obtain ⟨x, hx⟩ : ∃ x, C[k]? = some x := ⟨_, List.getElem?_eq_getElem hlt⟩
              obtain ⟨p0, p1⟩ := hc2 k x hx
              have HBX := Lib.hid (HB.out.trans (hbx.out.mono HB.out.size))
              have q0 := (HBX.out.cell (p := ⟨b2, off2 + k * 2, none⟩) hb2).trans p0
              have q1 := (HBX.out.cell (p := ⟨b2, off2 + k * 2 + 1, none⟩) hb2).trans p1
              have HX := Lib.hid hx
              have HFT := Lib.hid (fun W => fits_any x S.length W)
              have b0 := cell_blk (blk_alloc (blk_below HBK.out hbx.out (blk_lt HBK.out)) (.cells #[.int .i64 x.at_, .string ⟨x.data.toArray⟩] 84)) 0
              have HA := Lib.hid ((Below.refl wr.heap.size wr).alloc (Nat.le_refl _) (.cells #[.int .i64 x.at_, .string ⟨x.data.toArray⟩] 84))
              obtain ⟨a, s⟩ := x
              simp only at q0 q1 HFT b0 HA
              clear hc2 hx p0 p1 H2
              go_wp2_with fail
              refine (HFT.out _).mono ?_
              rintro e w5 ⟨rfl, hb5⟩
              have HB5 := Lib.hid (hbx.out.trans ((HA.out.trans (hb5.mono HA.out.size)).mono hbx.out.size))
              clear hb5 HA b0 q0 q1 HFT
              cases hft : fitsP ⟨a, s⟩ S.length with
              | true =>
                have HO := Lib.hid (all_step HX.out hft hok.out)
                clear hft
                go_wp2
                exact ⟨⟨k + 1, by omega, by go_num, HB5, HO⟩, by simp [intOf]; omega⟩
              | false =>
                have HR : Hid (rightP ⟨S, C⟩ = false) := Lib.hid (by rw [HF3.out, all_false HX.out hft])
                clear hft
                go_wp2
                go_ret
                exact ⟨by rw [HR.out]; rfl, HB.out.trans (HB5.out.mono HB.out.size)⟩
            · obtain rfl : k = C.length := by omega
              have HR : Hid (rightP ⟨S, C⟩ = true) := Lib.hid (by rw [HF3.out, all_true hok.out])
              clear hlt
              go_wp2
              go_ret
              exact ⟨by rw [HR.out]; rfl, HB.out.trans (hbx.out.mono HB.out.size)⟩
    · have i1 : ¬ ((S.length : Int) < 1) := by omega
      have i2 : 1024 < (S.length : Int) := by omega
      have HR : Hid (rightP ⟨S, C⟩ = false) := Lib.hid (by rw [HF.out]; simp [g2])
      go_enter Tryz.func41, Tryz.ntmps41
      go_wp2
      go_ret
      exact ⟨by rw [HR.out]; rfl, HB.out⟩
  · have i1 : (S.length : Int) < 1 := by omega
    have HR : Hid (rightP ⟨S, C⟩ = false) := Lib.hid (by rw [HF.out]; simp [g1])
    go_enter Tryz.func41, Tryz.ntmps41
    go_wp2
    go_ret
    exact ⟨by rw [HR.out]; rfl, HB.out⟩
end Go.Proofs.YtomnljigoljldaaGreatDoor.DS


namespace Mailsack
def wrD (C : List Wr) (k : Nat) : Wr := C.getD k ⟨0, []⟩
/-- the sectors behind those of the first k writes that are chosen -/
def perfL (c : Nat → Bool) (C : List Wr) (S : List Bs) : Nat → List Bs
  | 0 => S
  | k + 1 => if c k = true then (perfL c C S k).set (wrD C k).at_.toNat (wrD C k).data else perfL c C S k
theorem perfL_len (c : Nat → Bool) (C : List Wr) (S : List Bs) : ∀ k, (perfL c C S k).length = S.length
  | 0 => rfl
  | k + 1 => by
    unfold perfL
    split
    · rw [List.length_set, perfL_len c C S k]
    · exact perfL_len c C S k
def flushP (d : Dk) : Dk := if rightP d = true then ⟨perfL (fun _ => true) d.cache d.secs d.cache.length, []⟩ else d
def crashP (d : Dk) : Dk := if rightP d = true then ⟨perfL (fun _ => false) d.cache d.secs d.cache.length, []⟩ else d
theorem right_secs {d : Dk} (h : rightP d = true) : 1 ≤ d.secs.length ∧ d.secs.length ≤ 1024 := by
  unfold rightP at h
  simp only [Bool.and_eq_true, decide_eq_true_eq] at h
  exact ⟨h.1.1.1, h.1.1.2⟩
theorem right_fit {d : Dk} (h : rightP d = true) {k : Nat} {x : Wr} (hx : d.cache[k]? = some x) : 0 ≤ x.at_ ∧ x.at_ < d.secs.length ∧ x.data.length = 64 := by
  unfold rightP at h
  simp only [Bool.and_eq_true] at h
  have := List.all_eq_true.1 h.2 x (List.mem_of_getElem? hx)
  unfold fitsP at this
  simp only [Bool.and_eq_true, decide_eq_true_eq] at this
  exact ⟨this.1.1, this.1.2, this.2⟩
end Mailsack
namespace Go.Proofs.YtomnljigoljldaaGreatDoor.DS
open Go.RowKit Mailsack MM BB

theorem encS_toList (l : List Bs) : (encS l).toList = l.map strV := by simp [encS]
theorem HasS.row {W : World} {g : Nat} {l : List Bs} (h : HasS W g l) (l' : List Bs) : HasS (W.setRow g (encS l')) g l' := setRow_heap W g _ _ _ _ h.blk
theorem copiedS {W : World} {g : Nat} {l : List Bs} (h : HasS W g l) (S : List Bs) (hl : l.length = S.length) (b off c cd : Nat) (ty : TypeId) (hsrc : ∀ j x, S[j]? = some x → W.cell? ⟨b, off + j, none⟩ = some (strV x)) :
    (Builtin.copy_ #[40, 40] ty #[.slice (some ⟨g, 0, none⟩) S.length cd, .slice (some ⟨b, off, none⟩) S.length c]).run Tryz.prog W = .ok (goInt S.length) (W.setRow g (encS S)) := by
  have h3 := run_copy_row (P := Tryz.prog) W 40 40 ty 9 g 0 S.length cd ⟨b, off, none⟩ S.length c (encS l) _ (S.map strV) Tryz.underlying40 (by kernel_rfl) h.blk (by simp) (fun j v hv => by
    rw [List.getElem?_map] at hv
    obtain ⟨x, hx, rfl⟩ := Option.map_eq_some_iff.1 hv
    have hadd : (⟨b, off, none⟩ : Addr).add j = ⟨b, off + j, none⟩ := by unfold Addr.add; split <;> simp_all
    rw [hadd]
    exact hsrc j x hx) (by rw [encS_size]; simp; omega) (fun v hv => by
    obtain ⟨x, _, rfl⟩ := List.mem_map.1 hv
    rfl)
  have hrow : ((encS l).toList.take 0 ++ S.map strV ++ (encS l).toList.drop (0 + (S.map strV).length)).toArray = encS S := by
    rw [encS_toList]
    simp [encS, ← hl]
  rw [h3, hrow]
  simp
theorem three_new (w : World) (o o' o'' : Obj) : (((w.alloc o).alloc o').alloc o'').heap[w.heap.size + 1 + 1]? = some o'' := by
  have := blk_new ((w.alloc o).alloc o') o''
  rwa [show ((w.alloc o).alloc o').heap.size = w.heap.size + 1 + 1 by simp] at this
/-- the memory of perform's walk -/
structure PfI (w : World) (g : Nat) (va vb : Value) (l : List Bs) (W : World) : Prop where
  box : W.heap[w.heap.size]? = some (dskO va vb)
  res : W.heap[w.heap.size + 1]? = some (dskO (.slice none 0 0) (.slice none 0 0))
  row : HasS W g l
  bel : Below w.heap.size w W
  lo : w.heap.size + 1 < g
theorem PfI.call {w : World} {g : Nat} {va vb : Value} {l : List Bs} {W W' : World} (h : PfI w g va vb l W) (hb : Below W.heap.size W W') : PfI w g va vb l W' :=
  ⟨blk_below h.box hb (blk_lt h.box), blk_below h.res hb (blk_lt h.res), h.row.below hb h.row.lt, h.bel.trans (hb.mono h.bel.size), h.lo⟩
theorem PfI.put {w : World} {g : Nat} {va vb : Value} {l : List Bs} {W : World} (h : PfI w g va vb l W) (i : Nat) (x : Bs) : PfI w g va vb (l.set i x) (W.setCell ⟨g, i, none⟩ (strV x)) :=
  ⟨blk_far h.box (p := ⟨g, i, none⟩) (by have := h.lo; simp; omega) _, blk_far h.res (p := ⟨g, i, none⟩) (by have := h.lo; simp; omega) _, h.row.put i x, h.bel.setCell (p := ⟨g, i, none⟩) (by have := h.lo; simp; omega) _, h.lo⟩

set_option maxHeartbeats 1000000 in
set_option maxRecDepth 100000 in
theorem perform_any (va vb : Value) (d : Dk) (fid : FuncId) (fr : Array Value) (c : Nat → Bool) (w : World) (h : RdD w w.heap.size va vb d) (hr : rightP d = true) (hE : ∀ args W, (callFunc fid args).run Tryz.prog W = .ok (.enter fid args) W)
    (hc : ∀ i W, i < d.cache.length → Below w.heap.size w W → Calls Tryz.prog fid (#[.int .i64 (i : Int)] ++ fr) W fun e w' => e = .returned (.bool (c i)) ∧ Below W.heap.size W w') :
    Calls Tryz.prog 42 #[.agg #[va, vb], .func (.func fid) #[] fr] w fun e w' => ∃ g, e = .returned (.agg #[.slice (some ⟨g, 0, none⟩) d.secs.length d.secs.length, .slice none 0 0]) ∧ HasS w' g (perfL c d.cache d.secs d.cache.length) ∧ w.heap.size < g ∧ Below w.heap.size w w' := by
  obtain ⟨hn1, hn2⟩ := right_secs hr
  have HFIT := Lib.hid (fun (k : Nat) (x : Wr) (hx : d.cache[k]? = some x) => right_fit hr hx)
  have HC := Lib.hid hc
  obtain ⟨S, C⟩ := d
  obtain ⟨⟨A1, c1, rfl, hc1, h1⟩, ⟨A2, c2, rfl, hc2, h2⟩, hls, hlc⟩ := h
  simp only at hn1 hn2 hc1 hc2 h1 h2 hls hlc HFIT HC ⊢
  obtain ⟨b, off, rfl, hbw, hcs⟩ := h1 (by omega)
  have HCS := Lib.hid hcs
  have H2 := Lib.hid h2
  have t0 := two_old w (dskO (.slice (some ⟨b, off, none⟩) S.length c1) (.slice A2 C.length c2)) (dskO (.slice none 0 0) (.slice none 0 0))
  have t1 := two_new w (dskO (.slice (some ⟨b, off, none⟩) S.length c1) (.slice A2 C.length c2)) (dskO (.slice none 0 0) (.slice none 0 0))
  have HB0 := Lib.hid (((Below.refl w.heap.size w).alloc (Nat.le_refl _) (dskO (.slice (some ⟨b, off, none⟩) S.length c1) (.slice A2 C.length c2))).alloc (by simp) (dskO (.slice none 0 0) (.slice none 0 0)))
  have HT0 := Lib.hid t0
  have HT1 := Lib.hid t1
  have k0 := cell_blk t0 0
  have hmk := fun W => madeS W S.length (by omega)
  clear hr hc hcs h1 h2 t0 t1
  go_enter Tryz.func42, Tryz.ntmps42
  go_upto_region 2 with fail
  have HP : Hid (PfI w (w.heap.size + 1 + 1) (.slice (some ⟨b, off, none⟩) S.length c1) (.slice A2 C.length c2) (List.replicate S.length []) (((w.alloc (dskO (.slice (some ⟨b, off, none⟩) S.length c1) (.slice A2 C.length c2))).alloc (dskO (.slice none 0 0) (.slice none 0 0))).alloc (.cells (encS (List.replicate S.length [])) 9))) :=
    Lib.hid ⟨blk_alloc HT0.out _, blk_alloc HT1.out _, three_new _ _ _ _, HB0.out.alloc HB0.out.size _, by omega⟩
  generalize ((w.alloc (dskO (.slice (some ⟨b, off, none⟩) S.length c1) (.slice A2 C.length c2))).alloc (dskO (.slice none 0 0) (.slice none 0 0))).alloc (.cells (encS (List.replicate S.length [])) 9) = w3 at HP ⊢
  generalize w.heap.size + 1 + 1 = g at HP ⊢
  clear k0 hmk HT0 HT1 HB0
  have k0 := cell_blk HP.out.box 0
  have hcp := copiedS HP.out.row S (by simp) b off c1 S.length 3 (fun j x hx => (HP.out.bel.cell (p := ⟨b, off + j, none⟩) hbw).trans (HCS.out j x hx))
  go_upto_region 3 with fail
  have HP2 : Hid (PfI w g (.slice (some ⟨b, off, none⟩) S.length c1) (.slice A2 C.length c2) (perfL c C S 0) (w3.setRow g (encS S))) :=
    Lib.hid ⟨by rw [setRow_other _ _ _ _ (by have := HP.out.lo; omega)]; exact HP.out.box, by rw [setRow_other _ _ _ _ (by have := HP.out.lo; omega)]; exact HP.out.res, HasS.row HP.out.row S, below_setRow HP.out.bel (by have := HP.out.lo; omega) _, HP.out.lo⟩
  generalize w3.setRow g (encS S) = w4 at HP2 ⊢
  clear HP hcp HCS k0
  have k1 := cell_blk HP2.out.box 1
  go_wp2_with fail
  clear k1
  go_loopw [19] (fun iv wr => ∃ k : Nat, k ≤ C.length ∧ iv = .int .i64 k ∧ Hid (PfI w g (.slice (some ⟨b, off, none⟩) S.length c1) (.slice A2 C.length c2) (perfL c C S k) wr)) (fun iv _ => C.length - (intOf iv).toNat)
  case atStart => exact ⟨0, Nat.zero_le _, rfl, HP2⟩
  case round =>
    obtain ⟨k, hk, rfl, hr⟩ := hrel
    clear HP2
    by_cases hlt : k < C.length
    · obtain ⟨b2, off2, rfl, hb2, hc2⟩ := H2.out (by omega)
      obtain ⟨x, hx⟩ : ∃ x, C[k]? = some x := ⟨_, List.getElem?_eq_getElem hlt⟩
      obtain ⟨p0, p1⟩ := hc2 k x hx
      have q0 := (hr.out.bel.cell (p := ⟨b2, off2 + k * 2, none⟩) hb2).trans p0
      have q1 := (hr.out.bel.cell (p := ⟨b2, off2 + k * 2 + 1, none⟩) hb2).trans p1
      obtain ⟨f0, f1, f2⟩ := HFIT.out k x hx
      have HD : Hid (wrD C k = x) := Lib.hid (by unfold wrD; rw [List.getD_eq_getElem?_getD, hx]; rfl)
      obtain ⟨a, s⟩ := x
      simp only at q0 q1 f0 f1 f2
      have HA := Lib.hid (hr.out.call ((Below.refl wr.heap.size wr).alloc (Nat.le_refl _) (.cells #[.int .i64 a, strV s] 84)))
      have hbk := blk_new wr (.cells #[.int .i64 a, strV s] 84)
      have hcc := HC.out k (wr.alloc (.cells #[.int .i64 a, strV s] 84)) hlt HA.out.bel
      have HBK := Lib.hid hbk
      have HCC := Lib.hid hcc
      clear hc2 hx p0 p1 H2 hbk hcc
      go_wp2_with fail
      refine HCC.out.mono ?_
      rintro e w5 ⟨rfl, hb5⟩
      have hk5 := blk_below HBK.out hb5 (blk_lt HBK.out)
      have HR5 := Lib.hid (HA.out.call hb5)
      have m0 := cell_blk hk5 0
      have m1 := cell_blk hk5 1
      clear HA HBK HCC hb5 hk5 q0 q1 hr
      cases hck : c k with
      | true =>
        have HPL : Hid (perfL c C S (k + 1) = (perfL c C S k).set a.toNat s) := Lib.hid (by rw [perfL, if_pos hck, HD.out])
        obtain ⟨an, rfl⟩ : ∃ an : Nat, a = an := ⟨a.toNat, by omega⟩
        have hal : an < (perfL c C S k).length := by rw [perfL_len]; omega
        obtain ⟨y, hy⟩ : ∃ y, (perfL c C S k)[an]? = some y := ⟨_, List.getElem?_eq_getElem hal⟩
        have cy := HR5.out.row.cell hy
        have yy := HR5.out.row.free an
        have HE5 := Lib.hid (HR5.out.put an s)
        have hpl := HPL.out
        simp only [Int.toNat_natCast] at hpl
        rw [← hpl] at HE5
        clear hck HPL hal hy hpl HD
        go_wp2
        exact ⟨⟨k + 1, by omega, by go_num, HE5⟩, by simp [intOf]; omega⟩
      | false =>
        have HPL : Hid (perfL c C S (k + 1) = perfL c C S k) := Lib.hid (by rw [perfL, if_neg (by rw [hck]; simp)])
        clear hck HD
        go_wp2
        exact ⟨⟨k + 1, by omega, by go_num, by rw [HPL.out]; exact HR5⟩, by simp [intOf]; omega⟩
    · obtain rfl : k = C.length := by omega
      have c0 := cell_blk hr.out.res 0
      have c1 := cell_blk hr.out.res 1
      have y0 := free_blk hr.out.res 0
      have y1 := free_blk hr.out.res 1
      have hB := blk_set (blk_set hr.out.res 0 (.slice (some ⟨g, 0, none⟩) S.length S.length)) 1 (.slice none 0 0)
      have f0 := cell_blk hB 0
      have f1 := cell_blk hB 1
      simp only [List.setIfInBounds_toArray, List.set_cons_zero, List.set_cons_succ, List.getElem?_toArray, List.getElem?_cons_zero, List.getElem?_cons_succ] at f0 f1
      clear hB hlt H2 HC HFIT
      have HL : Hid (w.heap.size + 1 < g) := Lib.hid hr.out.lo
      go_wp2
      refine bodyPost_ret (v := .agg #[.slice (some ⟨g, 0, none⟩) S.length S.length, .slice none 0 0]) (by simp [results, Tryz.results42, go_sem, f0, f1]) rfl ?_
      have hlo := HL.out
      refine ⟨g, rfl, ?_, by omega, ?_⟩
      · exact (hr.out.row.far (p := ⟨w.heap.size + 1, 0, none⟩) (by simp; omega) _).far (p := ⟨w.heap.size + 1, 1, none⟩) (by simp; omega) _
      · exact (hr.out.bel.setCell (p := ⟨w.heap.size + 1, 0, none⟩) (by simp) _).setCell (p := ⟨w.heap.size + 1, 1, none⟩) (by simp) _
end Go.Proofs.YtomnljigoljldaaGreatDoor.DS


namespace Go.Proofs.YtomnljigoljldaaGreatDoor.DS
open Go.RowKit Mailsack MM BB

def noB (n : Nat) : Array Value := (List.replicate n (Value.bool false)).toArray
theorem noB_none (n : Nat) : madeCells (Value.cells (.bool false)) (n * 1) = noB n := by
  apply Array.ext_getElem?
  intro i
  by_cases h : i < n
  · have : (noB n)[i]? = some (.bool false) := by simp [noB, h]
    rw [this]
    simp [madeCells, Value.cells, h, Nat.mod_one]
  · rw [Array.getElem?_eq_none (by simp [madeCells]; omega), Array.getElem?_eq_none (by simp [noB]; omega)]
theorem noB_at {n i : Nat} (h : i < n) : (noB n)[i]? = some (.bool false) := by simp [noB, h]
theorem madeB (W : World) (n : Nat) (hm : n ≤ 1000000) : (Instr.makeSlice 109 (.int .i64 (n : Int)) (.int .i64 (n : Int))).run Tryz.prog W = .ok (.slice (some ⟨W.heap.size, 0, none⟩) n n) (W.alloc (.cells (noB n) 4)) := by
  have hinfo : (Tryz.prog.info? 4).map (fun i => (i.zero, i.size, i.bytes)) = some (some (.bool false), 1, 1) := by kernel_rfl
  cases hq : Tryz.prog.info? 4 with
  | none => rw [hq] at hinfo; cases hinfo
  | some i =>
    rw [hq] at hinfo
    simp only [Option.map_some, Option.some.injEq, Prod.mk.injEq] at hinfo
    obtain ⟨hz, hs, hb⟩ := hinfo
    have h := run_make (P := Tryz.prog) (w := W) 109 4 i _ Tryz.underlying109 hq hz .i64 .i64 (n : Int) (n : Int) (by omega) (by omega) (by rw [hb]; omega) (by omega)
    simp only [Int.toNat_natCast] at h
    rw [hs, noB_none] at h
    exact h

set_option maxHeartbeats 1000000 in
set_option maxRecDepth 100000 in
theorem allof_any (i : Int) (w : World) : Calls Tryz.prog 156 #[.int .i64 i] w fun e w' => e = .returned (.bool true) ∧ Below w.heap.size w w' := by
  go_enter Tryz.func156, Tryz.ntmps156
  go_wp2
  go_ret
  exact ⟨rfl, Below.refl _ _⟩
set_option maxHeartbeats 1000000 in
set_option maxRecDepth 100000 in
theorem noneof_any (i n kb g : Nat) (w : World) (hi : i < n) (h1 : w.heap[kb]? = some (.cells #[.slice (some ⟨g, 0, none⟩) n n] 109 (0, 0))) (h2 : w.heap[g]? = some (.cells (noB n) 4 (0, 0))) :
    Calls Tryz.prog 43 #[.int .i64 (i : Int), .pointer (some ⟨kb, 0, none⟩)] w fun e w' => e = .returned (.bool false) ∧ Below w.heap.size w w' := by
  have c0 := cell_blk h1 0
  have c1 : w.cell? ⟨g, i, none⟩ = some (.bool false) := (cell_blk h2 i).trans (noB_at hi)
  clear h1 h2
  go_enter Tryz.func43, Tryz.ntmps43
  go_wp2
  go_ret
  exact ⟨rfl, Below.refl _ _⟩

set_option maxHeartbeats 1000000 in
set_option maxRecDepth 100000 in
theorem flush_any (va vb : Value) (d : Dk) (w : World) (h : RdD w w.heap.size va vb d) :
    Calls Tryz.prog 76 #[.agg #[va, vb]] w fun e w' => ∃ va' vb', e = .returned (.agg #[va', vb']) ∧ RdD w' w'.heap.size va' vb' (flushP d) ∧ (rightP d = true → ∃ g, va' = .slice (some ⟨g, 0, none⟩) d.secs.length d.secs.length ∧ HasS w' g (flushP d).secs) ∧ Below w.heap.size w w' := by
  obtain ⟨A1, c1, rfl, _, _⟩ := h.s
  obtain ⟨A2, c2, rfl, _, _⟩ := h.c
  have t0 := two_old w (dskO (.slice A1 d.secs.length c1) (.slice A2 d.cache.length c2)) (dskO (.slice none 0 0) (.slice none 0 0))
  have t1 := two_new w (dskO (.slice A1 d.secs.length c1) (.slice A2 d.cache.length c2)) (dskO (.slice none 0 0) (.slice none 0 0))
  have HB0 := Lib.hid (((Below.refl w.heap.size w).alloc (Nat.le_refl _) (dskO (.slice A1 d.secs.length c1) (.slice A2 d.cache.length c2))).alloc (by simp) (dskO (.slice none 0 0) (.slice none 0 0)))
  have HD := Lib.hid h
  have HRT := Lib.hid (fun W (hb : Below w.heap.size w W) => right_any _ _ d W ((h.below hb (Nat.le_refl _)).more hb.size))
  have HT0 := Lib.hid t0
  have HT1 := Lib.hid t1
  have k0 := cell_blk t0 0
  have k1 := cell_blk t0 1
  clear h t0 t1
  go_enter Tryz.func76, Tryz.ntmps76
  go_wp2_with fail
  refine (HRT.out _ HB0.out).mono ?_
  rintro e w1 ⟨rfl, hb1⟩
  have HB1 := Lib.hid (HB0.out.trans (hb1.mono HB0.out.size))
  have HT0' := Lib.hid (blk_below HT0.out hb1 (blk_lt HT0.out))
  have HT1' := Lib.hid (blk_below HT1.out hb1 (blk_lt HT1.out))
  clear HT0 HT1 HB0 hb1 k0 k1 HRT
  have k0 := cell_blk HT0'.out 0
  have k1 := cell_blk HT0'.out 1
  cases hr : rightP d with
  | false =>
    have j0 := cell_blk HT1'.out 0
    have j1 := cell_blk HT1'.out 1
    have y0 := free_blk HT1'.out 0
    have y1 := free_blk HT1'.out 1
    have hB := blk_set (blk_set HT1'.out 0 (.slice A1 d.secs.length c1)) 1 (.slice A2 d.cache.length c2)
    have f0 := cell_blk hB 0
    have f1 := cell_blk hB 1
    simp only [List.setIfInBounds_toArray, List.set_cons_zero, List.set_cons_succ, List.getElem?_toArray, List.getElem?_cons_zero, List.getElem?_cons_succ] at f0 f1
    have HF : Hid (flushP d = d) := Lib.hid (by unfold flushP; rw [if_neg (by rw [hr]; simp)])
    have HRF := Lib.hid hr
    clear hB hr
    go_wp2
    refine bodyPost_ret (v := .agg #[.slice A1 d.secs.length c1, .slice A2 d.cache.length c2]) (by simp [results, Tryz.results76, go_sem, f0, f1]) rfl ?_
    have hb := (HB1.out.setCell (p := ⟨w.heap.size + 1, 0, none⟩) (by simp) (.slice A1 d.secs.length c1)).setCell (p := ⟨w.heap.size + 1, 1, none⟩) (by simp) (.slice A2 d.cache.length c2)
    refine ⟨_, _, rfl, ?_, (fun h => by rw [HRF.out] at h; cases h), hb⟩
    rw [HF.out]
    exact (HD.out.below hb (Nat.le_refl _)).more hb.size
  | true =>
    have HPF := Lib.hid (perform_any _ _ d 156 #[] (fun _ => true) w1 ((HD.out.below HB1.out (Nat.le_refl _)).more HB1.out.size) hr (fun args W => enters_of Tryz.func156 (by kernel_rfl) rfl args W) (fun i W _ _ => by have := allof_any i W; simpa using this))
    have HF : Hid (flushP d = ⟨perfL (fun _ => true) d.cache d.secs d.cache.length, []⟩) := Lib.hid (by unfold flushP; rw [if_pos hr])
    clear hr
    go_wp2_with fail
    refine HPF.out.mono ?_
    rintro e w2 ⟨g, rfl, hs, hg, hb2⟩
    have HT2 := Lib.hid (blk_below HT1'.out hb2 (blk_lt HT1'.out))
    have HS2 := Lib.hid hs
    have HB2 := Lib.hid (HB1.out.trans (hb2.mono HB1.out.size))
    have hgw : w.heap.size + 1 < g := by have := blk_lt HT1'.out; omega
    clear HPF hs hg hb2 HT0' HT1' HB1 k0 k1
    have j0 := cell_blk HT2.out 0
    have j1 := cell_blk HT2.out 1
    have y0 := free_blk HT2.out 0
    have y1 := free_blk HT2.out 1
    have hB := blk_set (blk_set HT2.out 0 (.slice (some ⟨g, 0, none⟩) d.secs.length d.secs.length)) 1 (.slice none 0 0)
    have f0 := cell_blk hB 0
    have f1 := cell_blk hB 1
    simp only [List.setIfInBounds_toArray, List.set_cons_zero, List.set_cons_succ, List.getElem?_toArray, List.getElem?_cons_zero, List.getElem?_cons_succ] at f0 f1
    clear hB
    go_wp2
    refine bodyPost_ret (v := .agg #[.slice (some ⟨g, 0, none⟩) d.secs.length d.secs.length, .slice none 0 0]) (by simp [results, Tryz.results76, go_sem, f0, f1]) rfl ?_
    have hb := (HB2.out.setCell (p := ⟨w.heap.size + 1, 0, none⟩) (by simp) (.slice (some ⟨g, 0, none⟩) d.secs.length d.secs.length)).setCell (p := ⟨w.heap.size + 1, 1, none⟩) (by simp) (.slice none 0 0)
    have hs2 := (HS2.out.far (p := ⟨w.heap.size + 1, 0, none⟩) (by simp; omega) (.slice (some ⟨g, 0, none⟩) d.secs.length d.secs.length)).far (p := ⟨w.heap.size + 1, 1, none⟩) (by simp; omega) (.slice none 0 0)
    refine ⟨_, _, rfl, ?_, fun _ => ⟨g, rfl, ?_⟩, hb⟩
    · rw [HF.out]
      refine ⟨?_, RdW.nil0 _ _, ?_, by simp⟩
      · have hl := perfL_len (fun _ => true) d.cache d.secs d.cache.length
        have := hs2.rd d.secs.length (by omega)
        rw [hl] at this
        exact this.more (by have := hs2.lt; omega)
      · show (perfL _ _ _ _).length ≤ _
        rw [perfL_len]
        exact HD.out.ls
    · rw [HF.out]
      exact hs2
end Go.Proofs.YtomnljigoljldaaGreatDoor.DS


namespace Go.Proofs.YtomnljigoljldaaGreatDoor.DS
open Go.RowKit Mailsack MM BB

set_option maxHeartbeats 1000000 in
set_option maxRecDepth 100000 in
theorem crash_any (va vb : Value) (d : Dk) (w : World) (h : RdD w w.heap.size va vb d) (hr : rightP d = true) :
    Calls Tryz.prog 21 #[.agg #[va, vb], .slice none 0 0] w fun e w' => ∃ g, e = .returned (.agg #[.slice (some ⟨g, 0, none⟩) d.secs.length d.secs.length, .slice none 0 0]) ∧ HasS w' g (crashP d).secs ∧ w.heap.size < g ∧ Below w.heap.size w w' := by
  obtain ⟨A1, c1, rfl, _, _⟩ := h.s
  obtain ⟨A2, c2, rfl, _, _⟩ := h.c
  have t0 := two_old w (dskO (.slice A1 d.secs.length c1) (.slice A2 d.cache.length c2)) (dskO (.slice none 0 0) (.slice none 0 0))
  have t1 := two_new w (dskO (.slice A1 d.secs.length c1) (.slice A2 d.cache.length c2)) (dskO (.slice none 0 0) (.slice none 0 0))
  have HB0 := Lib.hid (((Below.refl w.heap.size w).alloc (Nat.le_refl _) (dskO (.slice A1 d.secs.length c1) (.slice A2 d.cache.length c2))).alloc (by simp) (dskO (.slice none 0 0) (.slice none 0 0)))
  have HD := Lib.hid h
  have HRT := Lib.hid (fun W (hb : Below w.heap.size w W) => right_any _ _ d W ((h.below hb (Nat.le_refl _)).more hb.size))
  have HT0 := Lib.hid t0
  have HT1 := Lib.hid t1
  have k0 := cell_blk t0 0
  have k1 := cell_blk t0 1
  have HR := Lib.hid hr
  have hlc := h.lc
  have HF : Hid (crashP d = ⟨perfL (fun _ => false) d.cache d.secs d.cache.length, []⟩) := Lib.hid (by unfold crashP; rw [if_pos hr])
  rw [hr] at HRT
  clear h t0 t1 hr
  go_enter Tryz.func21, Tryz.ntmps21
  go_wp2_with fail
  refine (HRT.out _ HB0.out).mono ?_
  rintro e w1 ⟨rfl, hb1⟩
  have HB1 := Lib.hid (HB0.out.trans (hb1.mono HB0.out.size))
  have HT0' := Lib.hid (blk_below HT0.out hb1 (blk_lt HT0.out))
  have HT1' := Lib.hid (blk_below HT1.out hb1 (blk_lt HT1.out))
  clear HT0 HT1 HB0 hb1 k0 k1 HRT
  have k1 := cell_blk HT0'.out 1
  have hmk := fun W => madeB W d.cache.length (by omega)
  have z0 := two_old w1 (.cells (noB d.cache.length) 4) (.cells #[.slice (some ⟨w1.heap.size, 0, none⟩) d.cache.length d.cache.length] 109)
  have z1 := two_new w1 (.cells (noB d.cache.length) 4) (.cells #[.slice (some ⟨w1.heap.size, 0, none⟩) d.cache.length d.cache.length] 109)
  have HZ0 := Lib.hid z0
  have HZ1 := Lib.hid z1
  have HB2 := Lib.hid ((HB1.out.alloc HB1.out.size (.cells (noB d.cache.length) 4)).alloc (by have := HB1.out.size; simp; omega) (.cells #[.slice (some ⟨w1.heap.size, 0, none⟩) d.cache.length d.cache.length] 109))
  have HW0 := Lib.hid (blk_alloc (blk_alloc HT0'.out (.cells (noB d.cache.length) 4)) (.cells #[.slice (some ⟨w1.heap.size, 0, none⟩) d.cache.length d.cache.length] 109))
  have HW1 := Lib.hid (blk_alloc (blk_alloc HT1'.out (.cells (noB d.cache.length) 4)) (.cells #[.slice (some ⟨w1.heap.size, 0, none⟩) d.cache.length d.cache.length] 109))
  clear z0 z1 HT0' HT1' HB1
  go_wp2_with fail
  go_loopw [18] (fun iv wr => iv = .int .i64 0 ∧ wr = (w1.alloc (.cells (noB d.cache.length) 4)).alloc (.cells #[.slice (some ⟨w1.heap.size, 0, none⟩) d.cache.length d.cache.length] 109)) (fun _ _ => 0)
  case atStart => exact ⟨rfl, rfl⟩
  case round =>
    obtain ⟨rfl, rfl⟩ := hrel
    clear hmk k1
    generalize (w1.alloc (.cells (noB d.cache.length) 4)).alloc (.cells #[.slice (some ⟨w1.heap.size, 0, none⟩) d.cache.length d.cache.length] 109) = w3 at HZ0 HZ1 HB2 HW0 HW1 ⊢
    have k0 := cell_blk HW0.out 0
    have k1 := cell_blk HW0.out 1
    have HPF := Lib.hid (perform_any _ _ d 43 #[.pointer (some ⟨w1.heap.size + 1, 0, none⟩)] (fun _ => false) w3 ((HD.out.below HB2.out (Nat.le_refl _)).more HB2.out.size) HR.out (fun args W => enters_of Tryz.func43 (by kernel_rfl) rfl args W) (fun i W hi hb => noneof_any i d.cache.length (w1.heap.size + 1) w1.heap.size W hi (blk_below HZ1.out hb (blk_lt HZ1.out)) (blk_below HZ0.out hb (blk_lt HZ0.out))))
    clear HZ0 HZ1
    go_wp2_with fail
    refine HPF.out.mono ?_
    rintro e w2 ⟨g, rfl, hs, hg, hb2⟩
    have HT2 := Lib.hid (blk_below HW1.out hb2 (blk_lt HW1.out))
    have HS2 := Lib.hid hs
    have HB3 := Lib.hid (HB2.out.trans (hb2.mono HB2.out.size))
    have hgw : w.heap.size + 1 < g := by have := blk_lt HW1.out; omega
    clear HPF hs hg hb2 HW0 HW1 HB2 k0 k1 HD HR
    have j0 := cell_blk HT2.out 0
    have j1 := cell_blk HT2.out 1
    have y0 := free_blk HT2.out 0
    have y1 := free_blk HT2.out 1
    have hB := blk_set (blk_set HT2.out 0 (.slice (some ⟨g, 0, none⟩) d.secs.length d.secs.length)) 1 (.slice none 0 0)
    have f0 := cell_blk hB 0
    have f1 := cell_blk hB 1
    simp only [List.setIfInBounds_toArray, List.set_cons_zero, List.set_cons_succ, List.getElem?_toArray, List.getElem?_cons_zero, List.getElem?_cons_succ] at f0 f1
    clear hB
    go_wp2
    refine bodyPost_ret (v := .agg #[.slice (some ⟨g, 0, none⟩) d.secs.length d.secs.length, .slice none 0 0]) (by simp [results, Tryz.results21, go_sem, f0, f1]) rfl ?_
    have hb := (HB3.out.setCell (p := ⟨w.heap.size + 1, 0, none⟩) (by simp) (.slice (some ⟨g, 0, none⟩) d.secs.length d.secs.length)).setCell (p := ⟨w.heap.size + 1, 1, none⟩) (by simp) (.slice none 0 0)
    have hs2 := (HS2.out.far (p := ⟨w.heap.size + 1, 0, none⟩) (by simp; omega) (.slice (some ⟨g, 0, none⟩) d.secs.length d.secs.length)).far (p := ⟨w.heap.size + 1, 1, none⟩) (by simp; omega) (.slice none 0 0)
    refine ⟨g, rfl, ?_, by omega, hb⟩
    rw [HF.out]
    exact hs2
end Go.Proofs.YtomnljigoljldaaGreatDoor.DS


namespace Go.Proofs.YtomnljigoljldaaGreatDoor.DS
open Go.RowKit Mailsack MM BB SH

set_option maxHeartbeats 1000000 in
set_option maxRecDepth 100000 in
theorem suits_any (va vb : Value) (d : Dk) (w : World) (h : RdD w w.heap.size va vb d) :
    Calls Tryz.prog 75 #[.agg #[va, vb]] w fun e w' => e = .returned (.bool (decide (61 < d.secs.length) && rightP d)) ∧ Below w.heap.size w w' := by
  obtain ⟨A1, c1, rfl, _, _⟩ := h.s
  obtain ⟨A2, c2, rfl, _, _⟩ := h.c
  have hb := blk_new w (dskO (.slice A1 d.secs.length c1) (.slice A2 d.cache.length c2))
  have HB := Lib.hid ((Below.refl w.heap.size w).alloc (Nat.le_refl _) (dskO (.slice A1 d.secs.length c1) (.slice A2 d.cache.length c2)))
  have HRT := Lib.hid (fun W (hb : Below w.heap.size w W) => right_any _ _ d W ((h.below hb (Nat.le_refl _)).more hb.size))
  have k0 := cell_blk hb 0
  have k1 := cell_blk hb 1
  clear h hb
  by_cases hl : 61 < d.secs.length
  · have hi : 61 < (d.secs.length : Int) := by omega
    have HD : Hid (decide (61 < d.secs.length) = true) := Lib.hid (by simpa using hl)
    go_enter Tryz.func75, Tryz.ntmps75
    go_wp2_with fail
    refine (HRT.out _ HB.out).mono ?_
    rintro e w1 ⟨rfl, hb1⟩
    have HB1 := Lib.hid (HB.out.trans (hb1.mono HB.out.size))
    have HE : Hid ((decide (61 < d.secs.length) && rightP d) = rightP d) := Lib.hid (by rw [HD.out, Bool.true_and])
    clear hb1
    go_wp2
    go_ret
    exact ⟨by rw [HE.out]; rfl, HB1.out⟩
  · have hi : ¬ (61 < (d.secs.length : Int)) := by omega
    have HE : Hid ((decide (61 < d.secs.length) && rightP d) = false) := Lib.hid (by simp [hl])
    go_enter Tryz.func75, Tryz.ntmps75
    go_wp2
    go_ret
    exact ⟨rfl, HB.out⟩

set_option maxHeartbeats 1000000 in
set_option maxRecDepth 100000 in
theorem repair_none (va vb : Value) (d : Dk) (x : ByteArray) (xs : List Bs) (w : World) (h : RdD w w.heap.size va vb d) (hr : rightP d = true) (hl : 61 < d.secs.length) (hx : (flushP d).secs = x.data.toList :: xs) (hx0 : 0 < x.size) (hx1 : byteI x 0 ≠ 74) :
    Calls Tryz.prog 39 #[.agg #[va, vb]] w fun e w' => e = .returned (.slice none 0 0) ∧ Below w.heap.size w w' := by
  obtain ⟨A1, c1, rfl, _, _⟩ := h.s
  obtain ⟨A2, c2, rfl, _, _⟩ := h.c
  have hb := blk_new w (dskO (.slice A1 d.secs.length c1) (.slice A2 d.cache.length c2))
  have HB := Lib.hid ((Below.refl w.heap.size w).alloc (Nat.le_refl _) (dskO (.slice A1 d.secs.length c1) (.slice A2 d.cache.length c2)))
  have HST := Lib.hid (fun W (hb : Below w.heap.size w W) => suits_any _ _ d W ((h.below hb (Nat.le_refl _)).more hb.size))
  have HFL := Lib.hid (fun W (hb : Below w.heap.size w W) => flush_any _ _ d W ((h.below hb (Nat.le_refl _)).more hb.size))
  rw [show (decide (61 < d.secs.length) && rightP d) = true by rw [hr]; simpa using hl] at HST
  have HK := Lib.hid hb
  have k0 := cell_blk hb 0
  have k1 := cell_blk hb 1
  have HR := Lib.hid hr
  have HX := Lib.hid hx
  have hdl : ¬ ((d.secs.length : Int) ≤ 0) := by omega
  have hdl2 : (0 : Int) < (d.secs.length : Int) := by omega
  have HI := Lib.hid (fun w => run_idx (P := Tryz.prog) Tryz.underlying9 x (0 : Int) 0 rfl hx0 w)
  have hbI := byteI_range x 0
  have hb74 : (byteI x 0 != 74) = true := by simpa using hx1
  clear h hb hr hx hx0 hl
  go_enter Tryz.func39, Tryz.ntmps39
  go_wp2_with fail
  refine (HST.out _ HB.out).mono ?_
  rintro e w1 ⟨rfl, hb1⟩
  have HB1 := Lib.hid (HB.out.trans (hb1.mono HB.out.size))
  have HK1 := Lib.hid (blk_below HK.out hb1 (blk_lt HK.out))
  clear hb1 HB HK HST k0 k1
  have k0 := cell_blk HK1.out 0
  have k1 := cell_blk HK1.out 1
  go_wp2_with fail
  refine (HFL.out _ HB1.out).mono ?_
  rintro e w2 ⟨va', vb', rfl, hd2, hg2, hb2⟩
  obtain ⟨g, rfl, hs⟩ := hg2 HR.out
  rw [HX.out] at hs
  have HB2 := Lib.hid (HB1.out.trans (hb2.mono HB1.out.size))
  have s0 : w2.cell? ⟨g, 0, none⟩ = some (.string x) := hs.cell (i := 0) (by simp)
  clear hd2 hg2 hb2 HFL HB1 HK1 k0 k1 hs
  have hfld := fun (W : World) => (show (Instr.field 44 (.agg #[.slice (some ⟨g, 0, none⟩) d.secs.length d.secs.length, vb']) 0).run Tryz.prog W = .ok (.slice (some ⟨g, 0, none⟩) d.secs.length d.secs.length) W from rfl)
  have hix := HI.out
  generalize byteI x 0 = b at hix hbI hb74 hx1
  go_wp2
  go_ret
  exact ⟨rfl, HB2.out⟩

set_option maxHeartbeats 1000000 in
set_option maxRecDepth 100000 in
theorem run_none (va vb : Value) (d : Dk) (m : Int) (w : World) (h : RdD w w.heap.size va vb d) :
    Calls Tryz.prog 40 #[.agg #[va, vb], .slice none 0 0, .int .i64 m] w fun e w' => e = .returned (.agg #[va, vb]) ∧ Below w.heap.size w w' := by
  obtain ⟨A1, c1, rfl, _, _⟩ := h.s
  obtain ⟨A2, c2, rfl, _, _⟩ := h.c
  have t0 := two_old w (dskO (.slice A1 d.secs.length c1) (.slice A2 d.cache.length c2)) (dskO (.slice none 0 0) (.slice none 0 0))
  have t1 := two_new w (dskO (.slice A1 d.secs.length c1) (.slice A2 d.cache.length c2)) (dskO (.slice none 0 0) (.slice none 0 0))
  have HB := Lib.hid (((Below.refl w.heap.size w).alloc (Nat.le_refl _) (dskO (.slice A1 d.secs.length c1) (.slice A2 d.cache.length c2))).alloc (by simp) (dskO (.slice none 0 0) (.slice none 0 0)))
  have HT0 := Lib.hid t0
  have HT1 := Lib.hid t1
  clear h t0 t1
  go_enter Tryz.func40, Tryz.ntmps40
  go_wp2_with fail
  generalize (w.alloc (dskO (.slice A1 d.secs.length c1) (.slice A2 d.cache.length c2))).alloc (dskO (.slice none 0 0) (.slice none 0 0)) = w1 at HB HT0 HT1 ⊢
  go_loopw [13] (fun iv wr => iv = .int .i64 0 ∧ wr = w1) (fun _ _ => 0)
  case atStart => exact ⟨rfl, rfl⟩
  case round =>
    obtain ⟨rfl, rfl⟩ := hrel
    have k0 := cell_blk HT0.out 0
    have k1 := cell_blk HT0.out 1
    have j0 := cell_blk HT1.out 0
    have j1 := cell_blk HT1.out 1
    have y0 := free_blk HT1.out 0
    have y1 := free_blk HT1.out 1
    have hB := blk_set (blk_set HT1.out 0 (.slice A1 d.secs.length c1)) 1 (.slice A2 d.cache.length c2)
    have f0 := cell_blk hB 0
    have f1 := cell_blk hB 1
    simp only [List.setIfInBounds_toArray, List.set_cons_zero, List.set_cons_succ, List.getElem?_toArray, List.getElem?_cons_zero, List.getElem?_cons_succ] at f0 f1
    clear hB
    go_wp2
    refine bodyPost_ret (v := .agg #[.slice A1 d.secs.length c1, .slice A2 d.cache.length c2]) (by simp [results, Tryz.results40, go_sem, f0, f1]) rfl ?_
    exact ⟨rfl, (HB.out.setCell (p := ⟨w.heap.size + 1, 0, none⟩) (by simp) _).setCell (p := ⟨w.heap.size + 1, 1, none⟩) (by simp) _⟩
end Go.Proofs.YtomnljigoljldaaGreatDoor.DS

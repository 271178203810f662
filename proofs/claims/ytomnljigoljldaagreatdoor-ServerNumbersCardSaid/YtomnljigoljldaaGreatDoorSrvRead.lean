/- What server's client.read returns where all that comes whole is NOOP, and what it turns. Conditions: the server's and the client's block; lengths; the contracts of server.draw, and the tables. -/
import Derived.Test.YtomnljigoljldaaGreatDoorSrvDraw
import Derived.Test.YtomnljigoljldaaGreatDoorImapDo
import Derived.Test.YtomnljigoljldaaGreatDoorLTake
import Derived.Test.YtomnljigoljldaaGreatDoorBuilderT
import Derived.Test.YtomnljigoljldaaGreatDoorShelf
namespace Mailsack
/-- so many times what is answered to a literal -/
def plusP : Nat → Bs
  | 0 => []
  | k + 1 => plusP k ++ [43, 32, 13, 10]
theorem plusP_len : ∀ k, (plusP k).length = 4 * k
  | 0 => rfl
  | k + 1 => by simp [plusP, plusP_len k]; omega
/-- all commands that are whole are NOOP: what is answered, what is left, the literals that were answered -/
def readG : Nat → Bs → Int → Bs → Option (Bs × Bs × Int)
  | 0, _, _, _ => none
  | f + 1, wt, an, out =>
    if out.length ≤ 100000 ∧ (takeP wt).n ≤ 100 ∧ 0 ≤ an ∧ an ≤ 100 then
      if (takeP wt).state = 0 then some (out ++ plusP ((takeP wt).n - an).toNat, wt, max an (takeP wt).n)
      else if (takeP wt).state = 1 ∧ (takeP wt).rest.length < wt.length ∧ (takeP wt).texts.length ≤ 10 ∧ (takeP wt).lits.length ≤ 10 ∧ ((takeP wt).texts.all fun x => decide (x.length ≤ 1000)) = true then
        match tokensP (takeP wt).texts (takeP wt).lits with
        | some [(0, tag), (0, nm)] => if upP nm = [78, 79, 79, 80] ∧ tag ≠ [42] ∧ tag.length ≤ 1000 ∧ nm.length ≤ 1000 then readG f (takeP wt).rest 0 (out ++ plusP ((takeP wt).n - an).toNat ++ ([] ++ tag ++ [32, 79, 75, 13, 10])) else none
        | _ => none
      else none
    else none
end Mailsack
namespace Go.Proofs.YtomnljigoljldaaGreatDoor.SV
open Go.RowKit MM Mailsack BU

theorem own_tn {P : Nat → Prop} {w w' : World} {B s n : Nat} {e : TypeId} {v : Value} {xs : List Value} (h : w.ownsRow B e s v n xs) (ht : Tn P w w') (hP : ∀ k, P k → k < B) : w'.ownsRow B e s v n xs := by
  refine ⟨h.1, ?_⟩
  rcases h.2 with hn | ⟨g, cap, cur, h1, h2, h3, h4⟩
  · exact .inl hn
  · exact .inr ⟨g, cap, cur, h1, h2, ht.blk h3 (fun hp => by have := hP g hp; omega), h4⟩
theorem bld_tn {P : Nat → Prop} {B b : Nat} {l : Bs} {w w' : World} (h : Bld B b l w) (ht : Tn P w w') (hP : ∀ k, P k → k < B) (hb : B ≤ b) : Bld B b l w' := by
  have hnp : ¬ P b := fun hp => by have := hP b hp; omega
  rcases h with ⟨h1, v, hk, ho, hn⟩ | ⟨h1, v, hk, ho, hn⟩
  · exact .inl ⟨h1, v, ht.blk hk hnp, own_tn ho ht hP, hn⟩
  · exact .inr ⟨h1, v, ht.blk hk hnp, own_tn ho ht hP, hn⟩
/-- the memory of read's walk -/
structure RdI (w : World) (sb cb : Nat) (s c : Obj) (out : Bs) (W : World) : Prop where
  srv : W.heap[sb]? = some s
  cli : W.heap[cb]? = some c
  bld : Bld w.heap.size w.heap.size out W
  tn : Tn (fun i => i = sb ∨ i = cb) w W
section
variable {w : World} {sb cb : Nat} {s c : Obj} {out : Bs} {W W' : World}
theorem RdI.call (h : RdI w sb cb s c out W) (hb : Below W.heap.size W W') : RdI w sb cb s c out W' :=
  ⟨blk_below h.srv hb (blk_lt h.srv), blk_below h.cli hb (blk_lt h.cli), bld_tn (P := fun _ => False) h.bld (Tn.of hb) (fun _ h => h.elim) (Nat.le_refl _), h.tn.call hb⟩
theorem RdI.alloc (h : RdI w sb cb s c out W) (o : Obj) : RdI w sb cb s c out (W.alloc o) := h.call ((Below.refl _ W).alloc (Nat.le_refl _) o)
theorem RdI.drew (h : RdI w sb cb s c out W) : RdI w sb cb s c out W.drew := ⟨h.srv, h.cli, bld_tn (P := fun _ => False) h.bld ((Tn.refl _ _).drew) (fun _ h => h.elim) (Nat.le_refl _), h.tn.drew⟩
theorem RdI.write (h : RdI w sb cb s c out W) (hs : sb < w.heap.size) (hc : cb < w.heap.size) {out' : Bs} (hbd : Bld w.heap.size w.heap.size out' W') (hb : Below w.heap.size W W') : RdI w sb cb s c out' W' :=
  ⟨blk_below h.srv hb hs, blk_below h.cli hb hc, hbd, h.tn.low hb (Nat.le_refl _)⟩
theorem RdI.setC (h : RdI w sb cb s c out W) (hc : cb < w.heap.size) (hne : sb ≠ cb) {c' : Obj} {i : Nat} {u : Value} (h' : (W.setCell ⟨cb, i, none⟩ u).heap[cb]? = some c') : RdI w sb cb s c' out (W.setCell ⟨cb, i, none⟩ u) :=
  ⟨blk_far h.srv (p := ⟨cb, i, none⟩) hne _, h', bld_tn (P := fun k => k = cb) h.bld (Tn.set (P := fun k => k = cb) (Tn.refl _ _) (p := ⟨cb, i, none⟩) (.inl rfl) _) (fun k hk => by omega) (Nat.le_refl _), h.tn.set (p := ⟨cb, i, none⟩) (.inl (.inr rfl)) _⟩
theorem RdI.setS (h : RdI w sb cb s c out W) (hs : sb < w.heap.size) (hne : sb ≠ cb) {s' : Obj} {i : Nat} {u : Value} (h' : (W.setCell ⟨sb, i, none⟩ u).heap[sb]? = some s') : RdI w sb cb s' c out (W.setCell ⟨sb, i, none⟩ u) :=
  ⟨h', blk_far h.cli (p := ⟨sb, i, none⟩) (Ne.symm hne) _, bld_tn (P := fun k => k = sb) h.bld (Tn.set (P := fun k => k = sb) (Tn.refl _ _) (p := ⟨sb, i, none⟩) (.inl rfl) _) (fun k hk => by omega) (Nat.le_refl _), h.tn.set (p := ⟨sb, i, none⟩) (.inl (.inl rfl)) _⟩
end

theorem bld_lt {B b : Nat} {l : Bs} {w : World} (h : Bld B b l w) : b < w.heap.size := by
  rcases h with h | h <;> exact h.lt
theorem own_byt {b B : Nat} {w w' : World} {v : Value} {xs : List Bs} (h : OwnS w B v xs) (hb : ByT b w w') (hB : b < B) : OwnS w' B v xs := by
  refine ⟨h.1, ?_⟩
  rcases h.2 with hn | ⟨g, cap, cur, h1, h2, h3, h4⟩
  · exact .inl hn
  · exact .inr ⟨g, cap, cur, h1, h2, hb g _ h3 (by omega) (fun cs fr e => by injection e with _ e; exact absurd e (by decide)), h4⟩
/-- the blocks of the library's variables that are read -/
abbrev isG (i : Nat) : Prop := i = 1 ∨ i = 0 ∨ i = 2
theorem sha_tn {P : Nat → Prop} {w W : World} (h : SH.ShaT w) (ht : Tn P w W) (hP : ∀ i, P i → ¬ isG i) : SH.ShaT W := by
  obtain ⟨⟨t1, f1, h1⟩, ⟨t2, f2, h2⟩⟩ := h
  exact ⟨⟨t1, f1, ht.blk h1 (fun hp => hP _ hp (.inr (.inl rfl)))⟩, ⟨t2, f2, ht.blk h2 (fun hp => hP _ hp (.inr (.inr rfl)))⟩⟩
theorem dig_len (i : Nat) (h : i < 100) : (Lib.decDigits i).length ≤ 100 := by
  by_cases h1 : i < 10
  · rw [Lib.decDigits_one h1]; simp
  · rw [Lib.decDigits_two h1 h]; simp
/-- .. with a command in hand -/
structure RdC (w : World) (sb cb : Nat) (s c : Obj) (out : Bs) (g : Nat) (tv lv : Value) (T L : List Bs) (W : World) : Prop where
  rd : RdI w sb cb s c out W
  cmd : W.heap[g]? = some (.cells #[tv, lv] 100 (0, 0))
  ts : OwnS W (w.heap.size + 1) tv T
  ls : OwnS W (w.heap.size + 1) lv L
  lo : w.heap.size < g
section
variable {w : World} {sb cb g : Nat} {s c : Obj} {out : Bs} {tv lv : Value} {T L : List Bs} {W W' : World}
theorem RdC.write (h : RdC w sb cb s c out g tv lv T L W) (hs : sb < w.heap.size) (hc : cb < w.heap.size) {out' : Bs} (hbd : Bld w.heap.size w.heap.size out' W') (hb : Below w.heap.size W W') (hy : ByT w.heap.size W W') : RdC w sb cb s c out' g tv lv T L W' :=
  ⟨h.rd.write hs hc hbd hb, hy g _ h.cmd (by have := h.lo; omega) (fun cs fr e => by injection e with _ e; exact absurd e (by decide)), own_byt h.ts hy (Nat.lt_succ_self _), own_byt h.ls hy (Nat.lt_succ_self _), h.lo⟩
theorem RdC.setC (h : RdC w sb cb s c out g tv lv T L W) (hc : cb < w.heap.size) (hne : sb ≠ cb) {c' : Obj} {i : Nat} {u : Value} (h' : (W.setCell ⟨cb, i, none⟩ u).heap[cb]? = some c') : RdC w sb cb s c' out g tv lv T L (W.setCell ⟨cb, i, none⟩ u) :=
  ⟨h.rd.setC hc hne h', blk_far h.cmd (p := ⟨cb, i, none⟩) (by have := h.lo; simp; omega) _, h.ts.set (p := ⟨cb, i, none⟩) (by simp; omega) _, h.ls.set (p := ⟨cb, i, none⟩) (by simp; omega) _, h.lo⟩
end

/-- .. with two new blocks -/
structure DoI (w : World) (sb cb : Nat) (s c : Obj) (out : Bs) (g : Nat) (tv lv : Value) (T L : List Bs) (l16 l17 : Bool) (o16 o17 : Array Value) (b16 b17 : Nat) (W : World) : Prop where
  c : RdC w sb cb s c out g tv lv T L W
  d : l16 = true → W.heap[b16]? = some (.cells o16 44 (0, 0)) ∧ w.heap.size < b16
  e : l17 = true → W.heap[b17]? = some (.cells o17 64 (0, 0)) ∧ w.heap.size < b17
section
variable {w : World} {sb cb g : Nat} {s c : Obj} {out : Bs} {tv lv : Value} {T L : List Bs} {l16 l17 : Bool} {o16 o17 : Array Value} {b16 b17 : Nat} {W W' : World}
theorem RdC.call (h : RdC w sb cb s c out g tv lv T L W) (hb : Below W.heap.size W W') : RdC w sb cb s c out g tv lv T L W' :=
  ⟨h.rd.call hb, blk_below h.cmd hb (blk_lt h.cmd), h.ts.below hb, h.ls.below hb, h.lo⟩
theorem RdC.drew (h : RdC w sb cb s c out g tv lv T L W) : RdC w sb cb s c out g tv lv T L W.drew := ⟨h.rd.drew, h.cmd, h.ts.drewN 1, h.ls.drewN 1, h.lo⟩
theorem DoI.call (h : DoI w sb cb s c out g tv lv T L l16 l17 o16 o17 b16 b17 W) (hb : Below W.heap.size W W') : DoI w sb cb s c out g tv lv T L l16 l17 o16 o17 b16 b17 W' :=
  ⟨h.c.call hb, fun h1 => ⟨blk_below (h.d h1).1 hb (blk_lt (h.d h1).1), (h.d h1).2⟩, fun h1 => ⟨blk_below (h.e h1).1 hb (blk_lt (h.e h1).1), (h.e h1).2⟩⟩
theorem own_tn1 {P : Nat → Prop} {B : Nat} {v : Value} {xs : List Bs} (h : OwnS W B v xs) (ht : Tn P W W') (hP : ∀ k, P k → k < B) : OwnS W' B v xs := own_tn h ht hP
theorem RdC.srvT (h : RdC w sb cb s c out g tv lv T L W) (hs : sb < w.heap.size) (hne : sb ≠ cb) {s' : Obj} (h' : W'.heap[sb]? = some s') (ht : Tn (fun i => i = sb) W W') : RdC w sb cb s' c out g tv lv T L W' :=
  ⟨⟨h', ht.blk h.rd.cli (fun e => hne e.symm), bld_tn h.rd.bld ht (fun k hk => by omega) (Nat.le_refl _), h.rd.tn.trans (ht.more fun k hk => .inl hk)⟩, ht.blk h.cmd (fun e => by have := h.lo; omega), own_tn1 h.ts ht (fun k hk => by omega), own_tn1 h.ls ht (fun k hk => by omega), h.lo⟩
theorem DoI.srvT (h : DoI w sb cb s c out g tv lv T L l16 l17 o16 o17 b16 b17 W) (hs : sb < w.heap.size) (hne : sb ≠ cb) {s' : Obj} (h' : W'.heap[sb]? = some s') (ht : Tn (fun i => i = sb) W W') : DoI w sb cb s' c out g tv lv T L l16 l17 o16 o17 b16 b17 W' :=
  ⟨h.c.srvT hs hne h' ht, fun h1 => ⟨ht.blk (h.d h1).1 (fun e => by have := (h.d h1).2; omega), (h.d h1).2⟩, fun h1 => ⟨ht.blk (h.e h1).1 (fun e => by have := (h.e h1).2; omega), (h.e h1).2⟩⟩
theorem RdC.cliT (h : RdC w sb cb s c out g tv lv T L W) (hc : cb < w.heap.size) (hne : sb ≠ cb) {c' : Obj} (h' : W'.heap[cb]? = some c') (ht : Tn (fun i => i = cb) W W') : RdC w sb cb s c' out g tv lv T L W' :=
  ⟨⟨ht.blk h.rd.srv hne, h', bld_tn h.rd.bld ht (fun k hk => by omega) (Nat.le_refl _), h.rd.tn.trans (ht.more fun k hk => .inr hk)⟩, ht.blk h.cmd (fun e => by have := h.lo; omega), own_tn1 h.ts ht (fun k hk => by omega), own_tn1 h.ls ht (fun k hk => by omega), h.lo⟩
theorem DoI.cliT (h : DoI w sb cb s c out g tv lv T L l16 l17 o16 o17 b16 b17 W) (hc : cb < w.heap.size) (hne : sb ≠ cb) {c' : Obj} (h' : W'.heap[cb]? = some c') (ht : Tn (fun i => i = cb) W W') : DoI w sb cb s c' out g tv lv T L l16 l17 o16 o17 b16 b17 W' :=
  ⟨h.c.cliT hc hne h' ht, fun h1 => ⟨ht.blk (h.d h1).1 (fun e => by have := (h.d h1).2; omega), (h.d h1).2⟩, fun h1 => ⟨ht.blk (h.e h1).1 (fun e => by have := (h.e h1).2; omega), (h.e h1).2⟩⟩
theorem DoI.drew (h : DoI w sb cb s c out g tv lv T L l16 l17 o16 o17 b16 b17 W) : DoI w sb cb s c out g tv lv T L l16 l17 o16 o17 b16 b17 W.drew := ⟨h.c.drew, h.d, h.e⟩
/-- cells of a block above w's heap, other than the command's and the rows', are stored -/
theorem RdC.other (h : RdC w sb cb s c out g tv lv T L W) (hs : sb < w.heap.size) (hc : cb < w.heap.size) {b : Nat} (hb : w.heap.size < b) (hg : g ≠ b) {o : Obj} (ho : W.heap[b]? = some o) (hty : ∀ cs t fr, o = .cells cs t fr → t ≠ 9 ∧ t ≠ 5) (l : List Value) (i : Nat) : RdC w sb cb s c out g tv lv T L (setAll b i l W) := by
  have ht : Tn (fun k => k = b) W (setAll b i l W) := setAll_tn (P := fun k => k = b) (.inl rfl) l i W (Tn.refl _ _)
  have hown : ∀ {B s n : Nat} {e : TypeId} {v : Value} {xs : List Value}, (e = 9 ∨ e = 5) → W.ownsRow B e s v n xs → (setAll b i l W).ownsRow B e s v n xs := by
    intro B s n e v xs he h
    refine ⟨h.1, ?_⟩
    rcases h.2 with hn | ⟨g, cap, cur, h1, h2, h3, h4⟩
    · exact .inl hn
    · refine .inr ⟨g, cap, cur, h1, h2, ht.blk h3 (fun e1 => ?_), h4⟩
      rw [e1, ho] at h3
      injection h3 with h3
      have := hty _ _ _ h3
      rcases he with he | he
      · exact this.1 he
      · exact this.2 he
  have hbl : Bld w.heap.size w.heap.size out (setAll b i l W) := by
    have hnp : ¬ (w.heap.size = b) := by omega
    rcases h.rd.bld with ⟨h1, v, hk, hw, hn⟩ | ⟨h1, v, hk, hw, hn⟩
    · exact .inl ⟨h1, v, ht.blk hk hnp, hown (.inr rfl) hw, hn⟩
    · exact .inr ⟨h1, v, ht.blk hk hnp, hown (.inr rfl) hw, hn⟩
  exact ⟨⟨ht.blk h.rd.srv (fun e => by omega), ht.blk h.rd.cli (fun e => by omega), hbl, setAll_tn (.inr (by omega)) l i W h.rd.tn⟩, ht.blk h.cmd hg, hown (.inl rfl) h.ts, hown (.inl rfl) h.ls, h.lo⟩
theorem blk_ne {a b : Nat} {cs ds : Array Value} {t u : TypeId} {p q : Nat × Nat} (h : W.heap[a]? = some (.cells cs t p)) (k : W.heap[b]? = some (.cells ds u q)) (hne : t ≠ u) : a ≠ b := by
  rintro rfl
  rw [h] at k
  injection k with k
  injection k with _ k
  exact hne k
theorem DoI.stD (h : DoI w sb cb s c out g tv lv T L true l17 o16 o17 b16 b17 W) (hs : sb < w.heap.size) (hc : cb < w.heap.size) (l : List Value) (hl : l.length = o16.size) : DoI w sb cb s c out g tv lv T L true l17 l.toArray o17 b16 b17 (setAll b16 0 l W) := by
  obtain ⟨hb, hlo⟩ := h.d rfl
  refine ⟨h.c.other hs hc hlo (blk_ne h.c.cmd hb (by decide)) hb (fun cs t fr e => by injection e with _ e; rw [← e]; decide) l 0, fun _ => ⟨setAll_all hb hl, hlo⟩, fun h1 => ⟨setAll_far (blk_ne (h.e h1).1 hb (by decide)) l 0 W (h.e h1).1, (h.e h1).2⟩⟩
theorem DoI.stE (h : DoI w sb cb s c out g tv lv T L l16 true o16 o17 b16 b17 W) (hs : sb < w.heap.size) (hc : cb < w.heap.size) (l : List Value) (hl : l.length = o17.size) : DoI w sb cb s c out g tv lv T L l16 true o16 l.toArray b16 b17 (setAll b17 0 l W) := by
  obtain ⟨hb, hlo⟩ := h.e rfl
  refine ⟨h.c.other hs hc hlo (blk_ne h.c.cmd hb (by decide)) hb (fun cs t fr e => by injection e with _ e; rw [← e]; decide) l 0, fun h1 => ⟨setAll_far (blk_ne (h.d h1).1 hb (by decide)) l 0 W (h.d h1).1, (h.d h1).2⟩, fun _ => ⟨setAll_all hb hl, hlo⟩⟩
end

set_option maxHeartbeats 1000000 in
set_option maxRecDepth 100000 in
theorem read_noops (sb cb : Nat) (d0 d1 mv : Value) (seed : ByteArray) (k : Nat) (last : Int) (m0 m1 m2 m3 m4 m5 m6 r0 r1 r2 r3 r4 r5 r6 r7 r8 f : Value) (wt : ByteArray) (an : Int) (fuel : Nat) (res : Bs × Bs × Int) (m : Int) (w : World)
    (hs : w.heap[sb]? = some (srvO d0 d1 seed k last mv)) (hc : w.heap[cb]? = some (cliO wt an m0 m1 m2 m3 m4 m5 m6 r0 r1 r2 r3 r4 r5 r6 r7 r8 (.bool false) false f)) (hne : sb ≠ cb) (hk : k + fuel ≤ 99) (hseed : seed.size ≤ 1000) (hwt : wt.size ≤ 100000) (hT : SH.ShaT w)
    (hml : w.cell? ⟨1, 0, none⟩ = some (.int .i64 m)) (hgs : ¬ isG sb) (hgc : ¬ isG cb)
    (hone : ∀ v ∈ [d0, d1, r0, r1, r2, r3, r4, r5, r6, r7, r8], v.oneCell' = true) (hG : readG fuel wt.data.toList an [] = some res) :
    Calls Tryz.prog 19 #[pt cb, pt sb] w fun e w' => e = .returned (strV res.1) ∧
      (∃ k' : Nat, k' ≤ k + fuel ∧ w'.heap[sb]? = some (srvO d0 d1 seed k' last mv)) ∧ w'.heap[cb]? = some (cliO ⟨res.2.1.toArray⟩ res.2.2 m0 m1 m2 m3 m4 m5 m6 r0 r1 r2 r3 r4 r5 r6 r7 r8 (.bool false) false f) ∧ Tn (fun i => i = sb ∨ i = cb) w w' := by
  have hslt := blk_lt hs
  have hclt := blk_lt hc
  have HI : Hid (RdI w sb cb (srvO d0 d1 seed k last mv) (cliO wt an m0 m1 m2 m3 m4 m5 m6 r0 r1 r2 r3 r4 r5 r6 r7 r8 (.bool false) false f) [] (w.alloc (.cells #[.pointer none, .slice none 0 0] 90))) := Lib.hid ⟨blk_alloc hs _, blk_alloc hc _, Lib.fresh_isBuilder _ _ w, (Tn.refl _ _).alloc _⟩
  have HM : Hid (∀ W, Tn (fun i => i = sb ∨ i = cb) w W → W.cell? ⟨1, 0, none⟩ = some (.int .i64 m)) := Lib.hid (fun W h => (World.cell?_of_block (h.block _ (World.block_lt_of_cell? w _ hml) (fun hp => by rcases hp with e | e; exact hgs (.inl e.symm); exact hgc (.inl e.symm)))).trans hml)
  have HSH : Hid (∀ W, Tn (fun i => i = sb ∨ i = cb) w W → SH.ShaT W) := Lib.hid (fun W h => sha_tn hT h (fun i hi hg => by rcases hi with e | e; exact hgs (e ▸ hg); exact hgc (e ▸ hg)))
  clear hml hgs hgc hT
  go_enter Tryz.func19, Tryz.ntmps19
  go_wp2_with fail
  go_loopw [] (fun wr => ∃ (fu k2 : Nat) (wt2 : ByteArray) (an2 : Int) (out : Bs), k2 + fu ≤ k + fuel ∧ wt2.size ≤ wt.size ∧ readG fu wt2.data.toList an2 out = some res ∧ Hid (RdI w sb cb (srvO d0 d1 seed k2 last mv) (cliO wt2 an2 m0 m1 m2 m3 m4 m5 m6 r0 r1 r2 r3 r4 r5 r6 r7 r8 (.bool false) false f) out wr)) (fun wr => match wr.cell? ⟨cb, 0, none⟩ with | some (.string b) => b.size | _ => 0)
  case atStart => exact ⟨fuel, k, wt, an, [], Nat.le_refl _, Nat.le_refl _, hG, HI⟩
  case round =>
    obtain ⟨fu, k2, wt2, an2, out, hkf, hws, hg, hr⟩ := hrel
    obtain _ | fu := fu
    · exact absurd hg (by simp [readG])
    have HTK := Lib.hid (LN.take_any wt2 m wr (by omega) (HM.out wr hr.out.tn))
    unfold readG at hg
    generalize takeP wt2.data.toList = R at hg HTK
    obtain ⟨T, L, rest, st, n⟩ := R
    simp only at hg HTK
    split at hg
    · rename_i hbd
      obtain ⟨ho, hn1, ha0, ha1⟩ := hbd
      have c0 := cell_blk hr.out.cli 0
      have c19 := cell_blk hr.out.cli 19
      have HM1 : Hid (wr.cell? ⟨cb, 0, none⟩ = some (.string wt2)) := Lib.hid c0
      have HG := Lib.hid hg
      clear hg HI
      go_wp2_with fail
      refine HTK.out.mono ?_
      rintro e w2 ⟨tv, lv, rfl, htv, hlv, hb2⟩
      have HR2 := Lib.hid (hr.out.call hb2)
      have HTV := Lib.hid htv
      have HLV := Lib.hid hlv
      obtain ⟨A1, b1, rfl, _⟩ := htv.form
      obtain ⟨A2, b2, rfl, _⟩ := hlv.form
      have hz2 : w.heap.size < wr.heap.size := bld_lt hr.out.bld
      have HC3 : Hid (RdC w sb cb (srvO d0 d1 seed k2 last mv) (cliO wt2 an2 m0 m1 m2 m3 m4 m5 m6 r0 r1 r2 r3 r4 r5 r6 r7 r8 (.bool false) false f) (out ++ plusP 0) w2.heap.size (.slice A1 T.length b1) (.slice A2 L.length b2) T L (w2.alloc (.cells #[.slice A1 T.length b1, .slice A2 L.length b2] 100))) :=
        Lib.hid ⟨by rw [show out ++ plusP 0 = out by simp [plusP]]; exact HR2.out.alloc _, blk_new _ _, (HTV.out.alloc _).less (by omega), (HLV.out.alloc _).less (by omega), by have := hb2.size; omega⟩
      clear hr HTK htv hlv c0 c19 hb2 HTV HLV HR2 hz2
      go_wp2_with fail
      generalize w2.alloc (.cells #[.slice A1 T.length b1, .slice A2 L.length b2] 100) = w3 at HC3 ⊢
      generalize w2.heap.size = g at HC3 ⊢
      have HN : Hid ((n : Int) ≤ 100) := Lib.hid (by omega)
      go_loopw [] (fun wx => ∃ j : Nat, an2 + j ≤ max an2 n ∧ Hid (RdC w sb cb (srvO d0 d1 seed k2 last mv) (cliO wt2 (an2 + j) m0 m1 m2 m3 m4 m5 m6 r0 r1 r2 r3 r4 r5 r6 r7 r8 (.bool false) false f) (out ++ plusP j) g (.slice A1 T.length b1) (.slice A2 L.length b2) T L wx)) (fun wx => match wx.cell? ⟨cb, 1, none⟩ with | some (.int _ a) => ((n : Int) - a).toNat | _ => 0)
      case atStart => exact ⟨0, by omega, by rw [show an2 + (0 : Nat) = an2 by omega]; exact HC3⟩
      case round =>
        obtain ⟨j, hj, hr⟩ := hrel
        clear HC3
        have c1 := cell_blk hr.out.rd.cli 1
        by_cases hlt : an2 + j < n
        · have hj100 : j ≤ 100 := by have := HN.out; omega
          have HW := Lib.hid (writeStringT_any w.heap.size w.heap.size (out ++ plusP j) ⟨#[43, 32, 13, 10]⟩ wr hr.out.rd.bld (by rw [List.length_append, plusP_len]; show _ + 4 ≤ _; omega) hr.out.rd.tn.size)
          have HJ := Lib.hid hj
          have HM0 : Hid (wr.cell? ⟨cb, 1, none⟩ = some (.int .i64 (an2 + j))) := Lib.hid c1
          clear hj
          go_wp2_with fail
          refine HW.out.mono ?_
          rintro e wy ⟨rfl, hbd, hb, hy⟩
          have HR5 := Lib.hid (hr.out.write hslt hclt hbd hb hy)
          clear hr HW hbd hb hy c1
          have c1 := cell_blk HR5.out.rd.cli 1
          have y1 := free_blk HR5.out.rd.cli 1
          have HC := Lib.hid (HR5.out.setC hclt hne (blk_set HR5.out.rd.cli 1 (.int .i64 (an2 + j + 1))))
          have hm1 := cell_blk HC.out.rd.cli 1
          go_wp2
          refine ⟨⟨j + 1, by omega, ?_⟩, ?_⟩
          · rw [show an2 + ((j + 1 : Nat) : Int) = an2 + j + 1 by omega, show out ++ plusP (j + 1) = out ++ plusP j ++ (⟨#[43, 32, 13, 10]⟩ : ByteArray).data.toList by simp [plusP]]
            exact HC
          · have hm2 : (wy.setCell ⟨cb, 1, none⟩ (.int .i64 (an2 + j + 1))).cell? ⟨cb, 1, none⟩ = some (.int .i64 (an2 + j + 1)) := hm1
            rw [HM0.out, hm2]
            simp only []
            omega
        · have hje : ((n : Int) - an2).toNat = j := by omega
          have hjm : max an2 (n : Int) = an2 + j := by omega
          have hj100 : j ≤ 100 := by omega
          rw [hje, hjm] at HG
          obtain ⟨o2, ho2⟩ : ∃ o2, out ++ plusP j = o2 := ⟨_, rfl⟩
          have ho3 : o2.length ≤ 101000 := by rw [← ho2, List.length_append, plusP_len]; omega
          rw [ho2] at HG hr
          obtain ⟨a3, ha3⟩ : ∃ a3, an2 + (j : Int) = a3 := ⟨_, rfl⟩
          rw [ha3] at HG hr hlt c1
          clear hje hjm ho2 hj hj100
          by_cases hst : st = 0
          · subst hst
            have hg2 := HG.out
            rw [if_pos rfl] at hg2
            injection hg2 with hg2
            subst hg2
            have HF := Lib.hid (Tryz.Builder_String_any w.heap.size w.heap.size o2 wr hr.out.rd.bld hr.out.rd.tn.size)
            clear HG hG
            go_wp2_with fail
            refine HF.out.mono ?_
            rintro e w4 ⟨rfl, hb4⟩
            have HS4 := Lib.hid (blk_below hr.out.rd.srv hb4 hslt)
            have HC4 := Lib.hid (blk_below hr.out.rd.cli hb4 hclt)
            have HT4 := Lib.hid (hr.out.rd.tn.low hb4 (Nat.le_refl _))
            clear hr HF hb4 c1
            go_wp2
            go_ret
            exact ⟨rfl, ⟨k2, by omega, HS4.out⟩, HC4.out, HT4.out⟩
          · have hg2 := HG.out
            rw [if_neg hst] at hg2
            split at hg2
            · rename_i hb
              obtain ⟨rfl, hrl, hTl, hLl, hTa⟩ := hb
              split at hg2
              · rename_i tag nm htok
                split at hg2
                · rename_i hb2
                  obtain ⟨hnm, htag, htl, hnl⟩ := hb2
                  have hk99 : k2 < 100 := by omega
                  have hx := dig_len k2 hk99
                  have HDR : Hid (∀ W, W.heap[sb]? = some (srvO d0 d1 seed k2 last mv) → SH.ShaT W → Calls Tryz.prog 24 #[pt sb] W fun e w' => e = .returned (drwV (drawB seed ⟨(Lib.decDigits k2).toArray⟩)) ∧ w'.heap[sb]? = some (srvO d0 d1 seed (k2 + 1) last mv) ∧ Tn (fun i => i = sb) W w') :=
                    Lib.hid (fun W h1 h2 => sdraw_any sb d0 d1 mv seed ⟨(Lib.decDigits k2).toArray⟩ k2 last W h1 (by omega) hseed h2 (fun W => Tryz.strconv_Itoa_small k2 hk99 W) (by simpa [ByteArray.size] using hx))
                  have HDO : Hid (∀ W n0 n1 n2 n3 n4 n5, RdS W W.heap.size (.slice A1 T.length b1) T → RdS W W.heap.size (.slice A2 L.length b2) L → Calls Tryz.prog 38 #[.agg #[d0, d1], .agg #[r0, r1, r2, r3, r4, r5, r6, r7, r8, .bool false], .agg #[.slice A1 T.length b1, .slice A2 L.length b2], .agg #[n0, n1, n2, n3, n4, n5]] W fun e w' =>
                      e = .returned (.tuple #[.agg #[d0, d1], .agg #[r0, r1, r2, r3, r4, r5, r6, r7, r8, .bool false], strV (([] : Bs) ++ tag ++ [32, 79, 75, 13, 10])]) ∧ Below W.heap.size W w') :=
                    Lib.hid (fun W n0 n1 n2 n3 n4 n5 h1 h2 => IM.do_noop d0 d1 r0 r1 r2 r3 r4 r5 r6 r7 r8 (.bool false) n0 n1 n2 n3 n4 n5 _ _ T L tag nm W h1 h2 (fun x hx => by have := List.all_eq_true.1 hTa x hx; simp at this; omega) (by omega) (by omega) (fun v hv => by
                      simp only [List.mem_cons, List.not_mem_nil, or_false] at hv
                      rcases hv with e | e | e | e | e | e | e | e | e | e | e | e <;> first | (rw [e]; rfl) | (exact hone v (by rw [e]; simp))) htok htag hnm (by omega) (by omega))
                  generalize drawB seed ⟨(Lib.decDigits k2).toArray⟩ = bb at HDR
                  have hrl2 : rest.length < wt2.size := by have : wt2.data.toList.length = wt2.size := Array.length_toList; omega
                  generalize hdn : ([] : Bs) ++ tag ++ [32, 79, 75, 13, 10] = dn at HDO hg2
                  have hdnl : dn.length ≤ 1005 := by rw [← hdn]; simp; omega
                  have HG2 := Lib.hid hg2
                  have HONE := Lib.hid hone
                  have hst1 : ¬ ((1 : Int) = 0) := by decide
                  clear hg2 hst HG hTa htok hnm htag hx hdn hG hone ha3 hs hc
                  have c0 := cell_blk hr.out.rd.cli 0
                  have y0 := free_blk hr.out.rd.cli 0
                  have y1 := free_blk hr.out.rd.cli 1
                  have HM0 : Hid (wr.cell? ⟨cb, 0, none⟩ = some (.string wt2)) := Lib.hid c0
                  have HC6 := Lib.hid ((hr.out.setC hclt hne (blk_set hr.out.rd.cli 0 (strV rest))).setC hclt hne (blk_set (blk_set hr.out.rd.cli 0 (strV rest)) 1 (.int .i64 0)))
                  simp only [List.setIfInBounds_toArray, List.set_cons_zero, List.set_cons_succ] at HC6
                  go_upto_region 11 with fail
                  refine (fun (h : ∀ W3, Hid (RdC w sb cb (srvO d0 d1 seed k2 last mv) (cliO ⟨rest.toArray⟩ 0 m0 m1 m2 m3 m4 m5 m6 r0 r1 r2 r3 r4 r5 r6 r7 r8 (.bool false) false f) o2 g (.slice A1 T.length b1) (.slice A2 L.length b2) T L W3) → Code.wp _ _ _ _ W3) => h _ HC6) ?_
                  clear HC6 c0 c1 y0 y1 hr
                  intro w5 HC6
                  have T0 := fun (W : World) (a : Addr) => run_store Tryz.prog W a d0 .plain (HONE.out d0 (by simp))
                  have T1 := fun (W : World) (a : Addr) => run_store Tryz.prog W a d1 .plain (HONE.out d1 (by simp))
                  have T2 := fun (W : World) (a : Addr) => run_store Tryz.prog W a r0 .plain (HONE.out r0 (by simp))
                  have T3 := fun (W : World) (a : Addr) => run_store Tryz.prog W a r1 .plain (HONE.out r1 (by simp))
                  have T4 := fun (W : World) (a : Addr) => run_store Tryz.prog W a r2 .plain (HONE.out r2 (by simp))
                  have T5 := fun (W : World) (a : Addr) => run_store Tryz.prog W a r3 .plain (HONE.out r3 (by simp))
                  have T6 := fun (W : World) (a : Addr) => run_store Tryz.prog W a r4 .plain (HONE.out r4 (by simp))
                  have T7 := fun (W : World) (a : Addr) => run_store Tryz.prog W a r5 .plain (HONE.out r5 (by simp))
                  have T8 := fun (W : World) (a : Addr) => run_store Tryz.prog W a r6 .plain (HONE.out r6 (by simp))
                  have T9 := fun (W : World) (a : Addr) => run_store Tryz.prog W a r7 .plain (HONE.out r7 (by simp))
                  have T10 := fun (W : World) (a : Addr) => run_store Tryz.prog W a r8 .plain (HONE.out r8 (by simp))
                  refine RG.wp_region_detA [10, 18, 19] [16, 17] (fun Z α W => Hid (DoI w sb cb (srvO d0 d1 seed (if Z 10 = true then (k2 : Int) + 1 else k2) last mv) (cliO ⟨rest.toArray⟩ 0 m0 m1 m2 m3 m4 m5 m6 r0 r1 r2 r3 r4 r5 r6 r7 r8 (.bool false) false f) o2 g (.slice A1 T.length b1) (.slice A2 L.length b2) T L (Z 16) (Z 17) (if Z 18 = true then #[d0, d1] else #[.slice none 0 0, .slice none 0 0]) (if Z 19 = true then #[r0, r1, r2, r3, r4, r5, r6, r7, r8, .bool false] else #[es, es, es, .int .i64 0, .slice none 0 0, .slice none 0 0, .int .i64 0, es, .bool false, .bool false]) (α 16) (α 17) W)) (fun Z Z' α α' W hl ha h => Lib.hid ⟨by rw [← hl 10 (by simp)]; exact h.out.c, fun h1 => by rw [← hl 18 (by simp), ← ha 16 (by simp) ((hl 16 (by simp)).trans h1)]; exact h.out.d ((hl 16 (by simp)).trans h1), fun h1 => by rw [← hl 19 (by simp), ← ha 17 (by simp) ((hl 17 (by simp)).trans h1)]; exact h.out.e ((hl 17 (by simp)).trans h1)⟩) (by kernel_rfl) (by kernel_rfl) (by kernel_rfl) (Lib.hid ⟨HC6.out.drew, (fun h => by cases h), (fun h => by cases h)⟩) ?_
                  clear HC6
                  iterate 3
                    apply RG.wpA_still
                    · rfl
                    · rfl
                    · intro α L w9 h0 hcl hcl2 hw9
                      repeat go_step
                      with_reducible refine RG.only_mk ?_
                      exact hw9
                    · intro α; rfl
                  apply RG.wpA_still
                  · rfl
                  · rfl
                  · intro α L w9 h0 hcl hcl2 hw9
                    have q0 := cell_blk hw9.out.c.rd.srv 0
                    have q1 := cell_blk hw9.out.c.rd.srv 1
                    repeat go_step
                    with_reducible refine RG.only_mk ?_
                    exact hw9
                  · intro α; rfl
                  iterate 3
                    apply RG.wpA_still
                    · rfl
                    · rfl
                    · intro α L w9 h0 hcl hcl2 hw9
                      repeat go_step
                      with_reducible refine RG.only_mk ?_
                      exact hw9
                    · intro α; rfl
                  apply RG.wpA_still
                  · rfl
                  · rfl
                  · intro α L w9 h0 hcl hcl2 hw9
                    have q0 := cell_blk hw9.out.c.rd.cli 9
                    have q1 := cell_blk hw9.out.c.rd.cli 10
                    have q2 := cell_blk hw9.out.c.rd.cli 11
                    have q3 := cell_blk hw9.out.c.rd.cli 12
                    have q4 := cell_blk hw9.out.c.rd.cli 13
                    have q5 := cell_blk hw9.out.c.rd.cli 14
                    have q6 := cell_blk hw9.out.c.rd.cli 15
                    have q7 := cell_blk hw9.out.c.rd.cli 16
                    have q8 := cell_blk hw9.out.c.rd.cli 17
                    have q9 := cell_blk hw9.out.c.rd.cli 18
                    repeat go_step
                    with_reducible refine RG.only_mk ?_
                    exact hw9
                  · intro α; rfl
                  apply RG.wpA_still
                  · rfl
                  · rfl
                  · intro α L w9 h0 hcl hcl2 hw9
                    have q0 := cell_blk hw9.out.c.cmd 0
                    have q1 := cell_blk hw9.out.c.cmd 1
                    repeat go_step
                    with_reducible refine RG.only_mk ?_
                    exact hw9
                  · intro α; rfl
                  apply RG.wpA_still
                  · rfl
                  · rfl
                  · intro α L w9 h0 hcl hcl2 hw9
                    repeat go_step
                    with_reducible refine RG.only_mk ?_
                    exact hw9
                  · intro α; rfl
                  apply RG.wpA_turn
                  · rfl
                  · rfl
                  · intro α Z w9 h0 hcl hcl2 hw9
                    have hsv := hw9.out.c.rd.srv
                    rw [if_neg (by simp [h0])] at hsv
                    have HSV := Lib.hid hsv
                    clear hsv
                    repeat go_step
                    refine (HDR.out w9 HSV.out (HSH.out w9 hw9.out.c.rd.tn)).mono ?_
                    rintro e w10 ⟨rfl, hs10, ht10⟩
                    simp only []
                    repeat go_step
                    with_reducible refine RG.only_mk ?_
                    have h9 := hw9.out.srvT hslt hne hs10 ht10
                    refine Lib.hid ⟨?_, h9.d, h9.e⟩
                    rw [if_pos (by simp)]
                    exact h9.c
                  · intro α; rfl
                  apply RG.wpA_still
                  · rfl
                  · rfl
                  · intro α Z w9 h0 hcl hcl2 hw9
                    repeat go_step
                    refine (HDO.out w9 _ _ _ _ _ _ hw9.out.c.ts.rd hw9.out.c.ls.rd).mono ?_
                    rintro e w10 ⟨rfl, hb10⟩
                    simp only []
                    repeat go_step
                    with_reducible refine RG.only_mk ?_
                    exact Lib.hid (hw9.out.call hb10)
                  · intro α; rfl
                  iterate 4
                    apply RG.wpA_still
                    · rfl
                    · rfl
                    · intro α L w9 h0 hcl hcl2 hw9
                      repeat go_step
                      with_reducible refine RG.only_mk ?_
                      exact hw9
                    · intro α; rfl
                  apply RG.wpA_new
                  · rfl
                  · intro α Z w9 b hb h0 hcl hw9
                    have e18 := hcl.not 1 (i := 18) h0 (by kernel_rfl)
                    repeat go_step
                    rw [← hb]
                    with_reducible refine RG.only_mk ?_
                    have h9 := hw9.out.call ((Below.refl _ w9).alloc (Nat.le_refl _) (IM.dskO (.slice none 0 0) (.slice none 0 0)))
                    refine Lib.hid ⟨h9.c, fun _ => ?_, h9.e⟩
                    rw [RG.put1_same, if_neg (by simp [e18]), hb]
                    exact ⟨blk_new _ _, bld_lt hw9.out.c.rd.bld⟩
                  · intro b α; rfl
                  apply RG.wpA_new
                  · rfl
                  · intro α Z w9 b hb h0 hcl hw9
                    have e19 := hcl.not 1 (i := 19) h0 (by kernel_rfl)
                    repeat go_step
                    rw [← hb]
                    with_reducible refine RG.only_mk ?_
                    have h9 := hw9.out.call ((Below.refl _ w9).alloc (Nat.le_refl _) IM.staZ)
                    refine Lib.hid ⟨h9.c, h9.d, fun _ => ?_⟩
                    rw [RG.put1_same, if_neg (by simp [e19]), hb]
                    exact ⟨blk_new _ _, bld_lt hw9.out.c.rd.bld⟩
                  · intro b α; rfl
                  apply RG.wpA_turn (v := undef)
                  · rfl
                  · rfl
                  · intro α Z w9 h0 hcl hcl2 hw9
                    have e16 : Z 16 = true := by simpa using hcl2.yes 1 (i := 18) (by simp) (j := 16) (by kernel_rfl)
                    have hq := hw9.out
                    rw [e16, if_neg (c := Z 18 = true) (by simp [h0])] at hq
                    obtain ⟨hb, hlo⟩ := hq.d rfl
                    have c0 := cell_blk hb 0
                    have c1 := cell_blk hb 1
                    have y0 := free_blk hb 0
                    have y1 := free_blk hb 1
                    have HQ := Lib.hid (hq.stD hslt hclt [d0, d1] rfl)
                    simp only [setAll, Nat.reduceAdd] at HQ
                    clear hb hq
                    repeat go_step
                    with_reducible refine RG.only_mk ?_
                    refine Lib.hid ⟨HQ.out.c, fun _ => ?_, HQ.out.e⟩
                    rw [if_pos (by simp)]
                    exact HQ.out.d rfl
                  · intro α; rfl
                  apply RG.wpA_turn (v := undef)
                  · rfl
                  · rfl
                  · intro α Z w9 h0 hcl hcl2 hw9
                    have e17 : Z 17 = true := by simpa using hcl2.yes 1 (i := 19) (by simp) (j := 17) (by kernel_rfl)
                    have hq := hw9.out
                    rw [e17, if_neg (c := Z 19 = true) (by simp [h0])] at hq
                    obtain ⟨hb, hlo⟩ := hq.e rfl
                    have c0 := cell_blk hb 0
                    have c1 := cell_blk hb 1
                    have c2 := cell_blk hb 2
                    have c3 := cell_blk hb 3
                    have c4 := cell_blk hb 4
                    have c5 := cell_blk hb 5
                    have c6 := cell_blk hb 6
                    have c7 := cell_blk hb 7
                    have c8 := cell_blk hb 8
                    have c9 := cell_blk hb 9
                    have y0 := free_blk hb 0
                    have y1 := free_blk hb 1
                    have y2 := free_blk hb 2
                    have y3 := free_blk hb 3
                    have y4 := free_blk hb 4
                    have y5 := free_blk hb 5
                    have y6 := free_blk hb 6
                    have y7 := free_blk hb 7
                    have y8 := free_blk hb 8
                    have y9 := free_blk hb 9
                    have HQ := Lib.hid (hq.stE hslt hclt [r0, r1, r2, r3, r4, r5, r6, r7, r8, .bool false] rfl)
                    simp only [setAll, Nat.reduceAdd] at HQ
                    clear hb hq
                    repeat go_step
                    with_reducible refine RG.only_mk ?_
                    refine Lib.hid ⟨HQ.out.c, HQ.out.d, fun _ => ?_⟩
                    rw [if_pos (by simp)]
                    exact HQ.out.e rfl
                  · intro α; rfl
                  apply RG.wpA_still
                  · rfl
                  · rfl
                  · intro α L w9 h0 hcl hcl2 hw9
                    repeat go_step
                    with_reducible refine RG.only_mk ?_
                    exact hw9
                  · intro α; rfl
                  refine RG.wpA_nil (fun α w6 hw6 => ?_)
                  try simp only [Nat.zero_add, Nat.reduceAdd]
                  generalize α 16 = g1 at hw6 ⊢
                  generalize α 17 = g2 at hw6 ⊢
                  have HD6 : Hid (DoI w sb cb (srvO d0 d1 seed ((k2 : Int) + 1) last mv) (cliO ⟨rest.toArray⟩ 0 m0 m1 m2 m3 m4 m5 m6 r0 r1 r2 r3 r4 r5 r6 r7 r8 (.bool false) false f) o2 g (.slice A1 T.length b1) (.slice A2 L.length b2) T L true true #[d0, d1] #[r0, r1, r2, r3, r4, r5, r6, r7, r8, .bool false] g1 g2 w6) := hw6
                  clear hw6 HDR HDO w5
                  go_upto_region 12 with fail
                  refine RG.wp_region_det (fun W => Hid (DoI w sb cb (srvO d0 d1 seed ((k2 : Int) + 1) last mv) (cliO ⟨rest.toArray⟩ 0 m0 m1 m2 m3 m4 m5 m6 r0 r1 r2 r3 r4 r5 r6 r7 r8 (.bool false) false f) o2 g (.slice A1 T.length b1) (.slice A2 L.length b2) T L true true #[d0, d1] #[r0, r1, r2, r3, r4, r5, r6, r7, r8, .bool false] g1 g2 W)) (by kernel_rfl) (by kernel_rfl) (Lib.hid HD6.out.drew) ?_
                  clear HD6
                  iterate 2
                    apply RG.wpDet_cons
                    · intro w9 hw9
                      repeat go_step
                      with_reducible refine RG.only_mk ?_
                      exact hw9
                    · rfl
                  apply RG.wpDet_cons
                  · intro w9 hw9
                    have q0 := cell_blk (hw9.out.d rfl).1 0
                    have q1 := cell_blk (hw9.out.d rfl).1 1
                    repeat go_step
                    with_reducible refine RG.only_mk ?_
                    exact hw9
                  · rfl
                  apply RG.wpDet_cons
                  · intro w9 hw9
                    have q0 := cell_blk (hw9.out.e rfl).1 0
                    have q1 := cell_blk (hw9.out.e rfl).1 1
                    have q2 := cell_blk (hw9.out.e rfl).1 2
                    have q3 := cell_blk (hw9.out.e rfl).1 3
                    have q4 := cell_blk (hw9.out.e rfl).1 4
                    have q5 := cell_blk (hw9.out.e rfl).1 5
                    have q6 := cell_blk (hw9.out.e rfl).1 6
                    have q7 := cell_blk (hw9.out.e rfl).1 7
                    have q8 := cell_blk (hw9.out.e rfl).1 8
                    have q9 := cell_blk (hw9.out.e rfl).1 9
                    repeat go_step
                    with_reducible refine RG.only_mk ?_
                    exact hw9
                  · rfl
                  iterate 2
                    apply RG.wpDet_cons
                    · intro w9 hw9
                      repeat go_step
                      with_reducible refine RG.only_mk ?_
                      exact hw9
                    · rfl
                  apply RG.wpDet_cons
                  · intro w9 hw9
                    have hb := hw9.out.c.rd.srv
                    have c0 := cell_blk hb 0
                    have c1 := cell_blk hb 1
                    have y0 := free_blk hb 0
                    have y1 := free_blk hb 1
                    have HQ := Lib.hid (hw9.out.srvT hslt hne (setAll_arr [d0, d1] 0 _ _ hb (by simp)) (setAll_tn (P := fun i => i = sb) (.inl rfl) [d0, d1] 0 _ (Tn.refl _ _)))
                    simp only [setAll, Nat.reduceAdd] at HQ
                    clear hb
                    repeat go_step
                    with_reducible refine RG.only_mk ?_
                    exact HQ
                  · rfl
                  iterate 2
                    apply RG.wpDet_cons
                    · intro w9 hw9
                      repeat go_step
                      with_reducible refine RG.only_mk ?_
                      exact hw9
                    · rfl
                  apply RG.wpDet_cons
                  · intro w9 hw9
                    have hb := hw9.out.c.rd.cli
                    have c0 := cell_blk hb 9
                    have c1 := cell_blk hb 10
                    have c2 := cell_blk hb 11
                    have c3 := cell_blk hb 12
                    have c4 := cell_blk hb 13
                    have c5 := cell_blk hb 14
                    have c6 := cell_blk hb 15
                    have c7 := cell_blk hb 16
                    have c8 := cell_blk hb 17
                    have c9 := cell_blk hb 18
                    have y0 := free_blk hb 9
                    have y1 := free_blk hb 10
                    have y2 := free_blk hb 11
                    have y3 := free_blk hb 12
                    have y4 := free_blk hb 13
                    have y5 := free_blk hb 14
                    have y6 := free_blk hb 15
                    have y7 := free_blk hb 16
                    have y8 := free_blk hb 17
                    have y9 := free_blk hb 18
                    have HQ := Lib.hid (hw9.out.cliT hclt hne (setAll_arr [r0, r1, r2, r3, r4, r5, r6, r7, r8, .bool false] 9 _ _ hb (by simp)) (setAll_tn (P := fun i => i = cb) (.inl rfl) [r0, r1, r2, r3, r4, r5, r6, r7, r8, .bool false] 9 _ (Tn.refl _ _)))
                    simp only [setAll, Nat.reduceAdd] at HQ
                    clear hb
                    repeat go_step
                    with_reducible refine RG.only_mk ?_
                    exact HQ
                  · rfl
                  refine RG.wpDet_nil (fun w7 hw7 => ?_)
                  clear T0 T1 T2 T3 T4 T5 T6 T7 T8 T9 T10
                  have HW := Lib.hid (writeStringT_any w.heap.size w.heap.size o2 ⟨dn.toArray⟩ w7 hw7.out.c.rd.bld (by show _ + dn.length ≤ _; omega) hw7.out.c.rd.tn.size)
                  go_wp2_with fail
                  refine HW.out.mono ?_
                  rintro e w8 ⟨rfl, hbd, hb, hy⟩
                  have HC8 := Lib.hid (hw7.out.c.write hslt hclt hbd hb hy)
                  obtain ⟨hg2b, hg2l⟩ := hw7.out.e rfl
                  have G8 := hy g2 _ hg2b (by omega) (fun cs fr e => by injection e with _ e; exact absurd e (by decide))
                  clear hw7 HW hbd hb hy hg2b
                  have c9 := cell_blk G8 9
                  have c19 := cell_blk HC8.out.rd.cli 19
                  have y19 := free_blk HC8.out.rd.cli 19
                  have HE := Lib.hid (HC8.out.setC hclt hne (blk_set HC8.out.rd.cli 19 (.bool false)))
                  clear G8 HC8
                  have hm0 : (w8.setCell ⟨cb, 19, none⟩ (.bool false)).cell? ⟨cb, 0, none⟩ = some (.string ⟨rest.toArray⟩) := cell_blk HE.out.rd.cli 0
                  go_wp2
                  refine ⟨⟨fu, k2 + 1, ⟨rest.toArray⟩, 0, o2 ++ dn, by omega, ?_, HG2.out, ?_⟩, ?_⟩
                  · show rest.length ≤ _
                    omega
                  · rw [show ((k2 + 1 : Nat) : Int) = (k2 : Int) + 1 by omega]
                    exact Lib.hid HE.out.rd
                  · rw [HM1.out, hm0]
                    exact hrl2
                · cases hg2
              · cases hg2
            · cases hg2
    · cases hg
end Go.Proofs.YtomnljigoljldaaGreatDoor.SV

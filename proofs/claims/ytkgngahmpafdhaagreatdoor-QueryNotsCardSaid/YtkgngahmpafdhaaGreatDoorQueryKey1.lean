/- The makers of layer 20 that read no further key. Conditions: lengths, and that the library's MaxLen holds some int. -/
import Derived.Test.YtkgngahmpafdhaaGreatDoorQueryMakersWalk
namespace Go.Proofs.YtkgngahmpafdhaaGreatDoor.QU
open Go.RowKit Mailsack MM PT

def FnV (v : Value) : Prop := v = .nilFunc ∨ ∃ id caps, v = .func (.func id) #[] caps
/-- how a key is read off the reader rb -/
def KPost (q : Rg) (rb mb : Nat) (W : World) (o : Option (QKey × List Bs)) (e : Ending) (W' : World) : Prop := Kp (nq rb) W W' ∧ match o with
  | none => ∃ v, FnV v ∧ e = .returned (.tuple #[v, .bool false])
  | some (k, r) => ∃ v, e = .returned (.tuple #[v, .bool true]) ∧ KeyIs q W' v (semQ k) ∧ RdrAt rb mb W' r
/-- what stands around a reader -/
structure Env (q : Rg) (rb mb hi : Nat) (m : Int) (tab : List (Bs × Value)) (W : World) : Prop where
  tab : TabAt mb hi W kinds tab
  lo : mb < hi
  hi : hi ≤ q.lo
  inr : q.lo ≤ rb ∧ rb < q.hi
  lt : q.hi ≤ W.heap.size ∧ q.one < W.heap.size
  low : 0 < q.one ∧ q.one < mb
  max : W.cell? ⟨0, 0, none⟩ = some (.int .i64 m)
theorem kp_cell {b : Rg} {w w' : World} (h : Kp b w w') {p : Addr} (hp : p.block < w.heap.size) (hne : ¬ b.has p.block) : w'.cell? p = w.cell? p := World.cell?_of_block (h.block p.block hp hne)
theorem MapIs.kx {q : Rg} {w w' : World} {b : Nat} {tab : List (Bs × Value)} (h : MapIs w b tab) (hk : Kp q w w') (hne : ¬ q.has b) : MapIs w' b tab := by
  obtain ⟨es, c, h1, h2⟩ := h
  exact ⟨es, c, (hk.block b (blk_lt h1) hne).trans h1, h2⟩
theorem Env.kept {q : Rg} {rb mb hi : Nat} {m : Int} {tab : List (Bs × Value)} {W W' : World} (h : Env q rb mb hi m tab W) (hk : Kp q W W') : Env q rb mb hi m tab W' :=
  ⟨⟨h.tab.map.kx hk (fun e => by have := h.lo; have := h.hi; have := h.low; unfold Rg.has at e; omega), h.tab.keys, fun j p k h1 h2 => (h.tab.each j p k h1 h2).kept (fun b h3 h4 => hk.block b (by have := h.hi; have := h.lt; have := h.low; have := h.inr; omega) (fun e => by have := h.hi; have := h.low; unfold Rg.has at e; omega))⟩, h.lo, h.hi, h.inr, ⟨Nat.le_trans h.lt.1 hk.size, Nat.lt_of_lt_of_le h.lt.2 hk.size⟩, h.low,
    (kp_cell hk (World.block_lt_of_cell? W _ h.max) (fun e => by have := h.lo; have := h.hi; have := h.low; unfold Rg.has at e; simp only at e; omega)).trans h.max⟩
theorem RdrAt.kept {rb mb : Nat} {W W' : World} {ws : List Bs} (h : RdrAt rb mb W ws) (hb : Below W.heap.size W W') : RdrAt rb mb W' ws := by
  obtain ⟨sv, h1, h2⟩ := h
  exact ⟨sv, blk_below h1 hb (blk_lt h1), h2.below hb (Nat.le_of_lt (blk_lt h1))⟩
theorem own_kept {b : Rg} {w w' : World} {B : Nat} {v : Value} {L : List (Int × Int)} (h : SP.OwnR w B v L) (hk : Kp b w w') (hb : b.hi ≤ B ∧ b.one < B) : SP.OwnR w' B v L := by
  refine ⟨h.1, ?_⟩
  rcases h.2 with hn | ⟨g, cap, cur, h1, h2, h3, h4⟩
  · exact .inl hn
  · exact .inr ⟨g, cap, cur, h1, h2, (hk.block g (blk_lt h3) (fun e => by unfold Rg.has at e; omega)).trans h3, h4⟩
theorem parse_len {s : Bs} {L : List (Int × Int)} (h : parseS s = some L) : L.length ≤ s.length + 1 := by
  unfold parseS at h
  split at h
  · injection h with h
    rw [← h, List.length_map]
    exact splitC_len 44 s
  · cases h

set_option maxHeartbeats 1000000 in
set_option maxRecDepth 100000 in
theorem set_any (u : Bool) (x : Bs) (hx : x.length ≤ 1000) (m : Int) (W : World) (hm : W.cell? ⟨0, 0, none⟩ = some (.int .i64 m)) :
    Calls Tryz.prog 33 #[strV x, .func (.func (setF u)) #[] #[]] W fun e W' => Below W.heap.size W W' ∧ match parseS x with
      | none => e = .returned (.tuple #[.nilFunc, .bool false])
      | some R => ∃ v, e = .returned (.tuple #[v, .bool true]) ∧ ∀ q : Rg, (q.hi ≤ W.heap.size ∧ q.one < W.heap.size) → KeyIs q W' v (semQ (.set u R)) := by
  have HB1 := Lib.hid ((Below.refl W.heap.size W).alloc (Nat.le_refl _) (.cells #[.func (.func (setF u)) #[] #[]] 69))
  have P1 := Lib.hid (blk_new W (.cells #[.func (.func (setF u)) #[] #[]] 69))
  have HP := Lib.hid (SP.parse_any ⟨x.toArray⟩ m _ (by show x.length ≤ _; omega) (max_at hm HB1.out))
  rw [show (⟨x.toArray⟩ : ByteArray).data.toList = x from rfl] at HP
  clear hm
  cases hp : parseS x with
  | none =>
    rw [hp] at HP
    clear hp
    go_enter Tryz.func33, Tryz.ntmps33
    go_wp2_with fail
    refine HP.out.mono ?_
    rintro e w2 ⟨rfl, hb2⟩
    have HB2 := Lib.hid (HB1.out.trans (hb2.mono HB1.out.size))
    have HB3 := Lib.hid (HB2.out.alloc HB2.out.size (.cells #[.slice none 0 0] 82))
    clear hb2 HP
    go_wp2
    go_ret2
    exact ⟨HB3.out, rfl⟩
  | some R =>
    have hRl := parse_len hp
    rw [hp] at HP
    clear hp
    go_enter Tryz.func33, Tryz.ntmps33
    go_wp2_with fail
    refine HP.out.mono ?_
    rintro e w2 ⟨sv, rfl, hown, hb2⟩
    obtain ⟨A, c, e9⟩ : ∃ A c, sv = .slice A R.length c := by
      rcases hown.2 with ⟨h1, h2⟩ | ⟨g, cap, cur, h1, _⟩
      · exact ⟨none, 0, by rw [h1, h2]⟩
      · exact ⟨_, _, h1⟩
    subst e9
    have HB2 := Lib.hid (HB1.out.trans (hb2.mono HB1.out.size))
    have HB3 := Lib.hid (HB2.out.alloc HB2.out.size (.cells #[.slice A R.length c] 82))
    have P3 := Lib.hid (blk_alloc (blk_below P1.out hb2 (by simp)) (.cells #[.slice A R.length c] 82))
    have Q3 := Lib.hid (blk_new w2 (.cells #[.slice A R.length c] 82))
    have O3 := Lib.hid (World.ownsRow.alloc hown (.cells #[.slice A R.length c] 82))
    have hz1 : W.heap.size < w2.heap.size := Nat.lt_of_lt_of_le (by simp) hb2.size
    clear hb2 hown HP
    go_wp2
    go_ret2
    refine ⟨HB3.out, _, rfl, fun q hrb => ⟨_, _, rfl, enters_of Tryz.func53 (by kernel_rfl) rfl, fun X hX v _ => ?_⟩⟩
    have h1 := bx_kept P3.out hX (fun h => by unfold Rg.has at h; omega)
    have h2 := bx_kept Q3.out hX (fun h => by unfold Rg.has at h; omega)
    have h3 : SP.OwnR X (W.alloc (.cells #[.func (.func (setF u)) #[] #[]] 69)).heap.size (.slice A R.length c) R := own_kept O3.out hX (by simp; omega)
    exact set1_any u _ _ _ R v X h1 h2 h3.rd (by omega)

set_option maxHeartbeats 1000000 in
set_option maxRecDepth 100000 in
theorem contains_any (nm x : Bs) (hn : nm.length ≤ 1000000) (hx : x.length ≤ 1000000) (m : Int) (W : World) (hm : W.cell? ⟨0, 0, none⟩ = some (.int .i64 m)) :
    Calls Tryz.prog 44 #[strV nm, strV x] W fun e W' => Below W.heap.size W W' ∧ ∃ v, e = .returned v ∧ FnV v ∧ ∀ q : Rg, (q.hi ≤ W.heap.size ∧ q.one < W.heap.size) → (0 < q.lo ∧ 0 < q.one) → KeyIs q W' v (semQ (.field nm x)) := by
  have HB := Lib.hid (two_bel W (.cells #[strV nm] 9) (.cells #[strV x] 9))
  have Hx := Lib.hid (two_old W (.cells #[strV nm] 9) (.cells #[strV x] 9))
  have Hy := Lib.hid (two_new W (.cells #[strV nm] 9) (.cells #[strV x] 9))
  have Hm := Lib.hid hm
  clear hm
  go_enter Tryz.func44, Tryz.ntmps44
  go_wp2
  go_ret
  refine ⟨HB.out, _, rfl, .inr ⟨_, _, rfl⟩, fun q hrb h0 => ⟨_, _, rfl, enters_of Tryz.func57 (by kernel_rfl) rfl, fun X hX v hg => ?_⟩⟩
  have hm0 := max_at Hm.out HB.out
  exact contains1_any _ _ nm x m v X hg hn hx ((kp_cell hX (World.block_lt_of_cell? _ _ hm0) (fun e => by unfold Rg.has at e; simp only at e; omega)).trans hm0) (bx_kept Hx.out hX (fun h => by unfold Rg.has at h; omega)) (bx_kept Hy.out hX (fun h => by unfold Rg.has at h; omega))
end Go.Proofs.YtkgngahmpafdhaaGreatDoor.QU

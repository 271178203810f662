/- The makers of layer 20 that read no further key, walked. Conditions: lengths, and that the library's MaxLen holds some int. -/
import Derived.Test.YtkgngahmpafdhaaGreatDoorQueryKey1
namespace Go.Proofs.YtkgngahmpafdhaaGreatDoor.QU
open Go.RowKit Mailsack MM PT

/-- words that are short -/
abbrev Short (ws : List Bs) : Prop := ws.length ≤ 1000 ∧ ∀ x ∈ ws, x.length ≤ 1000
theorem Short.tail {x : Bs} {r : List Bs} (h : Short (x :: r)) : Short r := ⟨by have := h.1; simp at this; omega, fun y hy => h.2 y (List.mem_cons_of_mem _ hy)⟩
theorem Short.head {x : Bs} {r : List Bs} (h : Short (x :: r)) : x.length ≤ 1000 := h.2 x (by simp)
theorem Env.pos {q : Rg} {rb mb hi : Nat} {m : Int} {tab : List (Bs × Value)} {W : World} (h : Env q rb mb hi m tab W) : 0 < q.lo ∧ 0 < q.one := by have := h.lo; have := h.hi; have := h.low; omega

set_option maxHeartbeats 1000000 in
set_option maxRecDepth 100000 in
theorem flags1_any (q : Rg) (rb mb : Nat) (_hq : q.has rb) (lv : Value) (b1 b2 : Nat) (t m : Int) (W : World) (r : List Bs) (hr : RdrAt rb mb W r) (_htp : q.hi ≤ W.heap.size ∧ q.one < W.heap.size) (n1 : ¬ q.has b1) (n2 : ¬ q.has b2) (h1 : Bx W b1 3 (.int .i64 t)) (h2 : Bx W b2 3 (.int .i64 m)) :
    Calls Tryz.prog 38 #[.pointer (some ⟨rb, 0, none⟩), lv, .pointer (some ⟨b1, 0, none⟩), .pointer (some ⟨b2, 0, none⟩)] W (KPost q rb mb W (some (.flags t m, r))) := by
  have Hr := Lib.hid hr
  have H1 := Lib.hid h1
  have H2 := Lib.hid h2
  clear hr h1 h2
  go_enter Tryz.func38, Tryz.ntmps38
  go_wp2
  go_ret2
  refine ⟨Kp.refl _ _, _, rfl, ⟨_, _, rfl, enters_of Tryz.func39 (by kernel_rfl) rfl, fun X hX v _ => ?_⟩, Hr.out⟩
  exact flags11_any b1 b2 t m v X (bx_kept H1.out hX n1) (bx_kept H2.out hX n2)

set_option maxHeartbeats 1000000 in
set_option maxRecDepth 100000 in
theorem size1_any (g : Bool) (q : Rg) (rb mb : Nat) (hq : q.has rb) (lv : Value) (b1 : Nat) (W : World) (r : List Bs) (hs : Short r) (hr : RdrAt rb mb W r) (htp : q.hi ≤ W.heap.size ∧ q.one < W.heap.size) (n1 : ¬ q.has b1) (h1 : Bx W b1 60 (.func (.func (if g then 21 else 22)) #[] #[])) :
    Calls Tryz.prog 40 #[.pointer (some ⟨rb, 0, none⟩), lv, .pointer (some ⟨b1, 0, none⟩)] W (KPost q rb mb W (one1 (fun x => (numQ x).map (.size g)) r)) := by
  have H1 := Lib.hid h1
  clear h1
  cases r with
  | nil =>
    have E1 := Lib.hid (word_none rb mb W hr)
    have E2 := Lib.hid (number_any ⟨#[]⟩ W (by decide))
    rw [show numQ (⟨#[]⟩ : ByteArray).data.toList = none from rfl] at E2
    have HB := Lib.hid (Kp.below (b := nq rb) ((Below.refl W.heap.size W).alloc (Nat.le_refl _) (.cells #[.int .i64 0] 3)))
    clear hr
    go_enter Tryz.func40, Tryz.ntmps40
    go_wp2_with fail
    refine E1.out.mono ?_
    rintro e w2 ⟨rfl, rfl⟩
    go_wp2_with fail
    refine E2.out.mono ?_
    rintro e w2 ⟨rfl, rfl⟩
    go_wp2
    go_ret2
    exact ⟨HB.out, _, .inl rfl, rfl⟩
  | cons x r =>
    have E1 := Lib.hid (word_some rb mb W x r (by have := hs.1; simp at this; omega) hr)
    have hlt := blk_lt hr.choose_spec.1
    have E2 := Lib.hid (fun X => number_any ⟨x.toArray⟩ X (by show x.length ≤ _; have := hs.head; omega))
    simp only at E2
    show Calls _ _ _ _ (KPost q rb mb W (((numQ x).map (.size g)).map fun a => (a, r)))
    clear hr
    cases hqn : numQ x with
    | none =>
      rw [hqn] at E2
      go_enter Tryz.func40, Tryz.ntmps40
      go_wp2_with fail
      refine E1.out.mono ?_
      rintro e w2 ⟨rfl, hr2, hk2⟩
      have HK := Lib.hid (hk2.trans (Kp.below ((Below.refl w2.heap.size w2).alloc (Nat.le_refl _) (.cells #[.int .i64 0] 3))))
      clear hr2 hk2
      go_wp2_with fail
      refine (E2.out _).mono ?_
      rintro e w3 ⟨rfl, rfl⟩
      go_wp2
      go_ret2
      exact ⟨HK.out, _, .inl rfl, rfl⟩
    | some n =>
      rw [hqn] at E2
      go_enter Tryz.func40, Tryz.ntmps40
      go_wp2_with fail
      refine E1.out.mono ?_
      rintro e w2 ⟨rfl, hr2, hk2⟩
      have HB := Lib.hid ((Below.refl w2.heap.size w2).alloc (Nat.le_refl _) (.cells #[.int .i64 n] 3))
      have HK := Lib.hid (hk2.trans (Kp.below HB.out))
      have HR := Lib.hid (hr2.kept HB.out)
      have B1 := Lib.hid (blk_alloc (bx_kept H1.out (hk2.widen hq) n1) (.cells #[.int .i64 n] 3))
      have B2 := Lib.hid (blk_new w2 (.cells #[.int .i64 n] 3))
      have hz := hk2.size
      clear hr2 hk2
      go_wp2_with fail
      refine (E2.out _).mono ?_
      rintro e w3 ⟨rfl, rfl⟩
      go_wp2
      go_ret2
      refine ⟨HK.out, _, rfl, ⟨_, _, rfl, enters_of Tryz.func42 (by kernel_rfl) rfl, fun X hX v _ => ?_⟩, HR.out⟩
      exact size11_any g b1 _ n v X (bx_kept B1.out hX n1) (bx_kept B2.out hX (fun h => by unfold Rg.has at h; omega))

set_option maxHeartbeats 1000000 in
set_option maxRecDepth 100000 in
theorem field1_any (nm : Bs) (hn : nm.length ≤ 1000) (q : Rg) (rb mb : Nat) (hq : q.has rb) (m : Int) (lv : Value) (b1 : Nat) (W : World) (r : List Bs) (hs : Short r) (hr : RdrAt rb mb W r) (htp : q.hi ≤ W.heap.size ∧ q.one < W.heap.size) (h0 : 0 < q.lo ∧ 0 < q.one) (hm : W.cell? ⟨0, 0, none⟩ = some (.int .i64 m)) (n1 : ¬ q.has b1) (h1 : Bx W b1 9 (strV nm)) :
    Calls Tryz.prog 43 #[.pointer (some ⟨rb, 0, none⟩), lv, .pointer (some ⟨b1, 0, none⟩)] W (KPost q rb mb W (one1 (fun x => some (.field nm x)) r)) := by
  have hlt := blk_lt hr.choose_spec.1
  have hm0 := World.block_lt_of_cell? W _ hm
  cases r with
  | nil =>
    have E1 := Lib.hid (word_none rb mb W hr)
    have E2 := Lib.hid (contains_any nm [] (by omega) (by simp) m W hm)
    have k1 : W.cell? ⟨b1, 0, none⟩ = some (strV nm) := cell_blk h1 0
    clear hr h1 hm
    go_enter Tryz.func43, Tryz.ntmps43
    go_wp2_with fail
    refine E1.out.mono ?_
    rintro e w2 ⟨rfl, rfl⟩
    go_wp2_with fail
    refine E2.out.mono ?_
    rintro e w2 ⟨hb, v, rfl, hf, _⟩
    have HB := Lib.hid (Kp.below (b := nq rb) hb)
    clear hb
    go_wp2
    go_ret2
    exact ⟨HB.out, _, hf, rfl⟩
  | cons x r =>
    have E1 := Lib.hid (word_some rb mb W x r (by have := hs.1; simp at this; omega) hr)
    have hx := hs.head
    have H1 := Lib.hid h1
    have Hm := Lib.hid hm
    clear hr h1 hm
    go_enter Tryz.func43, Tryz.ntmps43
    go_wp2_with fail
    refine E1.out.mono ?_
    rintro e w2 ⟨rfl, hr2, hk2⟩
    have k1 : w2.cell? ⟨b1, 0, none⟩ = some (strV nm) := cell_blk (bx_kept H1.out (hk2.widen hq) n1) 0
    have E2 := Lib.hid (contains_any nm x (by omega) (by omega) m w2 ((kp_cell (hk2.widen hq) hm0 (fun e => by unfold Rg.has at e; simp only at e; omega)).trans Hm.out))
    have HK := Lib.hid hk2
    have HR := Lib.hid hr2
    have hz := hk2.size
    clear hr2 hk2
    go_wp2_with fail
    refine E2.out.mono ?_
    rintro e w3 ⟨hb, v, rfl, hf, hkey⟩
    have HB := Lib.hid (HK.out.trans (Kp.below hb))
    have HR3 := Lib.hid (HR.out.kept hb)
    have HKey := Lib.hid (hkey q (by omega) h0)
    clear hb hkey
    go_wp2
    go_ret2
    exact ⟨HB.out, _, rfl, HKey.out, HR3.out⟩

set_option maxHeartbeats 1000000 in
set_option maxRecDepth 100000 in
theorem text1_any (b : Bool) (q : Rg) (rb mb : Nat) (hq : q.has rb) (m : Int) (lv : Value) (b1 : Nat) (W : World) (r : List Bs) (hs : Short r) (hr : RdrAt rb mb W r) (htp : q.hi ≤ W.heap.size ∧ q.one < W.heap.size) (h0 : 0 < q.lo ∧ 0 < q.one) (hm : W.cell? ⟨0, 0, none⟩ = some (.int .i64 m)) (n1 : ¬ q.has b1) (h1 : Bx W b1 63 (.func (.func (textF b)) #[] #[])) :
    Calls Tryz.prog 45 #[.pointer (some ⟨rb, 0, none⟩), lv, .pointer (some ⟨b1, 0, none⟩)] W (KPost q rb mb W (one1 (fun x => some (.text b x)) r)) := by
  have hlt := blk_lt hr.choose_spec.1
  have hm0 := World.block_lt_of_cell? W _ hm
  cases r with
  | nil =>
    have E1 := Lib.hid (word_none rb mb W hr)
    have HB := Lib.hid (Kp.below (b := nq rb) ((Below.refl W.heap.size W).alloc (Nat.le_refl _) (.cells #[.string ⟨#[]⟩] 9)))
    clear hr h1 hm
    go_enter Tryz.func45, Tryz.ntmps45
    go_wp2_with fail
    refine E1.out.mono ?_
    rintro e w2 ⟨rfl, rfl⟩
    go_wp2
    go_ret2
    exact ⟨HB.out, _, .inr ⟨_, _, rfl⟩, rfl⟩
  | cons x r =>
    have E1 := Lib.hid (word_some rb mb W x r (by have := hs.1; simp at this; omega) hr)
    have hx := hs.head
    have H1 := Lib.hid h1
    have Hm := Lib.hid hm
    clear hr h1 hm
    go_enter Tryz.func45, Tryz.ntmps45
    go_wp2_with fail
    refine E1.out.mono ?_
    rintro e w2 ⟨rfl, hr2, hk2⟩
    have HB := Lib.hid ((Below.refl w2.heap.size w2).alloc (Nat.le_refl _) (.cells #[strV x] 9))
    have HK := Lib.hid (hk2.trans (Kp.below HB.out))
    have HR := Lib.hid (hr2.kept HB.out)
    have B1 := Lib.hid (blk_alloc (bx_kept H1.out (hk2.widen hq) n1) (.cells #[strV x] 9))
    have B2 := Lib.hid (blk_new w2 (.cells #[strV x] 9))
    have hz := hk2.size
    clear hr2 hk2
    go_wp2
    go_ret2
    refine ⟨HK.out, _, rfl, ⟨_, _, rfl, enters_of Tryz.func46 (by kernel_rfl) rfl, fun X hX v hg => ?_⟩, HR.out⟩
    refine text11_any b b1 _ x m v X hg (by omega) ?_ (bx_kept B1.out hX n1) (bx_kept B2.out hX (fun h => by unfold Rg.has at h; omega))
    exact (kp_cell ((HK.out.widen hq).trans hX) hm0 (fun e => by unfold Rg.has at e; simp only at e; omega)).trans Hm.out

def headerP : List Bs → Option (QKey × List Bs)
  | x :: y :: r => some (.field x y, r)
  | _ => none
set_option maxHeartbeats 1000000 in
set_option maxRecDepth 100000 in
theorem header_any (q : Rg) (rb mb : Nat) (hq : q.has rb) (m : Int) (lv : Value) (W : World) (r : List Bs) (hs : Short r) (hr : RdrAt rb mb W r) (htp : q.hi ≤ W.heap.size ∧ q.one < W.heap.size) (h0 : 0 < q.lo ∧ 0 < q.one) (hm : W.cell? ⟨0, 0, none⟩ = some (.int .i64 m)) :
    Calls Tryz.prog 24 #[.pointer (some ⟨rb, 0, none⟩), lv] W (KPost q rb mb W (headerP r)) := by
  have hlt := blk_lt hr.choose_spec.1
  have hm0 := World.block_lt_of_cell? W _ hm
  rcases r with _ | ⟨x, _ | ⟨y, r⟩⟩
  · show Calls _ _ _ _ (KPost q rb mb W none)
    have E1 := Lib.hid (word_none rb mb W hr)
    have E2 := Lib.hid (contains_any [] [] (by simp) (by simp) m W hm)
    clear hr hm
    go_enter Tryz.func24, Tryz.ntmps24
    go_wp2_with fail
    refine E1.out.mono ?_
    rintro e w2 ⟨rfl, rfl⟩
    go_wp2_with fail
    refine E1.out.mono ?_
    rintro e w2 ⟨rfl, rfl⟩
    go_wp2_with fail
    refine E2.out.mono ?_
    rintro e w2 ⟨hb, v, rfl, hf, _⟩
    have HB := Lib.hid (Kp.below (b := nq rb) hb)
    clear hb
    go_wp2
    go_ret2
    exact ⟨HB.out, _, hf, rfl⟩
  · show Calls _ _ _ _ (KPost q rb mb W none)
    have E1 := Lib.hid (word_some rb mb W x [] (by simp) hr)
    have hx := hs.head
    have Hm := Lib.hid hm
    clear hr hm
    go_enter Tryz.func24, Tryz.ntmps24
    go_wp2_with fail
    refine E1.out.mono ?_
    rintro e w2 ⟨rfl, hr2, hk2⟩
    have E3 := Lib.hid (word_none rb mb w2 hr2)
    have E2 := Lib.hid (contains_any x [] (by omega) (by simp) m w2 ((kp_cell (hk2.widen hq) hm0 (fun e => by unfold Rg.has at e; simp only at e; omega)).trans Hm.out))
    have HK := Lib.hid hk2
    clear hr2 hk2
    go_wp2_with fail
    refine E3.out.mono ?_
    rintro e w3 ⟨rfl, rfl⟩
    go_wp2_with fail
    refine E2.out.mono ?_
    rintro e w3 ⟨hb, v, rfl, hf, _⟩
    have HB := Lib.hid (HK.out.trans (Kp.below hb))
    clear hb
    go_wp2
    go_ret2
    exact ⟨HB.out, _, hf, rfl⟩
  · show Calls _ _ _ _ (KPost q rb mb W (some (.field x y, r)))
    have hrl : r.length ≤ 1000 := by have h := hs.1; rw [List.length_cons, List.length_cons] at h; omega
    have E1 := Lib.hid (word_some rb mb W x (y :: r) (by rw [List.length_cons]; omega) hr)
    have hx := hs.head
    have hy := hs.tail.head
    have Hm := Lib.hid hm
    clear hr hm
    go_enter Tryz.func24, Tryz.ntmps24
    go_wp2_with fail
    refine E1.out.mono ?_
    rintro e w2 ⟨rfl, hr2, hk2⟩
    have E3 := Lib.hid (word_some rb mb w2 y r (by omega) hr2)
    have HK := Lib.hid hk2
    clear hr2 hk2
    go_wp2_with fail
    refine E3.out.mono ?_
    rintro e w3 ⟨rfl, hr3, hk3⟩
    have HK3 := Lib.hid (HK.out.trans hk3)
    have E2 := Lib.hid (contains_any x y (by omega) (by omega) m w3 ((kp_cell (HK3.out.widen hq) hm0 (fun e => by unfold Rg.has at e; simp only at e; omega)).trans Hm.out))
    have HR3 := Lib.hid hr3
    have hz := HK3.out.size
    clear hr3 hk3
    go_wp2_with fail
    refine E2.out.mono ?_
    rintro e w4 ⟨hb, v, rfl, hf, hkey⟩
    have HB := Lib.hid (HK3.out.trans (Kp.below hb))
    have HR4 := Lib.hid (HR3.out.kept hb)
    have HKey := Lib.hid (hkey q (by omega) h0)
    clear hb hkey
    go_wp2
    go_ret2
    exact ⟨HB.out, _, rfl, HKey.out, HR4.out⟩

set_option maxHeartbeats 1000000 in
set_option maxRecDepth 100000 in
theorem uid_any (q : Rg) (rb mb : Nat) (hq : q.has rb) (m : Int) (lv : Value) (W : World) (r : List Bs) (hs : Short r) (hr : RdrAt rb mb W r) (htp : q.hi ≤ W.heap.size ∧ q.one < W.heap.size) (h0 : 0 < q.lo ∧ 0 < q.one) (hm : W.cell? ⟨0, 0, none⟩ = some (.int .i64 m)) :
    Calls Tryz.prog 28 #[.pointer (some ⟨rb, 0, none⟩), lv] W (KPost q rb mb W (one1 (fun x => (parseS x).map (.set true)) r)) := by
  have hlt := blk_lt hr.choose_spec.1
  have hm0 := World.block_lt_of_cell? W _ hm
  cases r with
  | nil =>
    have E1 := Lib.hid (word_none rb mb W hr)
    have E2 := set_any true [] (by simp) m W hm
    rw [show parseS [] = none by decide] at E2
    have E2 := Lib.hid E2
    clear hr hm
    go_enter Tryz.func28, Tryz.ntmps28
    go_wp2_with fail
    refine E1.out.mono ?_
    rintro e w2 ⟨rfl, rfl⟩
    go_wp2_with fail
    refine E2.out.mono ?_
    rintro e w2 ⟨hb, rfl⟩
    have HB := Lib.hid (Kp.below (b := nq rb) hb)
    clear hb
    go_wp2
    go_ret2
    exact ⟨HB.out, _, .inl rfl, rfl⟩
  | cons x r =>
    have E1 := Lib.hid (word_some rb mb W x r (by have := hs.1; simp at this; omega) hr)
    have hx := hs.head
    have Hm := Lib.hid hm
    have E2 := Lib.hid (fun X (h : X.cell? ⟨0, 0, none⟩ = some (.int .i64 m)) => set_any true x hx m X h)
    show Calls _ _ _ _ (KPost q rb mb W (((parseS x).map (.set true)).map fun a => (a, r)))
    clear hr hm
    cases hp : parseS x with
    | none =>
      rw [hp] at E2
      go_enter Tryz.func28, Tryz.ntmps28
      go_wp2_with fail
      refine E1.out.mono ?_
      rintro e w2 ⟨rfl, hr2, hk2⟩
      have M2 := Lib.hid ((kp_cell (hk2.widen hq) hm0 (fun e => by unfold Rg.has at e; simp only at e; omega)).trans Hm.out)
      have HK := Lib.hid hk2
      clear hr2 hk2
      go_wp2_with fail
      refine (E2.out _ M2.out).mono ?_
      rintro e w3 ⟨hb, rfl⟩
      have HB := Lib.hid (HK.out.trans (Kp.below hb))
      clear hb
      go_wp2
      go_ret2
      exact ⟨HB.out, _, .inl rfl, rfl⟩
    | some R =>
      rw [hp] at E2
      go_enter Tryz.func28, Tryz.ntmps28
      go_wp2_with fail
      refine E1.out.mono ?_
      rintro e w2 ⟨rfl, hr2, hk2⟩
      have M2 := Lib.hid ((kp_cell (hk2.widen hq) hm0 (fun e => by unfold Rg.has at e; simp only at e; omega)).trans Hm.out)
      have HK := Lib.hid hk2
      have HR := Lib.hid hr2
      have hz := hk2.size
      clear hr2 hk2
      go_wp2_with fail
      refine (E2.out _ M2.out).mono ?_
      rintro e w3 ⟨hb, v, rfl, hkey⟩
      have HB := Lib.hid (HK.out.trans (Kp.below hb))
      have HR3 := Lib.hid (HR.out.kept hb)
      have HKey := Lib.hid (hkey q (by omega))
      clear hb hkey
      go_wp2
      go_ret2
      exact ⟨HB.out, _, rfl, HKey.out, HR3.out⟩
end Go.Proofs.YtkgngahmpafdhaaGreatDoor.QU

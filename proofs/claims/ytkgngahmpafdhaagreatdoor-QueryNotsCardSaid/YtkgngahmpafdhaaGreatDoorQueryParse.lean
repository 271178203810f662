/- What query.Parse and query.Holds return. Conditions: lengths, and that the library's MaxLen holds some int. -/
import Derived.Test.YtkgngahmpafdhaaGreatDoorQueryKeyAny
namespace Go.Proofs.YtkgngahmpafdhaaGreatDoor.QU
open Go.RowKit Mailsack MM PT

theorem infoK : (Tryz.prog.info? 44).map (fun i => (i.zero, i.size, i.bytes)) = some (some .nilFunc, 1, 8) := by kernel_rfl
/-- a function that holds of messages as f says, now and behind -/
def KeyNow (W : World) (kv : Value) (f : QV → Bool) : Prop := ∃ q w0, Kp q w0 W ∧ KeyIs q w0 kv f
theorem KeyNow.below {W W' : World} {kv : Value} {f : QV → Bool} (h : KeyNow W kv f) (hb : Below W.heap.size W W') : KeyNow W' kv f := by
  obtain ⟨q, w0, h1, h2⟩ := h
  exact ⟨q, w0, h1.trans (Kp.below hb), h2⟩
/-- a key in Parse's loop: o: the result's block; rb: the reader's; gq: the row's -/
def PKey (o rb : Nat) (W : World) (gq : Option Nat) (kv : Value) (f : QV → Bool) : Prop := ∃ top w0, Kp ⟨o, rb, top⟩ w0 W ∧ KeyIs ⟨o, rb, top⟩ w0 kv f ∧ rb + 2 ≤ top ∧ ∀ g, gq = some g → g < top ∨ w0.heap.size ≤ g
theorem PKey.now {o rb : Nat} {W : World} {gq : Option Nat} {kv : Value} {f : QV → Bool} (h : PKey o rb W gq kv f) : KeyNow W kv f := by
  obtain ⟨top, w0, h1, h2, _⟩ := h
  exact ⟨_, w0, h1, h2⟩
theorem PKey.set {o rb b i : Nat} {W : World} {gq : Option Nat} {kv u : Value} {f : QV → Bool} (h : PKey o rb W gq kv f) (hb : b = o ∨ b = rb ∨ b = rb + 1) : PKey o rb (W.setCell ⟨b, i, none⟩ u) gq kv f := by
  obtain ⟨top, w0, h1, h2, h3, h4⟩ := h
  exact ⟨top, w0, h1.trans (kp_set (by unfold Rg.has; simp only; omega) i u), h2, h3, h4⟩
theorem PKey.below {o rb : Nat} {W W' : World} {gq : Option Nat} {kv : Value} {f : QV → Bool} (h : PKey o rb W gq kv f) (hb : Below W.heap.size W W') : PKey o rb W' gq kv f := by
  obtain ⟨top, w0, h1, h2, h3, h4⟩ := h
  exact ⟨top, w0, h1.trans (Kp.below hb), h2, h3, h4⟩
theorem PKey.append {o rb g' : Nat} {W W' : World} {gq : Option Nat} {kv : Value} {f : QV → Bool} (h : PKey o rb W gq kv f) (hg : W.grownBy W' gq) (hlo : ∀ g, gq = some g → rb ≤ g) (hn : gq = some g' ∨ W.heap.size ≤ g') : PKey o rb W' (some g') kv f := by
  obtain ⟨top, w0, h1, h2, h3, h4⟩ := h
  refine ⟨top, w0, ⟨hg.os.trans h1.os, hg.tape.trans h1.tape, hg.output.trans h1.output, Nat.le_trans h1.size hg.size, fun k hk hne => ?_⟩, h2, h3, fun g e => ?_⟩
  · refine (hg.block k (Nat.lt_of_lt_of_le hk h1.size) (fun e => hne ?_)).trans (h1.block k hk hne)
    have h5 := h4 k e.symm
    have h6 := hlo k e.symm
    unfold Rg.has
    simp only
    omega
  · injection e with e
    subst e
    rcases hn with hn | hn
    · exact h4 g' hn
    · right; have := h1.size; omega
/-- the slice value v is of keys that hold as these say -/
structure KeysAt (B : Nat) (W : World) (v : Value) (kvs : List Value) (K : List QKey) : Prop where
  own : W.ownsRow B 44 1 v kvs.length kvs
  len : kvs.length = K.length
  each : ∀ (j : Nat) kv k, kvs[j]? = some kv → K[j]? = some k → KeyNow W kv (semQ k)
theorem KeysAt.form {B : Nat} {W : World} {v : Value} {kvs : List Value} {K : List QKey} (h : KeysAt B W v kvs K) : ∃ A c, v = .slice A kvs.length c ∧ kvs.length ≤ c := by
  rcases h.own.2 with ⟨h1, h2⟩ | ⟨g, cap, cur, h1, _, _, h2, _⟩
  · exact ⟨none, 0, by rw [h1, h2], by omega⟩
  · exact ⟨_, _, h1, h2⟩
theorem KeysAt.below {B : Nat} {W W' : World} {v : Value} {kvs : List Value} {K : List QKey} (h : KeysAt B W v kvs K) (hb : Below W.heap.size W W') : KeysAt B W' v kvs K :=
  ⟨World.ownsRow.kept h.own (grown_of_below hb none) (by cases v.ownBlock <;> simp), h.len, fun j kv k h1 h2 => (h.each j kv k h1 h2).below hb⟩
/-- how a query is parsed -/
def QPost (w : World) (R : Option (List QKey)) (e : Ending) (w' : World) : Prop := Below w.heap.size w w' ∧ match R with
  | none => e = .returned (.tuple #[.agg #[.slice none 0 0], .int .i64 3])
  | some K => ∃ v kvs, e = .returned (.tuple #[.agg #[v], .int .i64 0]) ∧ KeysAt w.heap.size w' v kvs K

def allQ (K : List QKey) (v : QV) : Bool := K.all fun k => semQ k v
theorem allQ_none {K : List QKey} {v : QV} {j : Nat} {k : QKey} (h : K[j]? = some k) (hf : semQ k v = false) : allQ K v = false := by
  unfold allQ
  rw [List.all_eq_false]
  exact ⟨k, List.mem_of_getElem? h, by rw [hf]; decide⟩
theorem allQ_all {K : List QKey} {v : QV} (h : ∀ k ∈ K, semQ k v = true) : allQ K v = true := List.all_eq_true.2 h

set_option maxHeartbeats 1000000 in
set_option maxRecDepth 100000 in
theorem holds_any (B : Nat) (sv : Value) (kvs : List Value) (K : List QKey) (v : QV) (W : World) (hg : GoodV v) (hK : KeysAt B W sv kvs K) (hl : K.length ≤ 1000000) :
    Calls Tryz.prog 7 #[.agg #[sv], viewV v] W fun e W' => e = .returned (.bool (allQ K v)) ∧ Below W.heap.size W W' := by
  have HK := Lib.hid hK
  have hlen := hK.len
  obtain ⟨A, c, rfl, hc⟩ := hK.form
  have HB := Lib.hid (two_bel W (.cells #[.slice A kvs.length c] 29) (viewB v))
  have pQ := Lib.hid (two_old W (.cells #[.slice A kvs.length c] 29) (viewB v))
  have pV := Lib.hid (two_new W (.cells #[.slice A kvs.length c] 29) (viewB v))
  have Hg := Lib.hid hg
  clear hK hg
  obtain ⟨N, hN⟩ : ∃ N, kvs.length = N := ⟨_, rfl⟩
  rw [hN] at hc HB pQ pV hlen ⊢
  have HN := Lib.hid hN
  have HLn := Lib.hid hlen
  have hNb : N ≤ 1000000 := by omega
  clear hN hlen
  unfold viewV
  go_enter Tryz.func7, Tryz.ntmps7
  go_wp2
  go_loopw [10] (fun i wr => ∃ k : Nat, k ≤ N ∧ i = .int .i64 (k : Int) ∧ Hid (Below W.heap.size W wr) ∧ Hid (wr.heap[W.heap.size + 1]? = some (viewB v)) ∧ W.heap.size + 1 < wr.heap.size ∧ Hid (∀ q ∈ K.take k, semQ q v = true)) (fun i _ => N - (intOf i).toNat)
  case atStart => exact ⟨0, Nat.zero_le _, rfl, HB, pV, by simp, Lib.hid (by simp)⟩
  case round =>
    obtain ⟨k, hk, rfl, hb, hvb, hsz, hall⟩ := hrel
    clear HB pV pQ
    by_cases hlt : k < N
    · obtain ⟨kv, hkv⟩ : ∃ kv, kvs[k]? = some kv := ⟨_, List.getElem?_eq_getElem (by rw [HN.out]; exact hlt)⟩
      obtain ⟨q, hq⟩ : ∃ q, K[k]? = some q := ⟨_, List.getElem?_eq_getElem (by rw [← HLn.out]; exact hlt)⟩
      have hKw := HK.out.each k kv q hkv hq
      obtain ⟨rg, w0, hkp, id, caps, rfl, hfn⟩ := hKw
      obtain ⟨g, hg1, hgB⟩ : ∃ g, A = some ⟨g, 0, none⟩ ∧ g < W.heap.size := by
        rcases HK.out.own.2 with ⟨h1, h2⟩ | ⟨g, cap, cur, h1, _, h3, _⟩
        · rw [HN.out] at h2; omega
        · injection h1 with h1 _ _; exact ⟨g, h1, blk_lt h3⟩
      subst hg1
      have hcell := World.ownsRow.cells HK.out.own (g := g) rfl k _ hkv
      have hadd : (⟨g, 0, none⟩ : Addr).add k = ⟨g, k, none⟩ := by unfold Addr.add; split <;> simp_all
      rw [hadd] at hcell
      have d1 : wr.cell? ⟨g, k, none⟩ = some (.func (.func id) #[] caps) := (hb.out.cell (p := ⟨g, k, none⟩) hgB).trans hcell
      obtain ⟨d2, d3, d4, d5, d6, d7, d8⟩ := view_cells hvb.out
      have ee := hfn.ent
      have E1 := Lib.hid (hfn.run wr (hkp.trans (Kp.below hb.out)) v Hg.out)
      have Hq := Lib.hid hq
      obtain ⟨s, hsq⟩ : ∃ s, semQ q v = s := ⟨_, rfl⟩
      have Hsq := Lib.hid hsq
      unfold viewV at E1
      rw [hsq] at E1
      clear hcell hadd hkv hq hsq hfn hkp
      go_wp2_with fail
      refine E1.out.mono ?_
      rintro e w2 ⟨rfl, hb2⟩
      have HB2 := Lib.hid (hb.out.trans (hb2.mono hb.out.size))
      have HV2 := Lib.hid (blk_below hvb.out hb2 (by omega))
      have hsz2 : W.heap.size + 1 < w2.heap.size := Nat.lt_of_lt_of_le hsz hb2.size
      clear hb2
      cases s
      · go_wp2
        go_ret
        refine ⟨?_, HB2.out⟩
        rw [allQ_none Hq.out Hsq.out]
        rfl
      · go_wp2
        refine ⟨⟨k + 1, by omega, by go_num, HB2, HV2, hsz2, Lib.hid ?_⟩, by simp [intOf]; omega⟩
        intro y hy
        rw [List.take_add_one, Hq.out] at hy
        rcases List.mem_append.1 hy with hy | hy
        · exact hall.out y hy
        · simp at hy; subst hy; exact Hsq.out
    · have hkN : k = K.length := by have := HLn.out; omega
      have Ha := Lib.hid (allQ_all (K := K) (v := v) (by have := hall.out; rw [hkN, List.take_length] at this; exact this))
      clear hkN
      go_wp2
      go_ret
      rw [Ha.out]
      exact ⟨rfl, hb.out⟩
end Go.Proofs.YtkgngahmpafdhaaGreatDoor.QU

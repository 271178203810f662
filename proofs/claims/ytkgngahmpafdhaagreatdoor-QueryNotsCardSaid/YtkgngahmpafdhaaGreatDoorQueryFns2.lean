/- The closures of layer 20 that look into a message's text or at a set, and those of NOT and OR. Conditions: lengths, and that the library's MaxLen holds some int. -/
import Derived.Test.YtkgngahmpafdhaaGreatDoorQueryFns
namespace Go.Proofs.YtkgngahmpafdhaaGreatDoor.QU
open Go.RowKit Mailsack MM PT

theorem fields_vlen (M : Nat) : ∀ (n : Nat) (l : List Bs), l.length ≤ n → (∀ x ∈ l, x.length ≤ M) → ∀ p ∈ fieldsP l, p.2.length ≤ (n + 1) * M
  | _, [], _, _, p, hp => by rw [fieldsP_nil] at hp; cases hp
  | 0, _ :: _, h, _, _, _ => by simp at h
  | n + 1, f :: r, h, hl, p, hp => by
    have h' : r.length ≤ n := by simpa using h
    have hr : ∀ x ∈ r, x.length ≤ M := fun x hx => hl x (List.mem_cons_of_mem _ hx)
    have hM : (n + 1) * M ≤ (n + 1 + 1) * M := Nat.mul_le_mul_right _ (by omega)
    by_cases hc : (Go.Lib.cut f [58]).2.2 = false ∨ isCont f = true
    · rw [fieldsP_skip hc] at hp
      exact Nat.le_trans (fields_vlen M n r h' hr p hp) hM
    · have hc' : (Go.Lib.cut f [58]).2.2 = true ∧ isCont f = false := by
        constructor
        · cases hx : (Go.Lib.cut f [58]).2.2 with
          | true => rfl
          | false => exact absurd (.inl hx) hc
        · cases hx : isCont f with
          | false => rfl
          | true => exact absurd (.inr hx) hc
      rw [fieldsP_take hc'.1 hc'.2] at hp
      rcases List.mem_cons.1 hp with rfl | hp
      · refine Nat.le_trans (trimS_len _ _) ?_
        rw [join_flat]
        refine Nat.le_trans (flat_len M _ ?_) (Nat.mul_le_mul_right _ ?_)
        · intro x hx
          rcases List.mem_cons.1 hx with rfl | hx
          · exact Nat.le_trans (cut_len2 (show Lib.cut f [58] = (_, _, _) from rfl)) (hl f (by simp))
          · exact hr x ((List.takeWhile_sublist isCont).subset hx)
        · have := (List.takeWhile_sublist isCont (l := r)).length_le
          simp; omega
      · exact Nat.le_trans (fields_vlen M n _ (Nat.le_trans (dropWhile_len _ _) h') (fun x hx => hr x ((List.dropWhile_sublist isCont).subset hx)) p hp) hM
theorem field_vlen {t : Bs} (ht : t.length ≤ 1000) (nm : Bs) : (fieldP (fieldsP (linesP t)) nm).1.length ≤ 2000000 := by
  have hs : (⟨t.toArray⟩ : ByteArray).data.toList = t := rfl
  have hz : (⟨t.toArray⟩ : ByteArray).size = t.length := rfl
  have h1 := linesP_each ⟨t.toArray⟩
  have h2 := linesP_len ⟨t.toArray⟩
  have hN : Lib.countB ⟨t.toArray⟩ crSep ≤ (⟨t.toArray⟩ : ByteArray).size := Lib.countB_le crSep (by decide) _ _ (Nat.le_refl _)
  rw [hs] at h1 h2
  rw [hz] at h1 hN
  unfold fieldP
  cases hf : (fieldsP (linesP t)).find? (fun p => decide (upP p.1 = upP nm)) with
  | none => simp
  | some p =>
    have := fields_vlen 1000 1001 (linesP t) (by omega) (fun x hx => Nat.le_trans (h1 x hx) ht) p (List.mem_of_find?_eq_some hf)
    simp only; omega
abbrev viewB (v : QV) : Obj := .cells #[.int .i64 v.seq, .int .i64 v.uid, .int .i64 v.flags, .int .i64 v.size, strV v.text, .int .i64 v.seqs, .int .i64 v.uids] 24
theorem str_mk (l : Bs) : strV l = .string ⟨l.toArray⟩ := rfl
theorem max_at {m : Int} {W W' : World} (hm : W.cell? ⟨0, 0, none⟩ = some (.int .i64 m)) (hb : Below W.heap.size W W') : W'.cell? ⟨0, 0, none⟩ = some (.int .i64 m) := (hb.cell (World.block_lt_of_cell? W _ hm)).trans hm

set_option maxHeartbeats 1000000 in
set_option maxRecDepth 100000 in
theorem contains1_any (b1 b2 : Nat) (nm x : Bs) (m : Int) (v : QV) (W : World) (hg : GoodV v) (hn : nm.length ≤ 1000000) (hx : x.length ≤ 1000000) (hm : W.cell? ⟨0, 0, none⟩ = some (.int .i64 m)) (h1 : Bx W b1 9 (strV nm)) (h2 : Bx W b2 9 (strV x)) :
    Calls Tryz.prog 57 #[viewV v, .pointer (some ⟨b1, 0, none⟩), .pointer (some ⟨b2, 0, none⟩)] W fun e W' => e = .returned (.bool (semQ (.field nm x) v)) ∧ Below W.heap.size W W' := by
  have l1 := blk_lt h1
  have l2 := blk_lt h2
  have k1 : W.cell? ⟨b1, 0, none⟩ = some (strV nm) := cell_blk h1 0
  have k2 : W.cell? ⟨b2, 0, none⟩ = some (strV x) := cell_blk h2 0
  have HB := Lib.hid ((Below.refl W.heap.size W).alloc (Nat.le_refl _) (viewB v))
  obtain ⟨sq, ui, fl, sz, tx, sqs, uis⟩ := v
  have ht := hg.txt
  simp only at ht
  have hs : semQ (.field nm x) ⟨sq, ui, fl, sz, tx, sqs, uis⟩ = ((fieldP (fieldsP (linesP (tx.take (splitN tx)))) nm).2 && hasP (fieldP (fieldsP (linesP (tx.take (splitN tx)))) nm).1 x) := by rfl
  rw [hs]
  have hh : (tx.take (splitN tx)).length ≤ 1000 := by rw [List.length_take]; omega
  have E1 := Lib.hid (split_any ⟨tx.toArray⟩ m _ (by show tx.length < _; omega) (max_at hm HB.out))
  have hvl := field_vlen hh nm
  have E2 := Lib.hid (fun W' (h : Below W.heap.size W W') => field_any ⟨(tx.take (splitN tx)).toArray⟩ ⟨nm.toArray⟩ m W' (by show (tx.take (splitN tx)).length ≤ _; omega) hn (max_at hm h))
  simp only at E1 E2
  generalize fieldP (fieldsP (linesP (tx.take (splitN tx)))) nm = F at *
  obtain ⟨val, q⟩ := F
  simp only at hvl E2 ⊢
  have E3 := Lib.hid (fun W' (h : Below W.heap.size W W') => has_any ⟨val.toArray⟩ ⟨x.toArray⟩ m W' (by show val.length < _; omega) (by show x.length < _; omega) (max_at hm h))
  simp only at E3
  have HC := Lib.hid (fun W' (h : Below W.heap.size W W') => And.intro ((h.cell (p := ⟨b1, 0, none⟩) l1).trans k1) ((h.cell (p := ⟨b2, 0, none⟩) l2).trans k2))
  unfold viewV
  simp only
  clear h1 h2 hs hm hg
  go_enter Tryz.func57, Tryz.ntmps57
  go_wp2_with fail
  refine E1.out.mono ?_
  rintro e w2 ⟨rfl, hb2⟩
  have HB2 := Lib.hid (HB.out.trans (hb2.mono HB.out.size))
  have c2 := (HC.out w2 HB2.out).1
  clear hb2 E1 k1 k2
  go_wp2_with fail
  refine (E2.out _ HB2.out).mono ?_
  rintro e w3 ⟨rfl, hb3⟩
  have HB3 := Lib.hid (HB2.out.trans (hb3.mono HB2.out.size))
  have c3 := (HC.out w3 HB3.out).2
  clear hb3 E2 c2
  cases q
  · go_wp2
    go_ret
    exact ⟨rfl, HB3.out⟩
  · go_wp2_with fail
    refine (E3.out _ HB3.out).mono ?_
    rintro e w4 ⟨rfl, hb4⟩
    have HB4 := Lib.hid (HB3.out.trans (hb4.mono HB3.out.size))
    clear hb4
    go_wp2
    go_ret
    refine ⟨?_, HB4.out⟩
    simp

set_option maxHeartbeats 400000 in
set_option maxRecDepth 100000 in
theorem not1_any (b1 : Nat) (r : Rg) (id : Nat) (caps : Array Value) (f : QV → Bool) (w : World) (hk : KeyFn r w id caps f) (v : QV) (W : World) (hg : GoodV v) (hW : Kp r w W) (h1 : Bx W b1 44 (.func (.func id) #[] caps)) :
    Calls Tryz.prog 50 #[viewV v, .pointer (some ⟨b1, 0, none⟩)] W fun e W' => e = .returned (.bool (!f v)) ∧ Below W.heap.size W W' := by
  have l1 := blk_lt h1
  have k1 : W.cell? ⟨b1, 0, none⟩ = some (.func (.func id) #[] caps) := cell_blk h1 0
  have HB := Lib.hid ((Below.refl W.heap.size W).alloc (Nat.le_refl _) (viewB v))
  have E1 := Lib.hid (hk.run _ (hW.trans (Kp.below HB.out)) v hg)
  have ee := hk.ent
  unfold viewV at E1 ⊢
  go_enter Tryz.func50, Tryz.ntmps50
  go_wp2_with fail
  refine E1.out.mono ?_
  rintro e w2 ⟨rfl, hb2⟩
  have HB2 := Lib.hid (HB.out.trans (hb2.mono HB.out.size))
  clear hb2
  go_wp2
  go_ret
  exact ⟨rfl, HB2.out⟩

set_option maxHeartbeats 400000 in
set_option maxRecDepth 100000 in
theorem or1_any (b1 b2 : Nat) (r : Rg) (id id2 : Nat) (caps caps2 : Array Value) (f f2 : QV → Bool) (w : World) (hk : KeyFn r w id caps f) (hk2 : KeyFn r w id2 caps2 f2) (v : QV) (W : World) (hg : GoodV v) (hW : Kp r w W)
    (h1 : Bx W b1 44 (.func (.func id) #[] caps)) (h2 : Bx W b2 44 (.func (.func id2) #[] caps2)) :
    Calls Tryz.prog 51 #[viewV v, .pointer (some ⟨b1, 0, none⟩), .pointer (some ⟨b2, 0, none⟩)] W fun e W' => e = .returned (.bool (f v || f2 v)) ∧ Below W.heap.size W W' := by
  have l1 := blk_lt h1
  have l2 := blk_lt h2
  have k1 : W.cell? ⟨b1, 0, none⟩ = some (.func (.func id) #[] caps) := cell_blk h1 0
  have k2 : W.cell? ⟨b2, 0, none⟩ = some (.func (.func id2) #[] caps2) := cell_blk h2 0
  have HB := Lib.hid ((Below.refl W.heap.size W).alloc (Nat.le_refl _) (viewB v))
  have E1 := Lib.hid (hk.run _ (hW.trans (Kp.below HB.out)) v hg)
  have E2 := Lib.hid (fun W' (h : Below W.heap.size W W') => hk2.run _ (hW.trans (Kp.below h)) v hg)
  have ee := hk.ent
  have ee2 := hk2.ent
  have pB := Lib.hid (blk_new W (viewB v))
  unfold viewV at E1 E2 ⊢
  obtain ⟨q, hq⟩ : ∃ q, f v = q := ⟨_, rfl⟩
  rw [hq] at E1 ⊢
  clear h1 h2 hq
  go_enter Tryz.func51, Tryz.ntmps51
  go_wp2_with fail
  refine E1.out.mono ?_
  rintro e w2 ⟨rfl, hb2⟩
  have HB2 := Lib.hid (HB.out.trans (hb2.mono HB.out.size))
  have pB2 := Lib.hid (blk_below pB.out hb2 (by simp))
  have d0 : w2.cell? ⟨W.heap.size, 0, none⟩ = some (.int .i64 v.seq) := cell_blk pB2.out 0
  have d1 : w2.cell? ⟨W.heap.size, 1, none⟩ = some (.int .i64 v.uid) := cell_blk pB2.out 1
  have d2 : w2.cell? ⟨W.heap.size, 2, none⟩ = some (.int .i64 v.flags) := cell_blk pB2.out 2
  have d3 : w2.cell? ⟨W.heap.size, 3, none⟩ = some (.int .i64 v.size) := cell_blk pB2.out 3
  have d4 : w2.cell? ⟨W.heap.size, 4, none⟩ = some (strV v.text) := cell_blk pB2.out 4
  have d5 : w2.cell? ⟨W.heap.size, 5, none⟩ = some (.int .i64 v.seqs) := cell_blk pB2.out 5
  have d6 : w2.cell? ⟨W.heap.size, 6, none⟩ = some (.int .i64 v.uids) := cell_blk pB2.out 6
  have c2 := (HB2.out.cell (p := ⟨b2, 0, none⟩) l2).trans k2
  clear hb2 k1 k2
  cases q
  · go_wp2_with fail
    refine (E2.out _ HB2.out).mono ?_
    rintro e w3 ⟨rfl, hb3⟩
    have HB3 := Lib.hid (HB2.out.trans (hb3.mono HB2.out.size))
    clear hb3
    go_wp2
    go_ret
    refine ⟨?_, HB3.out⟩
    simp
  · go_wp2
    go_ret
    exact ⟨rfl, HB2.out⟩

set_option maxHeartbeats 400000 in
set_option maxRecDepth 100000 in
theorem body_any (m : Int) (v : QV) (W : World) (ht : v.text.length ≤ 1000) (hm : W.cell? ⟨0, 0, none⟩ = some (.int .i64 m)) :
    Calls Tryz.prog 26 #[viewV v] W fun e W' => e = .returned (strV (v.text.drop (splitN v.text))) ∧ Below W.heap.size W W' := by
  have HB := Lib.hid ((Below.refl W.heap.size W).alloc (Nat.le_refl _) (viewB v))
  have E1 := Lib.hid (split_any ⟨v.text.toArray⟩ m _ (by show v.text.length < _; omega) (max_at hm HB.out))
  simp only at E1
  unfold viewV
  go_enter Tryz.func26, Tryz.ntmps26
  go_wp2_with fail
  refine E1.out.mono ?_
  rintro e w2 ⟨rfl, hb2⟩
  have HB2 := Lib.hid (HB.out.trans (hb2.mono HB.out.size))
  clear hb2
  go_wp2
  go_ret
  exact ⟨rfl, HB2.out⟩
set_option maxHeartbeats 400000 in
set_option maxRecDepth 100000 in
theorem makers3_any (v : QV) (W : World) :
    Calls Tryz.prog 27 #[viewV v] W fun e W' => e = .returned (strV v.text) ∧ Below W.heap.size W W' := by
  have HB := Lib.hid ((Below.refl W.heap.size W).alloc (Nat.le_refl _) (viewB v))
  unfold viewV
  go_enter Tryz.func27, Tryz.ntmps27
  go_wp2
  go_ret
  exact ⟨rfl, HB.out⟩
end Go.Proofs.YtkgngahmpafdhaaGreatDoor.QU

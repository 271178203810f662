/- What the reference's Take returns, for any text. No condition but the text's length. -/
import Derived.Test.YtmjmabpcpicemaaTakePlain
import Derived.Test.YtmjmabpcpicemaaLinesNext
import Derived.Test.YtmjmabpcpicemaaLinesRlit
import Derived.Test.YtmjmabpcpicemaaMem
namespace Go.Proofs.Ytmjmabpcpicemaa.LN
open Go.RowKit Mailsack MM

theorem infoS : (Try.prog.info? 9).map (fun i => (i.zero, i.size, i.bytes)) = some (some (.string ⟨#[]⟩), 1, 16) := by kernel_rfl

/-- where the reference's Take is at a round's head -/
def RAt (s : ByteArray) (w : World) (r : ByteArray) (tv lv : Value) (T L : List Bs) (wr : World) : Prop :=
  r.size ≤ s.size ∧ OwnS wr w.heap.size tv T ∧ OwnS wr w.heap.size lv L ∧ Apart tv lv ∧ T.length = L.length ∧ L.length ≤ 4 ∧ Below w.heap.size w wr ∧
    takeGo (5 - L.length) T L r.data.toList = takeP s.data.toList

def RTakePost (w : World) (R : TakeR) (e : Ending) (w' : World) : Prop :=
  ∃ tv lv, e = .returned (.tuple #[tv, lv, strV R.rest, .int .i64 R.state, .int .i64 R.n]) ∧ OwnS w' w.heap.size tv R.texts ∧ OwnS w' w.heap.size lv R.lits ∧ Below w.heap.size w w'

theorem RAt.drew {s : ByteArray} {w wr : World} {r : ByteArray} {tv lv : Value} {T L : List Bs} (h : RAt s w r tv lv T L wr) {w2 : World} (hw : ∃ n, w2 = wr.drewN n) : RAt s w r tv lv T L w2 := by
  obtain ⟨n, rfl⟩ := hw
  obtain ⟨h1, h2, h3, h4, h5, h6, h7, h8⟩ := h
  exact ⟨h1, h2.drewN n, h3.drewN n, h4, h5, h6, below_drewN h7 n, h8⟩

set_option maxHeartbeats 2000000 in
theorem rtake_any (s : ByteArray) (w : World) (hl : s.size < 4611686018427387904) :
    Calls Try.prog 13 #[.string s] w (RTakePost w (takeP s.data.toList)) := by
  obtain ⟨i0, hi, hz0, hz1, hz2⟩ := info_parts infoS
  go_enter Try.func13, Try.ntmps13
  go_wp2
  go_loopw [0, 7, 8] (fun rv tv lv wr => ∃ (r : ByteArray) (T L : List Bs), rv = .string r ∧ Hid (RAt s w r tv lv T L wr)) (fun rv _ _ _ => lenOf rv)
  case atStart => exact ⟨s, [], [], rfl, Lib.hid ⟨Nat.le_refl _, OwnS.nil _ _, OwnS.nil _ _, .inl rfl, rfl, by decide, Below.refl _ _, rfl⟩⟩
  case round =>
    obtain ⟨r, T, L, rfl, hr⟩ := hrel
    have hrs : r.size ≤ s.size := hr.out.1
    obtain ⟨A, c, e1, hc⟩ := hr.out.2.2.1.form
    subst e1
    have hL4 : L.length ≤ 4 := hr.out.2.2.2.2.2.1
    obtain ⟨f, hf⟩ : ∃ f, 5 - L.length = f + 1 := ⟨4 - L.length, by omega⟩
    have htk := hr.out.2.2.2.2.2.2.2
    rw [hf] at htk
    rcases hnx : nextP r.data.toList with ⟨ln, rest, st⟩
    have hlen := nextP_rest hnx
    rw [size_list] at hlen
    have Hnx := Lib.hid hnx
    by_cases hst : st = 1
    · subst hst
      have hl3 := nextP_len hnx
      rw [size_list] at hl3
      rcases hlit : litP ln with _ | ⟨n, a⟩
      · rw [takeGo_plain hnx hlit] at htk
        have Htk := Lib.hid htk
        have Hlit := Lib.hid (show rlitR (⟨ln.toArray⟩ : ByteArray).data.toList = (-1, 0) from rlitR_none hlit)
        clear hnx htk hf hlit
        go_wp2_with fail
        refine (rnext_any r _ (by omega)).mono ?_
        rintro e w2 ⟨rfl, hw⟩
        rw [Hnx.out]
        have hr2 := Lib.hid (hr.out.drew hw)
        clear hw hr
        go_wp2_with fail
        refine (rliteral_any ⟨ln.toArray⟩ _ (by rw [← size_list]; show ln.length < _; omega)).mono ?_
        rintro e w' ⟨rfl, rfl⟩
        rw [Hlit.out]
        have hown := Lib.hid hr2.out.2.1.row
        have hbz := hr2.out.2.2.2.2.2.2.1.size
        have hTL : T.length ≤ 4 := by rw [hr2.out.2.2.2.2.1]; exact hL4
        go_wp2_with (at_builtin; refine wpList_append_own_at _ rfl _ _ 30 rfl w.heap.size 9 i0 (.string ⟨#[]⟩) 1 16 Try.underlying30 hi hz0 hz1 hz2 rfl (by decide) _ _ _ rfl (hown.out.alloc _) ⟨w2.heap.size, 0, none⟩ 1 1 [strV ln] rfl rfl (cell_one_new _ _ _) (one_cell_str _) (by unfold maxLen; omega) (by omega) (by simp; omega) ?_; intro v' w1 hown' hgrow hnil hloc)
        have h9 := push_two hr2.out.2.1 hr2.out.2.2.1 hr2.out.2.2.2.1 hown' hgrow hloc hr2.out.2.2.2.2.2.2.1 hbz
        refine bodyPost_ret (results_five rfl _ _ _) rfl ?_
        rw [← Htk.out]
        exact ⟨_, _, rfl, h9.1, h9.2.1, h9.2.2.2⟩
      have hn := numP_lit hlit
      have ha := litP_at hlit
      have Hlit := Lib.hid (show rlitR (⟨ln.toArray⟩ : ByteArray).data.toList = (n, (a : Int)) from rlitR_some hlit)
      by_cases hg1 : 700 < n
      · rw [takeGo_great hnx hlit (.inl hg1)] at htk
        have Htk := Lib.hid htk
        clear hnx htk hf hlit
        go_wp2_with fail
        refine (rnext_any r _ (by omega)).mono ?_
        rintro e w2 ⟨rfl, hw⟩
        rw [Hnx.out]
        have hr2 := Lib.hid (hr.out.drew hw)
        clear hw hr
        go_wp2_with fail
        refine (rliteral_any ⟨ln.toArray⟩ _ (by rw [← size_list]; show ln.length < _; omega)).mono ?_
        rintro e w' ⟨rfl, rfl⟩
        rw [Hlit.out]
        go_wp2
        refine bodyPost_ret (results_five rfl _ _ _) rfl ?_
        rw [← Htk.out]
        exact ⟨_, _, rfl, OwnS.nil _ _, OwnS.nil _ _, hr2.out.2.2.2.2.2.2.1⟩
      by_cases hg2 : 3 < L.length
      · rw [takeGo_great hnx hlit (.inr hg2)] at htk
        have Htk := Lib.hid htk
        clear hnx htk hf hlit
        go_wp2_with fail
        refine (rnext_any r _ (by omega)).mono ?_
        rintro e w2 ⟨rfl, hw⟩
        rw [Hnx.out]
        have hr2 := Lib.hid (hr.out.drew hw)
        clear hw hr
        go_wp2_with fail
        refine (rliteral_any ⟨ln.toArray⟩ _ (by rw [← size_list]; show ln.length < _; omega)).mono ?_
        rintro e w' ⟨rfl, rfl⟩
        rw [Hlit.out]
        go_wp2
        refine bodyPost_ret (results_five rfl _ _ _) rfl ?_
        rw [← Htk.out]
        exact ⟨_, _, rfl, OwnS.nil _ _, OwnS.nil _ _, hr2.out.2.2.2.2.2.2.1⟩
      by_cases hg3 : (rest.length : Int) < n
      · rw [takeGo_short hnx hlit (by omega) hg3] at htk
        have Htk := Lib.hid htk
        clear hnx htk hf hlit
        go_wp2_with fail
        refine (rnext_any r _ (by omega)).mono ?_
        rintro e w2 ⟨rfl, hw⟩
        rw [Hnx.out]
        have hr2 := Lib.hid (hr.out.drew hw)
        clear hw hr
        go_wp2_with fail
        refine (rliteral_any ⟨ln.toArray⟩ _ (by rw [← size_list]; show ln.length < _; omega)).mono ?_
        rintro e w' ⟨rfl, rfl⟩
        rw [Hlit.out]
        go_wp2
        refine bodyPost_ret (results_five rfl _ _ _) rfl ?_
        rw [← Htk.out]
        exact ⟨_, _, rfl, OwnS.nil _ _, OwnS.nil _ _, hr2.out.2.2.2.2.2.2.1⟩
      · rw [takeGo_go hnx hlit (by omega) hg3] at htk
        have Htk := Lib.hid htk
        clear hnx htk hlit
        obtain ⟨m, rfl⟩ : ∃ m : Nat, n = m := ⟨n.toNat, by omega⟩
        go_wp2_with fail
        refine (rnext_any r _ (by omega)).mono ?_
        rintro e w2 ⟨rfl, hw⟩
        rw [Hnx.out]
        have hr2 := Lib.hid (hr.out.drew hw)
        clear hw hr
        go_wp2_with fail
        refine (rliteral_any ⟨ln.toArray⟩ _ (by rw [← size_list]; show ln.length < _; omega)).mono ?_
        rintro e w' ⟨rfl, rfl⟩
        rw [Hlit.out]
        have hown := Lib.hid hr2.out.2.1.row
        have hbz := hr2.out.2.2.2.2.2.2.1.size
        have hTL : T.length ≤ 4 := by rw [hr2.out.2.2.2.2.1]; exact hL4
        have tok1 : True := trivial
        go_wp2_with (first
          | ((at_builtin; have _t := tok1; refine wpList_append_own_at _ rfl _ _ 30 rfl w.heap.size 9 i0 (.string ⟨#[]⟩) 1 16 Try.underlying30 hi hz0 hz1 hz2 rfl (by decide) _ _ _ rfl (hown.out.alloc _) ⟨w2.heap.size, 0, none⟩ 1 1 [Value.string ((⟨ln.toArray⟩ : ByteArray).extract 0 a)] rfl rfl (cell_one_new _ _ _) (one_cell_bytes _) (by unfold maxLen; omega) (by omega) (by simp; omega) ?_; intro v1 w3 hown1 hgrow1 _ hloc1); rw [ext_take] at hown1; have h9 := Lib.hid (push_two (x := ln.take a) hr2.out.2.1 hr2.out.2.2.1 hr2.out.2.2.2.1 hown1 hgrow1 hloc1 hr2.out.2.2.2.2.2.2.1 hbz); have hbz3 := h9.out.2.2.2.size; clear tok1 hown1 hgrow1 hloc1)
          | ((at_builtin; have _t := h9; refine wpList_append_own_at _ rfl _ _ 30 rfl w.heap.size 9 i0 (.string ⟨#[]⟩) 1 16 Try.underlying30 hi hz0 hz1 hz2 rfl (by decide) _ _ _ rfl (h9.out.2.1.row.alloc _) ⟨w3.heap.size, 0, none⟩ 1 1 [Value.string ((⟨rest.toArray⟩ : ByteArray).extract 0 m)] rfl rfl (cell_one_new _ _ _) (one_cell_bytes _) (by unfold maxLen; omega) (by omega) (by simp; omega) ?_; intro v2 w4 hown2 hgrow2 _ hloc2); rw [ext_take] at hown2; have h10 := Lib.hid (push_two (x := rest.take m) h9.out.2.1 h9.out.1 h9.out.2.2.1.symm hown2 hgrow2 hloc2 h9.out.2.2.2 hbz3); clear hown2 hgrow2 hloc2))
        go_roundw
        case rel =>
          refine ⟨_, T ++ [ln.take a], L ++ [rest.take m], rfl, Lib.hid ⟨?_, h10.out.2.1, h10.out.1, h10.out.2.2.1.symm, ?_, ?_, h10.out.2.2.2, ?_⟩⟩
          · rw [ext_size]; show _ ≤ s.size; have : (⟨rest.toArray⟩ : ByteArray).size = rest.length := rfl; omega
          · simp; exact hr2.out.2.2.2.2.1
          · simp; omega
          · have := Htk.out
            rw [List.length_append, List.length_singleton, show 5 - (L.length + 1) = f by omega]
            rw [ext_drop_mk]
            exact this
        case measure => simp [lenOf]; omega
    · rw [takeGo_stop hnx hst] at htk
      have Hst : (st != 1) = true := by simpa using hst
      have Htk := Lib.hid htk
      clear hnx htk hf hst
      go_wp2_with fail
      refine (rnext_any r _ (by omega)).mono ?_
      rintro e w2 ⟨rfl, hw⟩
      rw [Hnx.out]
      have hr2 := Lib.hid (hr.out.drew hw)
      clear hw
      go_wp2
      refine bodyPost_ret (results_five rfl _ _ _) rfl ?_
      rw [← Htk.out]
      exact ⟨_, _, rfl, OwnS.nil _ _, OwnS.nil _ _, hr2.out.2.2.2.2.2.2.1⟩
end Go.Proofs.Ytmjmabpcpicemaa.LN

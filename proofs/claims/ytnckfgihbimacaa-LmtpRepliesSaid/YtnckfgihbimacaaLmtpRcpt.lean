/- What lmtp.recipient returns, for any state, text and users. Conditions: lengths, that the call owns the list of recipients, and that the cell of the library's MaxLen holds some int. -/
import Derived.Test.YtnckfgihbimacaaLmtpCmd
import Derived.Deep.AppendLies
namespace Go.Proofs.Ytnckfgihbimacaa.LM
open Go.RowKit Mailsack MM

theorem mem_mk {x : Bs} {xs : List Bs} : (⟨x.toArray⟩ : ByteArray) ∈ xs.map (fun y => (⟨y.toArray⟩ : ByteArray)) ↔ x ∈ xs := by
  constructor
  · intro h
    obtain ⟨y, hy, e⟩ := List.mem_map.1 h
    rw [← bytes_eq.1 e]; exact hy
  · intro h; exact List.mem_map.2 ⟨x, h, rfl⟩
theorem containsS_mk (xs : List Bs) (x : Bs) : Lib.containsS (xs.map (fun y => (⟨y.toArray⟩ : ByteArray))) ⟨x.toArray⟩ = decide (x ∈ xs) := by
  rw [Bool.eq_iff_iff, Lib.containsS_iff, decide_eq_true_eq]; exact mem_mk

theorem contains_any (v : Value) (xs : List Bs) (x : Bs) (B : Nat) (w : World) (h : RdS w B v xs) (hn : xs.length ≤ 9223372036854775807) :
    Calls Try.prog 24 #[v, strV x] w fun e w' => e = .returned (.bool (decide (x ∈ xs))) ∧ w' = w := by
  obtain ⟨A, c, rfl, hc, hcell⟩ := h
  by_cases h0 : xs.length = 0
  · have hx : xs = [] := List.eq_nil_of_length_eq_zero h0
    subst hx
    have := Try.slices_Contains_string_empty A c ⟨x.toArray⟩ w
    simpa using this
  · obtain ⟨b, off, rfl, _, hcell⟩ := hcell (by omega)
    have := Try.slices_Contains_string b off xs.length c (xs.map (fun y => (⟨y.toArray⟩ : ByteArray))) ⟨x.toArray⟩ w (by simp) hn (fun j hj => by
      have hj' : j < xs.length := by simpa using hj
      rw [hcell j xs[j] (List.getElem?_eq_getElem hj')]
      simp [List.getD_eq_getElem?_getD, List.getElem?_eq_getElem hj'])
    rw [List.take_of_length_le (by simp), containsS_mk] at this
    exact this

theorem infoL : (Try.prog.info? 9).map (fun i => (i.zero, i.size, i.bytes)) = some (some (.string ⟨#[]⟩), 1, 16) := by kernel_rfl

set_option maxHeartbeats 2000000 in
theorem rcpt_any (s : LSt) (A : Option Addr) (c base : Nat) (arg : ByteArray) (uv : Value) (us : List Bs) (m : Int) (w : World) (hown0 : OwnS w base (.slice A s.to.length c) s.to) (hbase : base ≤ w.heap.size) (hb0 : 0 < base) (hl : arg.size < 4294967281)
    (hus : RdS w w.heap.size uv us) (hun : us.length ≤ 9223372036854775807) (hm : w.cell? ⟨0, 0, none⟩ = some (.int .i64 m)) :
    Calls Try.prog 18 #[stV s (.slice A s.to.length c), .string arg, uv] w (LPost base w (rcptP s arg.data.toList us)) := by
  obtain ⟨i0, hi, hz0, hz1, hz2⟩ := info_parts infoL
  have hown := Lib.hid hown0
  have Hm := Lib.hid hm
  have Hus := Lib.hid hus
  have hgb : ∀ k, (Value.slice A s.to.length c).ownBlock = some k → k < w.heap.size := fun k hk => (World.ownsRow.lt hown0 k hk).2
  clear hown0 hm hus
  obtain ⟨hello, hasFrom, data, long, frm, body, to⟩ := s
  simp only at hown hgb ⊢
  cases hasFrom
  · have Hr := Lib.hid (show rcptP ⟨hello, false, data, long, frm, body, to⟩ arg.data.toList us = (⟨hello, false, data, long, frm, body, to⟩, rSequence) from rfl)
    go_enter Try.func18, Try.ntmps18
    go_wp2
    refine bodyPost_ret (v := .tuple #[stV ⟨hello, false, data, long, frm, body, to⟩ (.slice A to.length c), strV rSequence]) (by simp [results, Try.results18, go_sem, rSequence]) rfl ?_
    exact LPost.mk' Hr.out ((hown.out.alloc _).alloc _) (((Below.refl _ _).alloc hbase _).alloc (by simp; omega) _)
  rcases ha : addrP arg.data.toList [84, 79, 58] with _ | t
  · have Hr := Lib.hid (show rcptP ⟨hello, true, data, long, frm, body, to⟩ arg.data.toList us = (⟨hello, true, data, long, frm, body, to⟩, rSyntax) by unfold rcptP; rw [if_neg (by simp), ha])
    have Ha := Lib.hid (show addrR (addrP arg.data.toList (⟨#[84, 79, 58]⟩ : ByteArray).data.toList) = ([], false) by rw [show (⟨#[84, 79, 58]⟩ : ByteArray).data.toList = [84, 79, 58] from rfl, ha]; rfl)
    have Hcut := Lib.hid (show Lib.cut (⟨([] : Bs).toArray⟩ : ByteArray).data.toList (⟨#[64]⟩ : ByteArray).data.toList = ([], [], false) from rfl)
    clear ha
    go_enter Try.func18, Try.ntmps18
    go_wp2_with fail
    refine (address_any arg ⟨#[84, 79, 58]⟩ _ hl (by decide)).mono ?_
    rintro e w1 ⟨rfl, hb1⟩
    rw [Ha.out]
    have hk0 := blk_below (two_old w (.cells #[.bool hello, .bool true, .bool data, .bool long, strV frm, strV body, .slice A to.length c] 25) (.cells #[.bool false, .bool false, .bool false, .bool false, .string ⟨#[]⟩, .string ⟨#[]⟩, .slice none 0 0] 25)) hb1 (by rw [size_new, size_new]; omega)
    have hk1 := blk_below (two_new w (.cells #[.bool hello, .bool true, .bool data, .bool long, strV frm, strV body, .slice A to.length c] 25) (.cells #[.bool false, .bool false, .bool false, .bool false, .string ⟨#[]⟩, .string ⟨#[]⟩, .slice none 0 0] 25)) hb1 (by rw [size_new, size_new]; omega)
    have hB1 : Below base w w1 := (((Below.refl _ _).alloc hbase _).alloc (by simp; omega) _).trans (hb1.mono (by simp; omega))
    have hO := Lib.hid (((hown.out.alloc _).alloc _).below hb1)
    have kf : ∀ i, w1.frozen? ⟨w.heap.size, i, none⟩ = false := fun i => free_blk hk0 i
    have k0 : w1.cell? ⟨w.heap.size, 0, none⟩ = some (.bool hello) := cell_blk hk0 0
    have k1 : w1.cell? ⟨w.heap.size, 1, none⟩ = some (.bool true) := cell_blk hk0 1
    have k2 : w1.cell? ⟨w.heap.size, 2, none⟩ = some (.bool data) := cell_blk hk0 2
    have k3 : w1.cell? ⟨w.heap.size, 3, none⟩ = some (.bool long) := cell_blk hk0 3
    have k4 : w1.cell? ⟨w.heap.size, 4, none⟩ = some (strV frm) := cell_blk hk0 4
    have k5 : w1.cell? ⟨w.heap.size, 5, none⟩ = some (strV body) := cell_blk hk0 5
    have k6 : w1.cell? ⟨w.heap.size, 6, none⟩ = some (.slice A to.length c) := cell_blk hk0 6
    have rf : ∀ i, w1.frozen? ⟨w.heap.size + 1, i, none⟩ = false := fun i => free_blk hk1 i
    have r0 : w1.cell? ⟨w.heap.size + 1, 0, none⟩ = some (.bool false) := cell_blk hk1 0
    have r1 : w1.cell? ⟨w.heap.size + 1, 1, none⟩ = some (.bool false) := cell_blk hk1 1
    have r2 : w1.cell? ⟨w.heap.size + 1, 2, none⟩ = some (.bool false) := cell_blk hk1 2
    have r3 : w1.cell? ⟨w.heap.size + 1, 3, none⟩ = some (.bool false) := cell_blk hk1 3
    have r4 : w1.cell? ⟨w.heap.size + 1, 4, none⟩ = some (.string ⟨#[]⟩) := cell_blk hk1 4
    have r5 : w1.cell? ⟨w.heap.size + 1, 5, none⟩ = some (.string ⟨#[]⟩) := cell_blk hk1 5
    have r6 : w1.cell? ⟨w.heap.size + 1, 6, none⟩ = some (.slice none 0 0) := cell_blk hk1 6
    clear hk0 hk1 hb1
    have hm1 := Lib.hid ((hB1.cell hb0).trans Hm.out)
    go_wp2_with fail
    refine (Try.strings_Cut ⟨(([] : Bs)).toArray⟩ ⟨#[64]⟩ m _ (by show (([] : Bs)).length < _; decide) hm1.out).mono ?_
    rintro e w2 ⟨rfl, n2, rfl⟩
    rw [Hcut.out]
    go_wp2
    refine bodyPost_ret (v := .tuple #[stV ⟨hello, true, data, long, frm, body, to⟩ (.slice A to.length c), strV rSyntax]) (by simp [results, Try.results18, go_sem, rSyntax, r0, r1, r2, r3, r4, r5, r6]) rfl ?_
    exact LPost.mk' Hr.out (by repeat (first | with_reducible exact hO.out | with_reducible refine OwnS.drewN ?_ _ | with_reducible refine OwnS.setFar ?_ _ (fun k hk => by have := hgb k hk; simp; omega))) (by repeat (first | with_reducible exact hB1 | with_reducible refine below_drewN ?_ _ | with_reducible refine Below.setCell ?_ (by simp; omega) _))
  have Ha := Lib.hid (show addrR (addrP arg.data.toList (⟨#[84, 79, 58]⟩ : ByteArray).data.toList) = (t, true) by rw [show (⟨#[84, 79, 58]⟩ : ByteArray).data.toList = [84, 79, 58] from rfl, ha]; rfl)
  have htl : t.length < 4294967281 := Nat.lt_of_le_of_lt (addrP_len ha) (by rw [size_list]; exact hl)
  rcases hcut : Lib.cut t [64] with ⟨nm, r2, b2⟩
  have hnl : nm.length < 4294967281 := Nat.lt_of_le_of_lt (cut_len hcut) htl
  have Hcut := Lib.hid (show Lib.cut (⟨t.toArray⟩ : ByteArray).data.toList (⟨#[64]⟩ : ByteArray).data.toList = (nm, r2, b2) from hcut)
  have hR0 : rcptP ⟨hello, true, data, long, frm, body, to⟩ arg.data.toList us = (if userOk nm = false then (⟨hello, true, data, long, frm, body, to⟩, rSyntax) else if nm ∉ us then (⟨hello, true, data, long, frm, body, to⟩, rNoUser) else if 4 ≤ to.length then (⟨hello, true, data, long, frm, body, to⟩, rTooMany) else (⟨hello, true, data, long, frm, body, to ++ [nm]⟩, rFine)) := by
    unfold rcptP; rw [if_neg (by simp), ha]; simp only [hcut]
  clear ha hcut
  rcases hu : userOk nm with _ | _
  · have Hr := Lib.hid (hR0.trans (by rw [if_pos hu]))
    have Hu := Lib.hid (show userOk (⟨nm.toArray⟩ : ByteArray).data.toList = false from hu)
    clear hR0 hu
    go_enter Try.func18, Try.ntmps18
    go_wp2_with fail
    refine (address_any arg ⟨#[84, 79, 58]⟩ _ hl (by decide)).mono ?_
    rintro e w1 ⟨rfl, hb1⟩
    rw [Ha.out]
    have hk0 := blk_below (two_old w (.cells #[.bool hello, .bool true, .bool data, .bool long, strV frm, strV body, .slice A to.length c] 25) (.cells #[.bool false, .bool false, .bool false, .bool false, .string ⟨#[]⟩, .string ⟨#[]⟩, .slice none 0 0] 25)) hb1 (by rw [size_new, size_new]; omega)
    have hk1 := blk_below (two_new w (.cells #[.bool hello, .bool true, .bool data, .bool long, strV frm, strV body, .slice A to.length c] 25) (.cells #[.bool false, .bool false, .bool false, .bool false, .string ⟨#[]⟩, .string ⟨#[]⟩, .slice none 0 0] 25)) hb1 (by rw [size_new, size_new]; omega)
    have hB1 : Below base w w1 := (((Below.refl _ _).alloc hbase _).alloc (by simp; omega) _).trans (hb1.mono (by simp; omega))
    have hO := Lib.hid (((hown.out.alloc _).alloc _).below hb1)
    have kf : ∀ i, w1.frozen? ⟨w.heap.size, i, none⟩ = false := fun i => free_blk hk0 i
    have k0 : w1.cell? ⟨w.heap.size, 0, none⟩ = some (.bool hello) := cell_blk hk0 0
    have k1 : w1.cell? ⟨w.heap.size, 1, none⟩ = some (.bool true) := cell_blk hk0 1
    have k2 : w1.cell? ⟨w.heap.size, 2, none⟩ = some (.bool data) := cell_blk hk0 2
    have k3 : w1.cell? ⟨w.heap.size, 3, none⟩ = some (.bool long) := cell_blk hk0 3
    have k4 : w1.cell? ⟨w.heap.size, 4, none⟩ = some (strV frm) := cell_blk hk0 4
    have k5 : w1.cell? ⟨w.heap.size, 5, none⟩ = some (strV body) := cell_blk hk0 5
    have k6 : w1.cell? ⟨w.heap.size, 6, none⟩ = some (.slice A to.length c) := cell_blk hk0 6
    have rf : ∀ i, w1.frozen? ⟨w.heap.size + 1, i, none⟩ = false := fun i => free_blk hk1 i
    have r0 : w1.cell? ⟨w.heap.size + 1, 0, none⟩ = some (.bool false) := cell_blk hk1 0
    have r1 : w1.cell? ⟨w.heap.size + 1, 1, none⟩ = some (.bool false) := cell_blk hk1 1
    have r2 : w1.cell? ⟨w.heap.size + 1, 2, none⟩ = some (.bool false) := cell_blk hk1 2
    have r3 : w1.cell? ⟨w.heap.size + 1, 3, none⟩ = some (.bool false) := cell_blk hk1 3
    have r4 : w1.cell? ⟨w.heap.size + 1, 4, none⟩ = some (.string ⟨#[]⟩) := cell_blk hk1 4
    have r5 : w1.cell? ⟨w.heap.size + 1, 5, none⟩ = some (.string ⟨#[]⟩) := cell_blk hk1 5
    have r6 : w1.cell? ⟨w.heap.size + 1, 6, none⟩ = some (.slice none 0 0) := cell_blk hk1 6
    clear hk0 hk1 hb1
    have hm1 := Lib.hid ((hB1.cell hb0).trans Hm.out)
    go_wp2_with fail
    refine (Try.strings_Cut ⟨(t).toArray⟩ ⟨#[64]⟩ m _ (by show (t).length < _; omega) hm1.out).mono ?_
    rintro e w2 ⟨rfl, n2, rfl⟩
    rw [Hcut.out]
    go_wp2_with fail
    refine (rightUser_any ⟨nm.toArray⟩ _ (by show nm.length < _; omega)).mono ?_
    rintro e w3 ⟨rfl, rfl⟩
    rw [Hu.out]
    go_wp2
    refine bodyPost_ret (v := .tuple #[stV ⟨hello, true, data, long, frm, body, to⟩ (.slice A to.length c), strV rSyntax]) (by simp [results, Try.results18, go_sem, rSyntax, r0, r1, r2, r3, r4, r5, r6]) rfl ?_
    exact LPost.mk' Hr.out (by repeat (first | with_reducible exact hO.out | with_reducible refine OwnS.drewN ?_ _ | with_reducible refine OwnS.setFar ?_ _ (fun k hk => by have := hgb k hk; simp; omega))) (by repeat (first | with_reducible exact hB1 | with_reducible refine below_drewN ?_ _ | with_reducible refine Below.setCell ?_ (by simp; omega) _))
  rw [if_neg (by rw [hu]; decide)] at hR0
  have Hu := Lib.hid (show userOk (⟨nm.toArray⟩ : ByteArray).data.toList = true from hu)
  clear hu
  by_cases hin : nm ∈ us
  · have Hc := Lib.hid (show decide (nm ∈ us) = true from decide_eq_true hin)
    rw [if_neg (by simpa using hin)] at hR0
    clear hin
    by_cases h4 : 4 ≤ to.length
    · have Hr := Lib.hid (hR0.trans (by rw [if_pos h4]))
      clear hR0
      go_enter Try.func18, Try.ntmps18
      go_wp2_with fail
      refine (address_any arg ⟨#[84, 79, 58]⟩ _ hl (by decide)).mono ?_
      rintro e w1 ⟨rfl, hb1⟩
      rw [Ha.out]
      have hk0 := blk_below (two_old w (.cells #[.bool hello, .bool true, .bool data, .bool long, strV frm, strV body, .slice A to.length c] 25) (.cells #[.bool false, .bool false, .bool false, .bool false, .string ⟨#[]⟩, .string ⟨#[]⟩, .slice none 0 0] 25)) hb1 (by rw [size_new, size_new]; omega)
      have hk1 := blk_below (two_new w (.cells #[.bool hello, .bool true, .bool data, .bool long, strV frm, strV body, .slice A to.length c] 25) (.cells #[.bool false, .bool false, .bool false, .bool false, .string ⟨#[]⟩, .string ⟨#[]⟩, .slice none 0 0] 25)) hb1 (by rw [size_new, size_new]; omega)
      have hB1 : Below base w w1 := (((Below.refl _ _).alloc hbase _).alloc (by simp; omega) _).trans (hb1.mono (by simp; omega))
      have hO := Lib.hid (((hown.out.alloc _).alloc _).below hb1)
      have kf : ∀ i, w1.frozen? ⟨w.heap.size, i, none⟩ = false := fun i => free_blk hk0 i
      have k0 : w1.cell? ⟨w.heap.size, 0, none⟩ = some (.bool hello) := cell_blk hk0 0
      have k1 : w1.cell? ⟨w.heap.size, 1, none⟩ = some (.bool true) := cell_blk hk0 1
      have k2 : w1.cell? ⟨w.heap.size, 2, none⟩ = some (.bool data) := cell_blk hk0 2
      have k3 : w1.cell? ⟨w.heap.size, 3, none⟩ = some (.bool long) := cell_blk hk0 3
      have k4 : w1.cell? ⟨w.heap.size, 4, none⟩ = some (strV frm) := cell_blk hk0 4
      have k5 : w1.cell? ⟨w.heap.size, 5, none⟩ = some (strV body) := cell_blk hk0 5
      have k6 : w1.cell? ⟨w.heap.size, 6, none⟩ = some (.slice A to.length c) := cell_blk hk0 6
      have rf : ∀ i, w1.frozen? ⟨w.heap.size + 1, i, none⟩ = false := fun i => free_blk hk1 i
      have r0 : w1.cell? ⟨w.heap.size + 1, 0, none⟩ = some (.bool false) := cell_blk hk1 0
      have r1 : w1.cell? ⟨w.heap.size + 1, 1, none⟩ = some (.bool false) := cell_blk hk1 1
      have r2 : w1.cell? ⟨w.heap.size + 1, 2, none⟩ = some (.bool false) := cell_blk hk1 2
      have r3 : w1.cell? ⟨w.heap.size + 1, 3, none⟩ = some (.bool false) := cell_blk hk1 3
      have r4 : w1.cell? ⟨w.heap.size + 1, 4, none⟩ = some (.string ⟨#[]⟩) := cell_blk hk1 4
      have r5 : w1.cell? ⟨w.heap.size + 1, 5, none⟩ = some (.string ⟨#[]⟩) := cell_blk hk1 5
      have r6 : w1.cell? ⟨w.heap.size + 1, 6, none⟩ = some (.slice none 0 0) := cell_blk hk1 6
      have Husk := Lib.hid ((Hus.out.below (((Below.refl w.heap.size w).alloc (Nat.le_refl _) _).alloc (by simp) _) (Nat.le_refl _)).below hb1 (by simp; omega))
      clear hk0 hk1 hb1
      have hm1 := Lib.hid ((hB1.cell hb0).trans Hm.out)
      go_wp2_with fail
      refine (Try.strings_Cut ⟨(t).toArray⟩ ⟨#[64]⟩ m _ (by show (t).length < _; omega) hm1.out).mono ?_
      rintro e w2 ⟨rfl, n2, rfl⟩
      rw [Hcut.out]
      go_wp2_with fail
      refine (rightUser_any ⟨nm.toArray⟩ _ (by show nm.length < _; omega)).mono ?_
      rintro e w3 ⟨rfl, rfl⟩
      rw [Hu.out]
      go_wp2_with fail
      refine (contains_any uv us nm w.heap.size _ (by exact Husk.out) hun).mono ?_
      rintro e w3 ⟨rfl, rfl⟩
      rw [Hc.out]
      go_wp2
      refine bodyPost_ret (v := .tuple #[stV ⟨hello, true, data, long, frm, body, to⟩ (.slice A to.length c), strV rTooMany]) (by simp [results, Try.results18, go_sem, rTooMany, r0, r1, r2, r3, r4, r5, r6]) rfl ?_
      exact LPost.mk' Hr.out (by repeat (first | with_reducible exact hO.out | with_reducible refine OwnS.drewN ?_ _ | with_reducible refine OwnS.setFar ?_ _ (fun k hk => by have := hgb k hk; simp; omega))) (by repeat (first | with_reducible exact hB1 | with_reducible refine below_drewN ?_ _ | with_reducible refine Below.setCell ?_ (by simp; omega) _))
    · have Hr := Lib.hid (hR0.trans (by rw [if_neg h4]))
      clear hR0
      go_enter Try.func18, Try.ntmps18
      go_wp2_with fail
      refine (address_any arg ⟨#[84, 79, 58]⟩ _ hl (by decide)).mono ?_
      rintro e w1 ⟨rfl, hb1⟩
      rw [Ha.out]
      have hk0 := blk_below (two_old w (.cells #[.bool hello, .bool true, .bool data, .bool long, strV frm, strV body, .slice A to.length c] 25) (.cells #[.bool false, .bool false, .bool false, .bool false, .string ⟨#[]⟩, .string ⟨#[]⟩, .slice none 0 0] 25)) hb1 (by rw [size_new, size_new]; omega)
      have hk1 := blk_below (two_new w (.cells #[.bool hello, .bool true, .bool data, .bool long, strV frm, strV body, .slice A to.length c] 25) (.cells #[.bool false, .bool false, .bool false, .bool false, .string ⟨#[]⟩, .string ⟨#[]⟩, .slice none 0 0] 25)) hb1 (by rw [size_new, size_new]; omega)
      have hB1 : Below base w w1 := (((Below.refl _ _).alloc hbase _).alloc (by simp; omega) _).trans (hb1.mono (by simp; omega))
      have hO := Lib.hid (((hown.out.alloc _).alloc _).below hb1)
      have kf : ∀ i, w1.frozen? ⟨w.heap.size, i, none⟩ = false := fun i => free_blk hk0 i
      have k0 : w1.cell? ⟨w.heap.size, 0, none⟩ = some (.bool hello) := cell_blk hk0 0
      have k1 : w1.cell? ⟨w.heap.size, 1, none⟩ = some (.bool true) := cell_blk hk0 1
      have k2 : w1.cell? ⟨w.heap.size, 2, none⟩ = some (.bool data) := cell_blk hk0 2
      have k3 : w1.cell? ⟨w.heap.size, 3, none⟩ = some (.bool long) := cell_blk hk0 3
      have k4 : w1.cell? ⟨w.heap.size, 4, none⟩ = some (strV frm) := cell_blk hk0 4
      have k5 : w1.cell? ⟨w.heap.size, 5, none⟩ = some (strV body) := cell_blk hk0 5
      have k6 : w1.cell? ⟨w.heap.size, 6, none⟩ = some (.slice A to.length c) := cell_blk hk0 6
      have rf : ∀ i, w1.frozen? ⟨w.heap.size + 1, i, none⟩ = false := fun i => free_blk hk1 i
      have r0 : w1.cell? ⟨w.heap.size + 1, 0, none⟩ = some (.bool false) := cell_blk hk1 0
      have r1 : w1.cell? ⟨w.heap.size + 1, 1, none⟩ = some (.bool false) := cell_blk hk1 1
      have r2 : w1.cell? ⟨w.heap.size + 1, 2, none⟩ = some (.bool false) := cell_blk hk1 2
      have r3 : w1.cell? ⟨w.heap.size + 1, 3, none⟩ = some (.bool false) := cell_blk hk1 3
      have r4 : w1.cell? ⟨w.heap.size + 1, 4, none⟩ = some (.string ⟨#[]⟩) := cell_blk hk1 4
      have r5 : w1.cell? ⟨w.heap.size + 1, 5, none⟩ = some (.string ⟨#[]⟩) := cell_blk hk1 5
      have r6 : w1.cell? ⟨w.heap.size + 1, 6, none⟩ = some (.slice none 0 0) := cell_blk hk1 6
      have Husk := Lib.hid ((Hus.out.below (((Below.refl w.heap.size w).alloc (Nat.le_refl _) _).alloc (by simp) _) (Nat.le_refl _)).below hb1 (by simp; omega))
      have hz1b : w.heap.size + 2 ≤ w1.heap.size := by have := hb1.size; simp at this; omega
      clear hk0 hk1 hb1
      have hm1 := Lib.hid ((hB1.cell hb0).trans Hm.out)
      go_wp2_with fail
      refine (Try.strings_Cut ⟨(t).toArray⟩ ⟨#[64]⟩ m _ (by show (t).length < _; omega) hm1.out).mono ?_
      rintro e w2 ⟨rfl, n2, rfl⟩
      rw [Hcut.out]
      go_wp2_with fail
      refine (rightUser_any ⟨nm.toArray⟩ _ (by show nm.length < _; omega)).mono ?_
      rintro e w3 ⟨rfl, rfl⟩
      rw [Hu.out]
      go_wp2_with fail
      refine (contains_any uv us nm w.heap.size _ (by exact Husk.out) hun).mono ?_
      rintro e w3 ⟨rfl, rfl⟩
      rw [Hc.out]
      go_upto_region 11 with fail
      have k0 : (w1.drewN n2).cell? ⟨w.heap.size, 0, none⟩ = some (.bool hello) := k0
      have k1 : (w1.drewN n2).cell? ⟨w.heap.size, 1, none⟩ = some (.bool true) := k1
      have k2 : (w1.drewN n2).cell? ⟨w.heap.size, 2, none⟩ = some (.bool data) := k2
      have k3 : (w1.drewN n2).cell? ⟨w.heap.size, 3, none⟩ = some (.bool long) := k3
      have k4 : (w1.drewN n2).cell? ⟨w.heap.size, 4, none⟩ = some (strV frm) := k4
      have k5 : (w1.drewN n2).cell? ⟨w.heap.size, 5, none⟩ = some (strV body) := k5
      have k6 : (w1.drewN n2).cell? ⟨w.heap.size, 6, none⟩ = some (.slice A to.length c) := k6
      have r0 : (w1.drewN n2).cell? ⟨w.heap.size + 1, 0, none⟩ = some (.bool false) := r0
      have r1 : (w1.drewN n2).cell? ⟨w.heap.size + 1, 1, none⟩ = some (.bool false) := r1
      have r2 : (w1.drewN n2).cell? ⟨w.heap.size + 1, 2, none⟩ = some (.bool false) := r2
      have r3 : (w1.drewN n2).cell? ⟨w.heap.size + 1, 3, none⟩ = some (.bool false) := r3
      have r4 : (w1.drewN n2).cell? ⟨w.heap.size + 1, 4, none⟩ = some (.string ⟨#[]⟩) := r4
      have r5 : (w1.drewN n2).cell? ⟨w.heap.size + 1, 5, none⟩ = some (.string ⟨#[]⟩) := r5
      have r6 : (w1.drewN n2).cell? ⟨w.heap.size + 1, 6, none⟩ = some (.slice none 0 0) := r6
      have kf : ∀ i, (w1.drewN n2).frozen? ⟨w.heap.size, i, none⟩ = false := kf
      have rf : ∀ i, (w1.drewN n2).frozen? ⟨w.heap.size + 1, i, none⟩ = false := rf
      have hO : Hid (OwnS (w1.drewN n2) base (.slice A to.length c) to) := hO
      have hB1 : Below base w (w1.drewN n2) := below_drewN hB1 n2
      have hz1b : w.heap.size + 2 ≤ (w1.drewN n2).heap.size := hz1b
      generalize w1.drewN n2 = w4 at k0 k1 k2 k3 k4 k5 k6 r0 r1 r2 r3 r4 r5 r6 kf rf hO hB1 hz1b ⊢
      have hbz4 := hB1.size
      go_upto_region 12 with (at_builtin; refine wpList_append_lies _ rfl _ _ 22 rfl base 9 i0 (.string ⟨#[]⟩) 1 16 Try.underlying22 hi hz0 hz1 hz2 rfl (by decide) _ _ _ rfl (World.ownsRow.alloc hO.out _) ⟨w4.heap.size, 0, none⟩ 1 1 [strV nm] rfl rfl (cell_one_new _ _ _) (one_cell_str _) (by decide) (by unfold maxLen; omega) (by omega) (by simp; omega) _ rfl ?_; intro g cap w5 hown1 hgrow1 hloc1 _; have far : ∀ b i, (b = w.heap.size ∨ b = w.heap.size + 1) → w5.cell? ⟨b, i, none⟩ = w4.cell? ⟨b, i, none⟩ ∧ w5.frozen? ⟨b, i, none⟩ = w4.frozen? ⟨b, i, none⟩ := (fun b i hb => ⟨(hgrow1.cell_far ⟨b, i, none⟩ (by rw [size_new]; show b < _; omega) (fun e => by have := hgb b e.symm; omega)).trans (World.cell?_alloc_lt w4 _ _ (by show b < _; omega)), (hgrow1.frozen_far ⟨b, i, none⟩ (by rw [size_new]; show b < _; omega) (fun e => by have := hgb b e.symm; omega)).trans (frozen_alloc w4 _ _ (by show b < _; omega))⟩); have k0 := (far _ 0 (.inl rfl)).1.trans k0; have k1 := (far _ 1 (.inl rfl)).1.trans k1; have k2 := (far _ 2 (.inl rfl)).1.trans k2; have k3 := (far _ 3 (.inl rfl)).1.trans k3; have k4 := (far _ 4 (.inl rfl)).1.trans k4; have k5 := (far _ 5 (.inl rfl)).1.trans k5; have k6 := (far _ 6 (.inl rfl)).1.trans k6; have r0 := (far _ 0 (.inr rfl)).1.trans r0; have r1 := (far _ 1 (.inr rfl)).1.trans r1; have r2 := (far _ 2 (.inr rfl)).1.trans r2; have r3 := (far _ 3 (.inr rfl)).1.trans r3; have r4 := (far _ 4 (.inr rfl)).1.trans r4; have r5 := (far _ 5 (.inr rfl)).1.trans r5; have r6 := (far _ 6 (.inr rfl)).1.trans r6; have kf := (fun i => (far _ i (.inl rfl)).2.trans (kf i)); have rf := (fun i => (far _ i (.inr rfl)).2.trans (rf i)); have h9 := Lib.hid (push_one (x := nm) hO.out hown1 hgrow1 (loc_of hloc1) hB1 (by omega)); clear far hown1 hgrow1 hloc1)
      have hgb5 : ∀ k, (Value.slice (some ⟨g, 0, none⟩) (to.length + 1) cap).ownBlock = some k → k ≠ w.heap.size ∧ k ≠ w.heap.size + 1 := (fun k hk => by
        rcases h9.out.2.2 k hk with h | h
        · have := hgb k h; omega
        · omega)
      have hB5 := h9.out.2.1
      go_wp2
      refine bodyPost_ret (v := .tuple #[stV ⟨hello, true, data, long, frm, body, to ++ [nm]⟩ (.slice (some ⟨g, 0, none⟩) (to.length + 1) cap), strV rFine]) (by simp [results, Try.results18, go_sem, rFine, r0, r1, r2, r3, r4, r5, r6]) rfl ?_
      exact LPost.mk' Hr.out (by repeat (first | with_reducible exact h9.out.1 | with_reducible refine OwnS.setFar ?_ _ (fun k hk => by have := hgb5 k hk; simp; omega))) (by repeat (first | with_reducible exact hB5 | with_reducible refine Below.setCell ?_ (by simp; omega) _))
  · have Hr := Lib.hid (hR0.trans (by rw [if_pos hin]))
    have Hc := Lib.hid (show decide (nm ∈ us) = false from decide_eq_false hin)
    clear hR0 hin
    go_enter Try.func18, Try.ntmps18
    go_wp2_with fail
    refine (address_any arg ⟨#[84, 79, 58]⟩ _ hl (by decide)).mono ?_
    rintro e w1 ⟨rfl, hb1⟩
    rw [Ha.out]
    have hk0 := blk_below (two_old w (.cells #[.bool hello, .bool true, .bool data, .bool long, strV frm, strV body, .slice A to.length c] 25) (.cells #[.bool false, .bool false, .bool false, .bool false, .string ⟨#[]⟩, .string ⟨#[]⟩, .slice none 0 0] 25)) hb1 (by rw [size_new, size_new]; omega)
    have hk1 := blk_below (two_new w (.cells #[.bool hello, .bool true, .bool data, .bool long, strV frm, strV body, .slice A to.length c] 25) (.cells #[.bool false, .bool false, .bool false, .bool false, .string ⟨#[]⟩, .string ⟨#[]⟩, .slice none 0 0] 25)) hb1 (by rw [size_new, size_new]; omega)
    have hB1 : Below base w w1 := (((Below.refl _ _).alloc hbase _).alloc (by simp; omega) _).trans (hb1.mono (by simp; omega))
    have hO := Lib.hid (((hown.out.alloc _).alloc _).below hb1)
    have kf : ∀ i, w1.frozen? ⟨w.heap.size, i, none⟩ = false := fun i => free_blk hk0 i
    have k0 : w1.cell? ⟨w.heap.size, 0, none⟩ = some (.bool hello) := cell_blk hk0 0
    have k1 : w1.cell? ⟨w.heap.size, 1, none⟩ = some (.bool true) := cell_blk hk0 1
    have k2 : w1.cell? ⟨w.heap.size, 2, none⟩ = some (.bool data) := cell_blk hk0 2
    have k3 : w1.cell? ⟨w.heap.size, 3, none⟩ = some (.bool long) := cell_blk hk0 3
    have k4 : w1.cell? ⟨w.heap.size, 4, none⟩ = some (strV frm) := cell_blk hk0 4
    have k5 : w1.cell? ⟨w.heap.size, 5, none⟩ = some (strV body) := cell_blk hk0 5
    have k6 : w1.cell? ⟨w.heap.size, 6, none⟩ = some (.slice A to.length c) := cell_blk hk0 6
    have rf : ∀ i, w1.frozen? ⟨w.heap.size + 1, i, none⟩ = false := fun i => free_blk hk1 i
    have r0 : w1.cell? ⟨w.heap.size + 1, 0, none⟩ = some (.bool false) := cell_blk hk1 0
    have r1 : w1.cell? ⟨w.heap.size + 1, 1, none⟩ = some (.bool false) := cell_blk hk1 1
    have r2 : w1.cell? ⟨w.heap.size + 1, 2, none⟩ = some (.bool false) := cell_blk hk1 2
    have r3 : w1.cell? ⟨w.heap.size + 1, 3, none⟩ = some (.bool false) := cell_blk hk1 3
    have r4 : w1.cell? ⟨w.heap.size + 1, 4, none⟩ = some (.string ⟨#[]⟩) := cell_blk hk1 4
    have r5 : w1.cell? ⟨w.heap.size + 1, 5, none⟩ = some (.string ⟨#[]⟩) := cell_blk hk1 5
    have r6 : w1.cell? ⟨w.heap.size + 1, 6, none⟩ = some (.slice none 0 0) := cell_blk hk1 6
    have Husk := Lib.hid ((Hus.out.below (((Below.refl w.heap.size w).alloc (Nat.le_refl _) _).alloc (by simp) _) (Nat.le_refl _)).below hb1 (by simp; omega))
    clear hk0 hk1 hb1
    have hm1 := Lib.hid ((hB1.cell hb0).trans Hm.out)
    go_wp2_with fail
    refine (Try.strings_Cut ⟨(t).toArray⟩ ⟨#[64]⟩ m _ (by show (t).length < _; omega) hm1.out).mono ?_
    rintro e w2 ⟨rfl, n2, rfl⟩
    rw [Hcut.out]
    go_wp2_with fail
    refine (rightUser_any ⟨nm.toArray⟩ _ (by show nm.length < _; omega)).mono ?_
    rintro e w3 ⟨rfl, rfl⟩
    rw [Hu.out]
    go_wp2_with fail
    refine (contains_any uv us nm w.heap.size _ (by exact Husk.out) hun).mono ?_
    rintro e w3 ⟨rfl, rfl⟩
    rw [Hc.out]
    go_wp2
    refine bodyPost_ret (v := .tuple #[stV ⟨hello, true, data, long, frm, body, to⟩ (.slice A to.length c), strV rNoUser]) (by simp [results, Try.results18, go_sem, rNoUser, r0, r1, r2, r3, r4, r5, r6]) rfl ?_
    exact LPost.mk' Hr.out (by repeat (first | with_reducible exact hO.out | with_reducible refine OwnS.drewN ?_ _ | with_reducible refine OwnS.setFar ?_ _ (fun k hk => by have := hgb k hk; simp; omega))) (by repeat (first | with_reducible exact hB1 | with_reducible refine below_drewN ?_ _ | with_reducible refine Below.setCell ?_ (by simp; omega) _))
end Go.Proofs.Ytnckfgihbimacaa.LM

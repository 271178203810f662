/- What lmtp.Ended, Done, receive and simple return, for any state and line. No conditions but lengths. -/
import Derived.Test.YtnckfgihbimacaaLmtpPlain
import Derived.Test.YtnckfgihbimacaaMem
import Derived.Test.YtnckfgihbimacaaShelf
import Derived.WalkLawsBesides
import Derived.WalkSpells
import Derived.Deep.QuietTactic
import Derived.BigQuiet
import Derived.Deep.RegionWith
import Derived.Deep.RegionLaw
import Derived.Deep.Cut
namespace Go.Proofs.Ytnckfgihbimacaa.LM
open Go.RowKit Mailsack MM

theorem list_dec (a b : Bs) : (a == b) = decide (a = b) := by rw [Bool.eq_iff_iff]; simp

/-- a state as a value: its list of recipients is the slice value tv -/
abbrev stV (s : LSt) (tv : Value) : Value := .agg #[.bool s.hello, .bool s.hasFrom, .bool s.data, .bool s.long, strV s.frm, strV s.body, tv]

set_option maxHeartbeats 400000 in
theorem ended_any (s : LSt) (A : Option Addr) (n c : Nat) (line : ByteArray) (w : World) :
    Calls Try.prog 8 #[stV s (.slice A n c), .string line] w fun e w' => e = .returned (.bool (endedP s line.data.toList)) ∧ Below w.heap.size w w' := by
  obtain ⟨h, f, d, l, fr, bo, to⟩ := s
  cases d
  · rw [show endedP ⟨h, f, false, l, fr, bo, to⟩ line.data.toList = false from rfl]
    go_enter Try.func8, Try.ntmps8
    go_wp2
    go_ret
    exact ⟨rfl, (Below.refl _ _).alloc (Nat.le_refl _) _⟩
  · rw [show endedP ⟨h, f, true, l, fr, bo, to⟩ line.data.toList = decide (line.data.toList = [46]) from rfl]
    go_enter Try.func8, Try.ntmps8
    go_wp2
    go_ret
    refine ⟨?_, (Below.refl _ _).alloc (Nat.le_refl _) _⟩
    rw [← list_dec, ← ByteArray.toList_eq]
    rfl

set_option maxHeartbeats 400000 in
theorem done_any (s : LSt) (A : Option Addr) (n c : Nat) (w : World) :
    Calls Try.prog 9 #[stV s (.slice A n c)] w fun e w' => e = .returned (stV (doneP s) (.slice none 0 0)) ∧ Below w.heap.size w w' := by
  obtain ⟨h, f, d, l, fr, bo, to⟩ := s
  go_enter Try.func9, Try.ntmps9
  go_wp2
  refine bodyPost_ret (v := .agg #[.bool h, .bool false, .bool false, .bool false, strV [], strV [], .slice none 0 0]) (by simp [results, Try.results9, go_sem]) rfl ⟨rfl, ?_⟩
  exact ((Below.refl _ _).alloc (Nat.le_refl _) _).alloc (by simp) _

set_option maxHeartbeats 2000000 in
set_option maxRecDepth 100000 in
theorem receive_any (s : LSt) (A : Option Addr) (n c : Nat) (line : ByteArray) (w : World) (hb : s.body.length ≤ 1000000) (hl : line.size ≤ 1000000) :
    Calls Try.prog 14 #[stV s (.slice A n c), .string line] w fun e w' => e = .returned (stV (receiveP s line.data.toList) (.slice A n c)) ∧ Below w.heap.size w w' := by
  by_cases he : endedP s line.data.toList = true
  · rw [show receiveP s line.data.toList = s from by unfold receiveP; rw [if_pos he]]
    have He := Lib.hid he
    clear he
    go_enter Try.func14, Try.ntmps14
    go_wp2_with fail
    refine (ended_any s A n c line _).mono ?_
    rintro e w1 ⟨rfl, hb1⟩
    rw [He.out]
    have hk0 := blk_below (two_old w (.cells #[.bool s.hello, .bool s.hasFrom, .bool s.data, .bool s.long, strV s.frm, strV s.body, .slice A n c] 25) (.cells #[.bool false, .bool false, .bool false, .bool false, .string ⟨#[]⟩, .string ⟨#[]⟩, .slice none 0 0] 25)) hb1 (by rw [size_new, size_new]; omega)
    have hk1 := blk_below (two_new w (.cells #[.bool s.hello, .bool s.hasFrom, .bool s.data, .bool s.long, strV s.frm, strV s.body, .slice A n c] 25) (.cells #[.bool false, .bool false, .bool false, .bool false, .string ⟨#[]⟩, .string ⟨#[]⟩, .slice none 0 0] 25)) hb1 (by rw [size_new, size_new]; omega)
    have hB : Below w.heap.size w w1 := (((Below.refl _ _).alloc (Nat.le_refl _) _).alloc (by simp) _).trans (hb1.mono (by simp; omega))
    have kf : ∀ i, w1.frozen? ⟨w.heap.size, i, none⟩ = false := fun i => free_blk hk0 i
    have k0 : w1.cell? ⟨w.heap.size, 0, none⟩ = some (.bool s.hello) := cell_blk hk0 0
    have k1 : w1.cell? ⟨w.heap.size, 1, none⟩ = some (.bool s.hasFrom) := cell_blk hk0 1
    have k2 : w1.cell? ⟨w.heap.size, 2, none⟩ = some (.bool s.data) := cell_blk hk0 2
    have k3 : w1.cell? ⟨w.heap.size, 3, none⟩ = some (.bool s.long) := cell_blk hk0 3
    have k4 : w1.cell? ⟨w.heap.size, 4, none⟩ = some (strV s.frm) := cell_blk hk0 4
    have k5 : w1.cell? ⟨w.heap.size, 5, none⟩ = some (strV s.body) := cell_blk hk0 5
    have k6 : w1.cell? ⟨w.heap.size, 6, none⟩ = some (.slice A n c) := cell_blk hk0 6
    have rf : ∀ i, w1.frozen? ⟨w.heap.size + 1, i, none⟩ = false := fun i => free_blk hk1 i
    have r0 : w1.cell? ⟨w.heap.size + 1, 0, none⟩ = some (.bool false) := cell_blk hk1 0
    have r1 : w1.cell? ⟨w.heap.size + 1, 1, none⟩ = some (.bool false) := cell_blk hk1 1
    have r2 : w1.cell? ⟨w.heap.size + 1, 2, none⟩ = some (.bool false) := cell_blk hk1 2
    have r3 : w1.cell? ⟨w.heap.size + 1, 3, none⟩ = some (.bool false) := cell_blk hk1 3
    have r4 : w1.cell? ⟨w.heap.size + 1, 4, none⟩ = some (.string ⟨#[]⟩) := cell_blk hk1 4
    have r5 : w1.cell? ⟨w.heap.size + 1, 5, none⟩ = some (.string ⟨#[]⟩) := cell_blk hk1 5
    have r6 : w1.cell? ⟨w.heap.size + 1, 6, none⟩ = some (.slice none 0 0) := cell_blk hk1 6
    clear hk0 hk1 hb1
    go_wp2
    refine bodyPost_ret (v := stV s (.slice A n c)) (by simp [results, Try.results14, go_sem, r0, r1, r2, r3, r4, r5, r6]) rfl ?_
    exact ⟨rfl, (by repeat (first | with_reducible exact hB | with_reducible refine Below.setCell ?_ (by simp) _ | with_reducible refine Below.drew ?_))⟩
  · have he : endedP s line.data.toList = false := by simpa using he
    have He := Lib.hid he
    obtain ⟨x, hx⟩ : ∃ x : ByteArray, (⟨(Lib.trimPrefix line.data.toList (⟨#[46]⟩ : ByteArray).data.toList).toArray⟩ : ByteArray) = x := ⟨_, rfl⟩
    have hxl : x.size ≤ 1000000 := by rw [← hx, size_mk]; exact Nat.le_trans (trimPrefix_len _ _) (by rw [size_list]; exact hl)
    have Hx := Lib.hid hx
    have hy : (((⟨s.body.toArray⟩ : ByteArray) ++ (x ++ ⟨#[13, 10]⟩)) : ByteArray).data.toList = s.body ++ (Lib.trimPrefix line.data.toList [46] ++ [13, 10]) := by
      rw [← hx]; simp
    have hys : (((⟨s.body.toArray⟩ : ByteArray) ++ (x ++ ⟨#[13, 10]⟩)) : ByteArray).size = s.body.length + (x.size + 2) := by
      rw [ByteArray.size_append, ByteArray.size_append, size_mk]; rfl
    have hn1 : ¬ 9223372036854775807 < x.size + 2 := by omega
    have hn2 : ¬ 9223372036854775807 < s.body.length + (x.size + 2) := by omega
    have hlen : (s.body ++ (Lib.trimPrefix line.data.toList [46] ++ [13, 10])).length = s.body.length + (x.size + 2) := by
      rw [← hy, size_list, hys]
    by_cases h7 : 700 < s.body.length + (x.size + 2)
    · have Hr := Lib.hid (show receiveP s line.data.toList = { s with body := (s.body ++ (Lib.trimPrefix line.data.toList [46] ++ [13, 10])).take 700, long := true } from by
        unfold receiveP; rw [if_neg (by rw [he]; decide), if_pos (by rw [hlen]; exact h7)])
      have Hext := Lib.hid (ext_take ((⟨s.body.toArray⟩ : ByteArray) ++ (x ++ ⟨#[13, 10]⟩)) 700)
      have Hy := Lib.hid hy
      clear hx he hy hys hlen
      go_enter Try.func14, Try.ntmps14
      go_wp2_with fail
      refine (ended_any s A n c line _).mono ?_
      rintro e w1 ⟨rfl, hb1⟩
      rw [He.out]
      have hk0 := blk_below (two_old w (.cells #[.bool s.hello, .bool s.hasFrom, .bool s.data, .bool s.long, strV s.frm, strV s.body, .slice A n c] 25) (.cells #[.bool false, .bool false, .bool false, .bool false, .string ⟨#[]⟩, .string ⟨#[]⟩, .slice none 0 0] 25)) hb1 (by rw [size_new, size_new]; omega)
      have hk1 := blk_below (two_new w (.cells #[.bool s.hello, .bool s.hasFrom, .bool s.data, .bool s.long, strV s.frm, strV s.body, .slice A n c] 25) (.cells #[.bool false, .bool false, .bool false, .bool false, .string ⟨#[]⟩, .string ⟨#[]⟩, .slice none 0 0] 25)) hb1 (by rw [size_new, size_new]; omega)
      have hB : Below w.heap.size w w1 := (((Below.refl _ _).alloc (Nat.le_refl _) _).alloc (by simp) _).trans (hb1.mono (by simp; omega))
      have kf : ∀ i, w1.frozen? ⟨w.heap.size, i, none⟩ = false := fun i => free_blk hk0 i
      have k0 : w1.cell? ⟨w.heap.size, 0, none⟩ = some (.bool s.hello) := cell_blk hk0 0
      have k1 : w1.cell? ⟨w.heap.size, 1, none⟩ = some (.bool s.hasFrom) := cell_blk hk0 1
      have k2 : w1.cell? ⟨w.heap.size, 2, none⟩ = some (.bool s.data) := cell_blk hk0 2
      have k3 : w1.cell? ⟨w.heap.size, 3, none⟩ = some (.bool s.long) := cell_blk hk0 3
      have k4 : w1.cell? ⟨w.heap.size, 4, none⟩ = some (strV s.frm) := cell_blk hk0 4
      have k5 : w1.cell? ⟨w.heap.size, 5, none⟩ = some (strV s.body) := cell_blk hk0 5
      have k6 : w1.cell? ⟨w.heap.size, 6, none⟩ = some (.slice A n c) := cell_blk hk0 6
      have rf : ∀ i, w1.frozen? ⟨w.heap.size + 1, i, none⟩ = false := fun i => free_blk hk1 i
      have r0 : w1.cell? ⟨w.heap.size + 1, 0, none⟩ = some (.bool false) := cell_blk hk1 0
      have r1 : w1.cell? ⟨w.heap.size + 1, 1, none⟩ = some (.bool false) := cell_blk hk1 1
      have r2 : w1.cell? ⟨w.heap.size + 1, 2, none⟩ = some (.bool false) := cell_blk hk1 2
      have r3 : w1.cell? ⟨w.heap.size + 1, 3, none⟩ = some (.bool false) := cell_blk hk1 3
      have r4 : w1.cell? ⟨w.heap.size + 1, 4, none⟩ = some (.string ⟨#[]⟩) := cell_blk hk1 4
      have r5 : w1.cell? ⟨w.heap.size + 1, 5, none⟩ = some (.string ⟨#[]⟩) := cell_blk hk1 5
      have r6 : w1.cell? ⟨w.heap.size + 1, 6, none⟩ = some (.slice none 0 0) := cell_blk hk1 6
      clear hk0 hk1 hb1
      go_wp2
      go_region_law ((go_simp; go_at_call 20; refine (Try.strings_TrimPrefix line ⟨#[46]⟩ _).mono ?_; rintro e w' ⟨rfl, rfl⟩; rw [Hx.out]))
      all_goals
        clear hn1 hn2
        go_wp2
        refine bodyPost_ret (v := (.agg #[.bool s.hello, .bool s.hasFrom, .bool s.data, .bool true, strV s.frm, .string (((⟨s.body.toArray⟩ : ByteArray) ++ (x ++ ⟨#[13, 10]⟩)).extract 0 700), .slice A n c])) (by simp [results, Try.results14, go_sem, r0, r1, r2, r3, r4, r5, r6]) rfl ?_
        rw [Hr.out]
        refine ⟨?_, (by repeat (first | with_reducible exact hB | with_reducible refine Below.setCell ?_ (by simp) _ | with_reducible refine Below.drew ?_))⟩
        rw [Hext.out, Hy.out]
    · have Hr := Lib.hid (show receiveP s line.data.toList = { s with body := s.body ++ (Lib.trimPrefix line.data.toList [46] ++ [13, 10]) } from by
        unfold receiveP; rw [if_neg (by rw [he]; decide), if_neg (by rw [hlen]; exact h7)])
      have Hy := Lib.hid hy
      have h7 : s.body.length + (x.size + 2) ≤ 700 := by omega
      clear hx he hy hys hlen
      go_enter Try.func14, Try.ntmps14
      go_wp2_with fail
      refine (ended_any s A n c line _).mono ?_
      rintro e w1 ⟨rfl, hb1⟩
      rw [He.out]
      have hk0 := blk_below (two_old w (.cells #[.bool s.hello, .bool s.hasFrom, .bool s.data, .bool s.long, strV s.frm, strV s.body, .slice A n c] 25) (.cells #[.bool false, .bool false, .bool false, .bool false, .string ⟨#[]⟩, .string ⟨#[]⟩, .slice none 0 0] 25)) hb1 (by rw [size_new, size_new]; omega)
      have hk1 := blk_below (two_new w (.cells #[.bool s.hello, .bool s.hasFrom, .bool s.data, .bool s.long, strV s.frm, strV s.body, .slice A n c] 25) (.cells #[.bool false, .bool false, .bool false, .bool false, .string ⟨#[]⟩, .string ⟨#[]⟩, .slice none 0 0] 25)) hb1 (by rw [size_new, size_new]; omega)
      have hB : Below w.heap.size w w1 := (((Below.refl _ _).alloc (Nat.le_refl _) _).alloc (by simp) _).trans (hb1.mono (by simp; omega))
      have kf : ∀ i, w1.frozen? ⟨w.heap.size, i, none⟩ = false := fun i => free_blk hk0 i
      have k0 : w1.cell? ⟨w.heap.size, 0, none⟩ = some (.bool s.hello) := cell_blk hk0 0
      have k1 : w1.cell? ⟨w.heap.size, 1, none⟩ = some (.bool s.hasFrom) := cell_blk hk0 1
      have k2 : w1.cell? ⟨w.heap.size, 2, none⟩ = some (.bool s.data) := cell_blk hk0 2
      have k3 : w1.cell? ⟨w.heap.size, 3, none⟩ = some (.bool s.long) := cell_blk hk0 3
      have k4 : w1.cell? ⟨w.heap.size, 4, none⟩ = some (strV s.frm) := cell_blk hk0 4
      have k5 : w1.cell? ⟨w.heap.size, 5, none⟩ = some (strV s.body) := cell_blk hk0 5
      have k6 : w1.cell? ⟨w.heap.size, 6, none⟩ = some (.slice A n c) := cell_blk hk0 6
      have rf : ∀ i, w1.frozen? ⟨w.heap.size + 1, i, none⟩ = false := fun i => free_blk hk1 i
      have r0 : w1.cell? ⟨w.heap.size + 1, 0, none⟩ = some (.bool false) := cell_blk hk1 0
      have r1 : w1.cell? ⟨w.heap.size + 1, 1, none⟩ = some (.bool false) := cell_blk hk1 1
      have r2 : w1.cell? ⟨w.heap.size + 1, 2, none⟩ = some (.bool false) := cell_blk hk1 2
      have r3 : w1.cell? ⟨w.heap.size + 1, 3, none⟩ = some (.bool false) := cell_blk hk1 3
      have r4 : w1.cell? ⟨w.heap.size + 1, 4, none⟩ = some (.string ⟨#[]⟩) := cell_blk hk1 4
      have r5 : w1.cell? ⟨w.heap.size + 1, 5, none⟩ = some (.string ⟨#[]⟩) := cell_blk hk1 5
      have r6 : w1.cell? ⟨w.heap.size + 1, 6, none⟩ = some (.slice none 0 0) := cell_blk hk1 6
      clear hk0 hk1 hb1
      go_wp2
      go_region_law ((go_simp; go_at_call 20; refine (Try.strings_TrimPrefix line ⟨#[46]⟩ _).mono ?_; rintro e w' ⟨rfl, rfl⟩; rw [Hx.out]))
      all_goals
        clear hn1 hn2
        go_wp2
        refine bodyPost_ret (v := (.agg #[.bool s.hello, .bool s.hasFrom, .bool s.data, .bool s.long, strV s.frm, .string ((⟨s.body.toArray⟩ : ByteArray) ++ (x ++ ⟨#[13, 10]⟩)), .slice A n c])) (by simp [results, Try.results14, go_sem, r0, r1, r2, r3, r4, r5, r6]) rfl ?_
        rw [Hr.out]
        refine ⟨?_, (by repeat (first | with_reducible exact hB | with_reducible refine Below.setCell ?_ (by simp) _ | with_reducible refine Below.drew ?_))⟩
        rw [← Hy.out]
end Go.Proofs.Ytnckfgihbimacaa.LM

/- What lmtp.simple and lmtp.mail return, for any state and text. Conditions: lengths, and that the call owns the list of recipients. -/
import Derived.Test.YtnckfgihbimacaaLmtpSmall
import Derived.Test.YtnckfgihbimacaaLmtpAddr
namespace Go.Proofs.Ytnckfgihbimacaa.LM
open Go.RowKit Mailsack MM

/-- a state and a reply are handed back; the list of recipients lies in a row of the call's own -/
def LPost (base : Nat) (w : World) (r : LSt × Bs) (e : Ending) (w' : World) : Prop :=
  ∃ tv, e = .returned (.tuple #[stV r.1 tv, strV r.2]) ∧ OwnS w' base tv r.1.to ∧ Below base w w'

theorem LPost.mk' {base : Nat} {w w' : World} {r : LSt × Bs} {s : LSt} {rep : Bs} {tv : Value} (hr : r = (s, rep)) (h1 : OwnS w' base tv s.to) (h2 : Below base w w') : LPost base w r (.returned (.tuple #[stV s tv, strV rep])) w' := by
  subst hr; exact ⟨tv, rfl, h1, h2⟩

set_option maxHeartbeats 1000000 in
theorem simple_any (s : LSt) (A : Option Addr) (c base : Nat) (word : ByteArray) (w : World) (hown0 : OwnS w base (.slice A s.to.length c) s.to) (hbase : base ≤ w.heap.size) :
    Calls Try.prog 19 #[stV s (.slice A s.to.length c), .string word] w (LPost base w (simpleP s word.data.toList)) := by
  have hown := Lib.hid hown0
  clear hown0
  by_cases h1 : word.data.toList = [82, 83, 69, 84]
  · have Hr := Lib.hid (show simpleP s word.data.toList = (doneP s, rFine) by unfold simpleP; rw [if_pos h1])
    have hB : (word.toList == [82, 83, 69, 84]) = true := by rw [ByteArray.toList_eq]; exact beq_iff_eq.2 h1
    clear h1
    go_enter Try.func19, Try.ntmps19
    go_wp2_with fail
    refine (done_any s A s.to.length c _).mono ?_
    rintro e w1 ⟨rfl, hb1⟩
    have hk1 := blk_below (two_new w (.cells #[.bool s.hello, .bool s.hasFrom, .bool s.data, .bool s.long, strV s.frm, strV s.body, .slice A s.to.length c] 25) (.cells #[.bool false, .bool false, .bool false, .bool false, .string ⟨#[]⟩, .string ⟨#[]⟩, .slice none 0 0] 25)) hb1 (by rw [size_new, size_new]; omega)
    have hB1 : Below base w w1 := (((Below.refl _ _).alloc hbase _).alloc (by simp; omega) _).trans (hb1.mono (by simp; omega))
    have rf : ∀ i, w1.frozen? ⟨w.heap.size + 1, i, none⟩ = false := fun i => free_blk hk1 i
    have r0 : w1.cell? ⟨w.heap.size + 1, 0, none⟩ = some (.bool false) := cell_blk hk1 0
    have r1 : w1.cell? ⟨w.heap.size + 1, 1, none⟩ = some (.bool false) := cell_blk hk1 1
    have r2 : w1.cell? ⟨w.heap.size + 1, 2, none⟩ = some (.bool false) := cell_blk hk1 2
    have r3 : w1.cell? ⟨w.heap.size + 1, 3, none⟩ = some (.bool false) := cell_blk hk1 3
    have r4 : w1.cell? ⟨w.heap.size + 1, 4, none⟩ = some (.string ⟨#[]⟩) := cell_blk hk1 4
    have r5 : w1.cell? ⟨w.heap.size + 1, 5, none⟩ = some (.string ⟨#[]⟩) := cell_blk hk1 5
    have r6 : w1.cell? ⟨w.heap.size + 1, 6, none⟩ = some (.slice none 0 0) := cell_blk hk1 6
    clear hk1 hb1
    go_wp2
    refine bodyPost_ret (v := .tuple #[stV (doneP s) (.slice none 0 0), strV rFine]) (by simp [results, Try.results19, go_sem, rFine, r0, r1, r2, r3, r4, r5, r6]) rfl ?_
    exact LPost.mk' Hr.out (OwnS.nil _ _) (by repeat (first | with_reducible exact hB1 | with_reducible refine Below.setCell ?_ (by simp; omega) _))
  have hB1 : (word.toList == [82, 83, 69, 84]) = false := by rw [ByteArray.toList_eq]; exact beq_eq_false_iff_ne.2 h1
  by_cases h2 : word.data.toList = [81, 85, 73, 84]
  · have Hr := Lib.hid (show simpleP s word.data.toList = (s, rBye) by unfold simpleP; rw [if_neg h1, if_pos h2])
    have hB : (word.toList == [81, 85, 73, 84]) = true := by rw [ByteArray.toList_eq]; exact beq_iff_eq.2 h2
    clear h1 h2
    go_enter Try.func19, Try.ntmps19
    go_wp2
    refine bodyPost_ret (v := .tuple #[stV s (.slice A s.to.length c), strV rBye]) (by simp [results, Try.results19, go_sem, rBye]) rfl ?_
    exact LPost.mk' Hr.out ((hown.out.alloc _).alloc _) (((Below.refl _ _).alloc hbase _).alloc (by simp; omega) _)
  have hB2 : (word.toList == [81, 85, 73, 84]) = false := by rw [ByteArray.toList_eq]; exact beq_eq_false_iff_ne.2 h2
  by_cases h3 : s.to.length = 0
  · have Hr := Lib.hid (show simpleP s word.data.toList = (s, rSequence) by unfold simpleP; rw [if_neg h1, if_neg h2, if_pos h3])
    have hB : ((s.to.length : Int) == 0) = true := beq_iff_eq.2 (by omega)
    clear h1 h2 h3
    go_enter Try.func19, Try.ntmps19
    go_wp2
    refine bodyPost_ret (v := .tuple #[stV s (.slice A s.to.length c), strV rSequence]) (by simp [results, Try.results19, go_sem, rSequence]) rfl ?_
    exact LPost.mk' Hr.out ((hown.out.alloc _).alloc _) (((Below.refl _ _).alloc hbase _).alloc (by simp; omega) _)
  · have Hr := Lib.hid (show simpleP s word.data.toList = ({ s with data := true }, rGoOn) by unfold simpleP; rw [if_neg h1, if_neg h2, if_neg h3])
    have hB : ((s.to.length : Int) == 0) = false := beq_eq_false_iff_ne.2 (by omega)
    clear h1 h2 h3
    go_enter Try.func19, Try.ntmps19
    go_wp2
    refine bodyPost_ret (v := .tuple #[stV { s with data := true } (.slice A s.to.length c), strV rGoOn]) (by simp [results, Try.results19, go_sem, rGoOn]) rfl ?_
    exact LPost.mk' Hr.out ((hown.out.alloc _).alloc _) (((Below.refl _ _).alloc hbase _).alloc (by simp; omega) _)

set_option maxHeartbeats 1000000 in
theorem mail_any (s : LSt) (A : Option Addr) (c base : Nat) (arg : ByteArray) (w : World) (hown0 : OwnS w base (.slice A s.to.length c) s.to) (hbase : base ≤ w.heap.size) (hl : arg.size < 4294967281) :
    Calls Try.prog 17 #[stV s (.slice A s.to.length c), .string arg] w (LPost base w (mailP s arg.data.toList)) := by
  have hown := Lib.hid hown0
  have hgb : ∀ k, (Value.slice A s.to.length c).ownBlock = some k → k < w.heap.size := fun k hk => (World.ownsRow.lt hown0 k hk).2
  clear hown0
  obtain ⟨hello, hasFrom, data, long, frm, body, to⟩ := s
  simp only at hown hgb ⊢
  cases hello
  · have Hr := Lib.hid (show mailP ⟨false, hasFrom, data, long, frm, body, to⟩ arg.data.toList = (⟨false, hasFrom, data, long, frm, body, to⟩, rSequence) from rfl)
    go_enter Try.func17, Try.ntmps17
    go_wp2
    refine bodyPost_ret (v := .tuple #[stV ⟨false, hasFrom, data, long, frm, body, to⟩ (.slice A to.length c), strV rSequence]) (by simp [results, Try.results17, go_sem, rSequence]) rfl ?_
    exact LPost.mk' Hr.out ((hown.out.alloc _).alloc _) (((Below.refl _ _).alloc hbase _).alloc (by simp; omega) _)
  rcases ha : addrP arg.data.toList [70, 82, 79, 77, 58] with _ | f
  · have Hr := Lib.hid (show mailP ⟨true, hasFrom, data, long, frm, body, to⟩ arg.data.toList = (⟨true, hasFrom, data, long, frm, body, to⟩, rSyntax) by unfold mailP; rw [if_neg (by simp), ha])
    have Ha := Lib.hid (show addrR (addrP arg.data.toList (⟨#[70, 82, 79, 77, 58]⟩ : ByteArray).data.toList) = ([], false) by rw [show (⟨#[70, 82, 79, 77, 58]⟩ : ByteArray).data.toList = [70, 82, 79, 77, 58] from rfl, ha]; rfl)
    clear ha
    go_enter Try.func17, Try.ntmps17
    go_wp2_with fail
    refine (address_any arg ⟨#[70, 82, 79, 77, 58]⟩ _ hl (by decide)).mono ?_
    rintro e w1 ⟨rfl, hb1⟩
    rw [Ha.out]
    have hk0 := blk_below (two_old w (.cells #[.bool true, .bool hasFrom, .bool data, .bool long, strV frm, strV body, .slice A to.length c] 25) (.cells #[.bool false, .bool false, .bool false, .bool false, .string ⟨#[]⟩, .string ⟨#[]⟩, .slice none 0 0] 25)) hb1 (by rw [size_new, size_new]; omega)
    have hk1 := blk_below (two_new w (.cells #[.bool true, .bool hasFrom, .bool data, .bool long, strV frm, strV body, .slice A to.length c] 25) (.cells #[.bool false, .bool false, .bool false, .bool false, .string ⟨#[]⟩, .string ⟨#[]⟩, .slice none 0 0] 25)) hb1 (by rw [size_new, size_new]; omega)
    have hB1 : Below base w w1 := (((Below.refl _ _).alloc hbase _).alloc (by simp; omega) _).trans (hb1.mono (by simp; omega))
    have hO := Lib.hid (((hown.out.alloc _).alloc _).below hb1)
    have kf : ∀ i, w1.frozen? ⟨w.heap.size, i, none⟩ = false := fun i => free_blk hk0 i
    have k0 : w1.cell? ⟨w.heap.size, 0, none⟩ = some (.bool true) := cell_blk hk0 0
    have k1 : w1.cell? ⟨w.heap.size, 1, none⟩ = some (.bool hasFrom) := cell_blk hk0 1
    have k2 : w1.cell? ⟨w.heap.size, 2, none⟩ = some (.bool data) := cell_blk hk0 2
    have k3 : w1.cell? ⟨w.heap.size, 3, none⟩ = some (.bool long) := cell_blk hk0 3
    have k4 : w1.cell? ⟨w.heap.size, 4, none⟩ = some (strV frm) := cell_blk hk0 4
    have k5 : w1.cell? ⟨w.heap.size, 5, none⟩ = some (strV body) := cell_blk hk0 5
    have k6 : w1.cell? ⟨w.heap.size, 6, none⟩ = some (.slice A to.length c) := cell_blk hk0 6
    have rf : ∀ i, w1.frozen? ⟨w.heap.size + 1, i, none⟩ = false := fun i => free_blk hk1 i
    have r0 : w1.cell? ⟨w.heap.size + 1, 0, none⟩ = some (.bool false) := cell_blk hk1 0
    have r1 : w1.cell? ⟨w.heap.size + 1, 1, none⟩ = some (.bool false) := cell_blk hk1 1
    have r2 : w1.cell? ⟨w.heap.size + 1, 2, none⟩ = some (.bool false) := cell_blk hk1 2
    have r3 : w1.cell? ⟨w.heap.size + 1, 3, none⟩ = some (.bool false) := cell_blk hk1 3
    have r4 : w1.cell? ⟨w.heap.size + 1, 4, none⟩ = some (.string ⟨#[]⟩) := cell_blk hk1 4
    have r5 : w1.cell? ⟨w.heap.size + 1, 5, none⟩ = some (.string ⟨#[]⟩) := cell_blk hk1 5
    have r6 : w1.cell? ⟨w.heap.size + 1, 6, none⟩ = some (.slice none 0 0) := cell_blk hk1 6
    clear hk0 hk1 hb1
    go_wp2
    refine bodyPost_ret (v := .tuple #[stV ⟨true, hasFrom, data, long, frm, body, to⟩ (.slice A to.length c), strV rSyntax]) (by simp [results, Try.results17, go_sem, rSyntax, r0, r1, r2, r3, r4, r5, r6]) rfl ?_
    exact LPost.mk' Hr.out (by repeat (first | with_reducible exact hO.out | with_reducible refine OwnS.setFar ?_ _ (fun k hk => by have := hgb k hk; simp; omega))) (by repeat (first | with_reducible exact hB1 | with_reducible refine Below.setCell ?_ (by simp; omega) _))
  have Ha := Lib.hid (show addrR (addrP arg.data.toList (⟨#[70, 82, 79, 77, 58]⟩ : ByteArray).data.toList) = (f, true) by rw [show (⟨#[70, 82, 79, 77, 58]⟩ : ByteArray).data.toList = [70, 82, 79, 77, 58] from rfl, ha]; rfl)
  cases hasFrom
  · have Hr := Lib.hid (show mailP ⟨true, false, data, long, frm, body, to⟩ arg.data.toList = (⟨true, true, data, long, f, body, []⟩, rFine) by unfold mailP; rw [if_neg (by simp), ha]; rfl)
    clear ha
    go_enter Try.func17, Try.ntmps17
    go_wp2_with fail
    refine (address_any arg ⟨#[70, 82, 79, 77, 58]⟩ _ hl (by decide)).mono ?_
    rintro e w1 ⟨rfl, hb1⟩
    rw [Ha.out]
    have hk0 := blk_below (two_old w (.cells #[.bool true, .bool false, .bool data, .bool long, strV frm, strV body, .slice A to.length c] 25) (.cells #[.bool false, .bool false, .bool false, .bool false, .string ⟨#[]⟩, .string ⟨#[]⟩, .slice none 0 0] 25)) hb1 (by rw [size_new, size_new]; omega)
    have hk1 := blk_below (two_new w (.cells #[.bool true, .bool false, .bool data, .bool long, strV frm, strV body, .slice A to.length c] 25) (.cells #[.bool false, .bool false, .bool false, .bool false, .string ⟨#[]⟩, .string ⟨#[]⟩, .slice none 0 0] 25)) hb1 (by rw [size_new, size_new]; omega)
    have hB1 : Below base w w1 := (((Below.refl _ _).alloc hbase _).alloc (by simp; omega) _).trans (hb1.mono (by simp; omega))
    have hO := Lib.hid (((hown.out.alloc _).alloc _).below hb1)
    have kf : ∀ i, w1.frozen? ⟨w.heap.size, i, none⟩ = false := fun i => free_blk hk0 i
    have k0 : w1.cell? ⟨w.heap.size, 0, none⟩ = some (.bool true) := cell_blk hk0 0
    have k1 : w1.cell? ⟨w.heap.size, 1, none⟩ = some (.bool false) := cell_blk hk0 1
    have k2 : w1.cell? ⟨w.heap.size, 2, none⟩ = some (.bool data) := cell_blk hk0 2
    have k3 : w1.cell? ⟨w.heap.size, 3, none⟩ = some (.bool long) := cell_blk hk0 3
    have k4 : w1.cell? ⟨w.heap.size, 4, none⟩ = some (strV frm) := cell_blk hk0 4
    have k5 : w1.cell? ⟨w.heap.size, 5, none⟩ = some (strV body) := cell_blk hk0 5
    have k6 : w1.cell? ⟨w.heap.size, 6, none⟩ = some (.slice A to.length c) := cell_blk hk0 6
    have rf : ∀ i, w1.frozen? ⟨w.heap.size + 1, i, none⟩ = false := fun i => free_blk hk1 i
    have r0 : w1.cell? ⟨w.heap.size + 1, 0, none⟩ = some (.bool false) := cell_blk hk1 0
    have r1 : w1.cell? ⟨w.heap.size + 1, 1, none⟩ = some (.bool false) := cell_blk hk1 1
    have r2 : w1.cell? ⟨w.heap.size + 1, 2, none⟩ = some (.bool false) := cell_blk hk1 2
    have r3 : w1.cell? ⟨w.heap.size + 1, 3, none⟩ = some (.bool false) := cell_blk hk1 3
    have r4 : w1.cell? ⟨w.heap.size + 1, 4, none⟩ = some (.string ⟨#[]⟩) := cell_blk hk1 4
    have r5 : w1.cell? ⟨w.heap.size + 1, 5, none⟩ = some (.string ⟨#[]⟩) := cell_blk hk1 5
    have r6 : w1.cell? ⟨w.heap.size + 1, 6, none⟩ = some (.slice none 0 0) := cell_blk hk1 6
    clear hk0 hk1 hb1
    go_wp2
    refine bodyPost_ret (v := .tuple #[stV ⟨true, true, data, long, f, body, []⟩ (.slice none 0 0), strV rFine]) (by simp [results, Try.results17, go_sem, rFine, r0, r1, r2, r3, r4, r5, r6]) rfl ?_
    exact LPost.mk' Hr.out (OwnS.nil _ _) (by repeat (first | with_reducible exact hB1 | with_reducible refine Below.setCell ?_ (by simp; omega) _))
  · have Hr := Lib.hid (show mailP ⟨true, true, data, long, frm, body, to⟩ arg.data.toList = (⟨true, true, data, long, frm, body, to⟩, rSequence) by unfold mailP; rw [if_neg (by simp), ha]; rfl)
    clear ha
    go_enter Try.func17, Try.ntmps17
    go_wp2_with fail
    refine (address_any arg ⟨#[70, 82, 79, 77, 58]⟩ _ hl (by decide)).mono ?_
    rintro e w1 ⟨rfl, hb1⟩
    rw [Ha.out]
    have hk0 := blk_below (two_old w (.cells #[.bool true, .bool true, .bool data, .bool long, strV frm, strV body, .slice A to.length c] 25) (.cells #[.bool false, .bool false, .bool false, .bool false, .string ⟨#[]⟩, .string ⟨#[]⟩, .slice none 0 0] 25)) hb1 (by rw [size_new, size_new]; omega)
    have hk1 := blk_below (two_new w (.cells #[.bool true, .bool true, .bool data, .bool long, strV frm, strV body, .slice A to.length c] 25) (.cells #[.bool false, .bool false, .bool false, .bool false, .string ⟨#[]⟩, .string ⟨#[]⟩, .slice none 0 0] 25)) hb1 (by rw [size_new, size_new]; omega)
    have hB1 : Below base w w1 := (((Below.refl _ _).alloc hbase _).alloc (by simp; omega) _).trans (hb1.mono (by simp; omega))
    have hO := Lib.hid (((hown.out.alloc _).alloc _).below hb1)
    have kf : ∀ i, w1.frozen? ⟨w.heap.size, i, none⟩ = false := fun i => free_blk hk0 i
    have k0 : w1.cell? ⟨w.heap.size, 0, none⟩ = some (.bool true) := cell_blk hk0 0
    have k1 : w1.cell? ⟨w.heap.size, 1, none⟩ = some (.bool true) := cell_blk hk0 1
    have k2 : w1.cell? ⟨w.heap.size, 2, none⟩ = some (.bool data) := cell_blk hk0 2
    have k3 : w1.cell? ⟨w.heap.size, 3, none⟩ = some (.bool long) := cell_blk hk0 3
    have k4 : w1.cell? ⟨w.heap.size, 4, none⟩ = some (strV frm) := cell_blk hk0 4
    have k5 : w1.cell? ⟨w.heap.size, 5, none⟩ = some (strV body) := cell_blk hk0 5
    have k6 : w1.cell? ⟨w.heap.size, 6, none⟩ = some (.slice A to.length c) := cell_blk hk0 6
    have rf : ∀ i, w1.frozen? ⟨w.heap.size + 1, i, none⟩ = false := fun i => free_blk hk1 i
    have r0 : w1.cell? ⟨w.heap.size + 1, 0, none⟩ = some (.bool false) := cell_blk hk1 0
    have r1 : w1.cell? ⟨w.heap.size + 1, 1, none⟩ = some (.bool false) := cell_blk hk1 1
    have r2 : w1.cell? ⟨w.heap.size + 1, 2, none⟩ = some (.bool false) := cell_blk hk1 2
    have r3 : w1.cell? ⟨w.heap.size + 1, 3, none⟩ = some (.bool false) := cell_blk hk1 3
    have r4 : w1.cell? ⟨w.heap.size + 1, 4, none⟩ = some (.string ⟨#[]⟩) := cell_blk hk1 4
    have r5 : w1.cell? ⟨w.heap.size + 1, 5, none⟩ = some (.string ⟨#[]⟩) := cell_blk hk1 5
    have r6 : w1.cell? ⟨w.heap.size + 1, 6, none⟩ = some (.slice none 0 0) := cell_blk hk1 6
    clear hk0 hk1 hb1
    go_wp2
    refine bodyPost_ret (v := .tuple #[stV ⟨true, true, data, long, frm, body, to⟩ (.slice A to.length c), strV rSequence]) (by simp [results, Try.results17, go_sem, rSequence, r0, r1, r2, r3, r4, r5, r6]) rfl ?_
    exact LPost.mk' Hr.out (by repeat (first | with_reducible exact hO.out | with_reducible refine OwnS.setFar ?_ _ (fun k hk => by have := hgb k hk; simp; omega))) (by repeat (first | with_reducible exact hB1 | with_reducible refine Below.setCell ?_ (by simp; omega) _))
end Go.Proofs.Ytnckfgihbimacaa.LM

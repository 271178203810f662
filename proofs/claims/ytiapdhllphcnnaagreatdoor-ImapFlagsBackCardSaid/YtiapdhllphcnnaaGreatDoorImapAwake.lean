/- What mailsacklaw22.awake returns: true. No conditions. -/
import Derived.Test.YtiapdhllphcnnaaGreatDoorImapDo2
import Derived.Test.YtiapdhllphcnnaaGreatDoorImapDo3
import Derived.Test.YtiapdhllphcnnaaGreatDoorImapDoBad
import Derived.Test.YtiapdhllphcnnaaGreatDoorImapLawDo
namespace Go.Proofs.YtiapdhllphcnnaaGreatDoor.IM
open Go.RowKit MM BU Mailsack

theorem tok_cap : tokensP [[97, 32, 99, 97, 112, 97, 98, 105, 108, 105, 116, 121]] [] = some [(0, [97]), (0, [99, 97, 112, 97, 98, 105, 108, 105, 116, 121])] := by decide
theorem law_cap (w : World) : Calls Tryz.prog 11 #[.agg #[.slice none 0 0, .slice none 0 0], .agg #[.string ⟨#[]⟩, .string ⟨#[]⟩, .string ⟨#[]⟩, .int .i64 0, .slice none 0 0, .slice none 0 0, .int .i64 0, .string ⟨#[]⟩, .bool false, .bool false], .string ⟨#[97, 32, 99, 97, 112, 97, 98, 105, 108, 105, 116, 121]⟩, .agg #[.string ⟨#[]⟩, .string ⟨#[]⟩, .string ⟨#[]⟩, .string ⟨#[]⟩, .string ⟨#[]⟩, .int .i64 0]] w fun e w' =>
      e = .returned (.tuple #[.agg #[.slice none 0 0, .slice none 0 0], .agg #[.string ⟨#[]⟩, .string ⟨#[]⟩, .string ⟨#[]⟩, .int .i64 0, .slice none 0 0, .slice none 0 0, .int .i64 0, .string ⟨#[]⟩, .bool false, .bool false], .string ⟨#[42, 32, 67, 65, 80, 65, 66, 73, 76, 73, 84, 89, 32, 73, 77, 65, 80, 52, 114, 101, 118, 49, 13, 10, 97, 32, 79, 75, 13, 10]⟩]) ∧ Below w.heap.size w w' :=
  lawdo_any (.slice none 0 0) (.slice none 0 0) (.string ⟨#[]⟩) (.string ⟨#[]⟩) (.string ⟨#[]⟩) (.int .i64 0) (.slice none 0 0) (.slice none 0 0) (.int .i64 0) (.string ⟨#[]⟩) (.bool false) (.bool false) (.string ⟨#[]⟩) (.string ⟨#[]⟩) (.string ⟨#[]⟩) (.string ⟨#[]⟩) (.string ⟨#[]⟩) (.int .i64 0) (.string ⟨#[]⟩) (.string ⟨#[]⟩) (.string ⟨#[]⟩) (.int .i64 0) (.slice none 0 0) (.slice none 0 0) (.int .i64 0) (.string ⟨#[]⟩) (.bool false) (.bool false) [97, 32, 99, 97, 112, 97, 98, 105, 108, 105, 116, 121] [42, 32, 67, 65, 80, 65, 66, 73, 76, 73, 84, 89, 32, 73, 77, 65, 80, 52, 114, 101, 118, 49, 13, 10, 97, 32, 79, 75, 13, 10] w (by simp [Value.oneCell'])
    (fun W xv _ hr => do_capability (.slice none 0 0) (.slice none 0 0) (.string ⟨#[]⟩) (.string ⟨#[]⟩) (.string ⟨#[]⟩) (.int .i64 0) (.slice none 0 0) (.slice none 0 0) (.int .i64 0) (.string ⟨#[]⟩) (.bool false) (.bool false) (.string ⟨#[]⟩) (.string ⟨#[]⟩) (.string ⟨#[]⟩) (.string ⟨#[]⟩) (.string ⟨#[]⟩) (.int .i64 0) xv (.slice none 0 0) [[97, 32, 99, 97, 112, 97, 98, 105, 108, 105, 116, 121]] [] [97] [99, 97, 112, 97, 98, 105, 108, 105, 116, 121] W hr (VB.rds_none W _) (by decide) (by decide) (by decide) (by simp [Value.oneCell']) tok_cap (by decide) (by decide) (by decide) (by decide))
theorem tok_out : tokensP [[98, 32, 76, 79, 71, 79, 85, 84]] [] = some [(0, [98]), (0, [76, 79, 71, 79, 85, 84])] := by decide
theorem law_out (w : World) : Calls Tryz.prog 11 #[.agg #[.slice none 0 0, .slice none 0 0], .agg #[.string ⟨#[]⟩, .string ⟨#[]⟩, .string ⟨#[]⟩, .int .i64 0, .slice none 0 0, .slice none 0 0, .int .i64 0, .string ⟨#[]⟩, .bool false, .bool false], .string ⟨#[98, 32, 76, 79, 71, 79, 85, 84]⟩, .agg #[.string ⟨#[]⟩, .string ⟨#[]⟩, .string ⟨#[]⟩, .string ⟨#[]⟩, .string ⟨#[]⟩, .int .i64 0]] w fun e w' =>
      e = .returned (.tuple #[.agg #[.slice none 0 0, .slice none 0 0], .agg #[.string ⟨#[]⟩, .string ⟨#[]⟩, .string ⟨#[]⟩, .int .i64 0, .slice none 0 0, .slice none 0 0, .int .i64 0, .string ⟨#[]⟩, .bool false, .bool true], .string ⟨#[42, 32, 66, 89, 69, 13, 10, 98, 32, 79, 75, 13, 10]⟩]) ∧ Below w.heap.size w w' :=
  lawdo_any (.slice none 0 0) (.slice none 0 0) (.string ⟨#[]⟩) (.string ⟨#[]⟩) (.string ⟨#[]⟩) (.int .i64 0) (.slice none 0 0) (.slice none 0 0) (.int .i64 0) (.string ⟨#[]⟩) (.bool false) (.bool false) (.string ⟨#[]⟩) (.string ⟨#[]⟩) (.string ⟨#[]⟩) (.string ⟨#[]⟩) (.string ⟨#[]⟩) (.int .i64 0) (.string ⟨#[]⟩) (.string ⟨#[]⟩) (.string ⟨#[]⟩) (.int .i64 0) (.slice none 0 0) (.slice none 0 0) (.int .i64 0) (.string ⟨#[]⟩) (.bool false) (.bool true) [98, 32, 76, 79, 71, 79, 85, 84] [42, 32, 66, 89, 69, 13, 10, 98, 32, 79, 75, 13, 10] w (by simp [Value.oneCell'])
    (fun W xv _ hr => do_logout (.slice none 0 0) (.slice none 0 0) (.string ⟨#[]⟩) (.string ⟨#[]⟩) (.string ⟨#[]⟩) (.int .i64 0) (.slice none 0 0) (.slice none 0 0) (.int .i64 0) (.string ⟨#[]⟩) (.bool false) (.bool false) (.string ⟨#[]⟩) (.string ⟨#[]⟩) (.string ⟨#[]⟩) (.string ⟨#[]⟩) (.string ⟨#[]⟩) (.int .i64 0) xv (.slice none 0 0) [[98, 32, 76, 79, 71, 79, 85, 84]] [] [98] [76, 79, 71, 79, 85, 84] W hr (VB.rds_none W _) (by decide) (by decide) (by decide) (by simp [Value.oneCell']) tok_out (by decide) (by decide) (by decide) (by decide))
theorem tok_fetch : tokensP [[99, 32, 70, 69, 84, 67, 72, 32, 49, 32, 70, 76, 65, 71, 83]] [] = some [(0, [99]), (0, [70, 69, 84, 67, 72]), (0, [49]), (0, [70, 76, 65, 71, 83])] := by decide
theorem law_fetch (w : World) : Calls Tryz.prog 11 #[.agg #[.slice none 0 0, .slice none 0 0], .agg #[.string ⟨#[]⟩, .string ⟨#[]⟩, .string ⟨#[]⟩, .int .i64 0, .slice none 0 0, .slice none 0 0, .int .i64 0, .string ⟨#[]⟩, .bool false, .bool false], .string ⟨#[99, 32, 70, 69, 84, 67, 72, 32, 49, 32, 70, 76, 65, 71, 83]⟩, .agg #[.string ⟨#[]⟩, .string ⟨#[]⟩, .string ⟨#[]⟩, .string ⟨#[]⟩, .string ⟨#[]⟩, .int .i64 0]] w fun e w' =>
      e = .returned (.tuple #[.agg #[.slice none 0 0, .slice none 0 0], .agg #[.string ⟨#[]⟩, .string ⟨#[]⟩, .string ⟨#[]⟩, .int .i64 0, .slice none 0 0, .slice none 0 0, .int .i64 0, .string ⟨#[]⟩, .bool false, .bool false], .string ⟨#[99, 32, 66, 65, 68, 13, 10]⟩]) ∧ Below w.heap.size w w' :=
  lawdo_any (.slice none 0 0) (.slice none 0 0) (.string ⟨#[]⟩) (.string ⟨#[]⟩) (.string ⟨#[]⟩) (.int .i64 0) (.slice none 0 0) (.slice none 0 0) (.int .i64 0) (.string ⟨#[]⟩) (.bool false) (.bool false) (.string ⟨#[]⟩) (.string ⟨#[]⟩) (.string ⟨#[]⟩) (.string ⟨#[]⟩) (.string ⟨#[]⟩) (.int .i64 0) (.string ⟨#[]⟩) (.string ⟨#[]⟩) (.string ⟨#[]⟩) (.int .i64 0) (.slice none 0 0) (.slice none 0 0) (.int .i64 0) (.string ⟨#[]⟩) (.bool false) (.bool false) [99, 32, 70, 69, 84, 67, 72, 32, 49, 32, 70, 76, 65, 71, 83] [99, 32, 66, 65, 68, 13, 10] w (by simp [Value.oneCell'])
    (fun W xv _ hr => do_fetch (.slice none 0 0) (.slice none 0 0) (.string ⟨#[]⟩) (.string ⟨#[]⟩) (.int .i64 0) (.slice none 0 0) (.slice none 0 0) (.int .i64 0) (.string ⟨#[]⟩) (.bool false) (.bool false) (.string ⟨#[]⟩) (.string ⟨#[]⟩) (.string ⟨#[]⟩) (.string ⟨#[]⟩) (.string ⟨#[]⟩) (.int .i64 0) xv (.slice none 0 0) [[99, 32, 70, 69, 84, 67, 72, 32, 49, 32, 70, 76, 65, 71, 83]] [] [99] [70, 69, 84, 67, 72] [49] [70, 76, 65, 71, 83] W hr (VB.rds_none W _) (by decide) (by decide) (by decide) (by simp [Value.oneCell']) tok_fetch (by decide) (by decide) (by decide) (by decide))

set_option maxHeartbeats 4000000 in
set_option maxRecDepth 100000 in
theorem awake_any (w : World) : Calls Tryz.prog 5 #[] w fun e w' => e = .returned (.bool true) ∧ Below w.heap.size w w' := by
  have Lcap := Lib.hid (fun W => law_cap W)
  obtain ⟨rcap, hcap⟩ : ∃ r : ByteArray, (⟨#[42, 32, 67, 65, 80, 65, 66, 73, 76, 73, 84, 89, 32, 73, 77, 65, 80, 52, 114, 101, 118, 49, 13, 10, 97, 32, 79, 75, 13, 10]⟩ : ByteArray) = r := ⟨_, rfl⟩
  rw [hcap] at Lcap
  have ecap : (rcap.toList == [42, 32, 67, 65, 80, 65, 66, 73, 76, 73, 84, 89, 32, 73, 77, 65, 80, 52, 114, 101, 118, 49, 13, 10, 97, 32, 79, 75, 13, 10]) = true := by rw [← hcap, ByteArray.toList_eq]; rfl
  clear hcap
  have Lout := Lib.hid (fun W => law_out W)
  obtain ⟨rout, hout⟩ : ∃ r : ByteArray, (⟨#[42, 32, 66, 89, 69, 13, 10, 98, 32, 79, 75, 13, 10]⟩ : ByteArray) = r := ⟨_, rfl⟩
  rw [hout] at Lout
  have eout : (rout.toList == [42, 32, 66, 89, 69, 13, 10, 98, 32, 79, 75, 13, 10]) = true := by rw [← hout, ByteArray.toList_eq]; rfl
  clear hout
  have Lfetch := Lib.hid (fun W => law_fetch W)
  obtain ⟨rfetch, hfetch⟩ : ∃ r : ByteArray, (⟨#[99, 32, 66, 65, 68, 13, 10]⟩ : ByteArray) = r := ⟨_, rfl⟩
  rw [hfetch] at Lfetch
  have efetch : (rfetch.toList == [99, 32, 66, 65, 68, 13, 10]) = true := by rw [← hfetch, ByteArray.toList_eq]; rfl
  clear hfetch
  go_enter Tryz.func5, Tryz.ntmps5
  go_wp2_with fail
  refine (Lcap.out _).mono ?_
  rintro e w1 ⟨rfl, hb1⟩
  have HB1 := Lib.hid hb1
  clear hb1
  go_wp2_with fail
  refine (Lout.out _).mono ?_
  rintro e w2 ⟨rfl, hb2⟩
  have ha1 := bel_more (bel_more (Below.refl w1.heap.size w1) (Nat.le_refl _) (dskO (.slice none 0 0) (.slice none 0 0))) (Nat.le_refl _) staZ
  have p1 := blk_below (two_new w1 (dskO (.slice none 0 0) (.slice none 0 0)) staZ) hb2 (by simp)
  have HB2 := Lib.hid (HB1.out.trans ((ha1.trans (hb2.mono ha1.size)).mono HB1.out.size))
  have P1 := Lib.hid p1
  clear hb2 ha1 p1
  go_wp2_with fail
  refine (Lfetch.out _).mono ?_
  rintro e w3 ⟨rfl, hb3⟩
  have ha2 := bel_more (bel_more (Below.refl w2.heap.size w2) (Nat.le_refl _) (dskO (.slice none 0 0) (.slice none 0 0))) (Nat.le_refl _) (staO (.string ⟨#[]⟩) (.string ⟨#[]⟩) (.string ⟨#[]⟩) (.int .i64 0) (.slice none 0 0) (.slice none 0 0) (.int .i64 0) (.string ⟨#[]⟩) (.bool false) (.bool true))
  have p2 := blk_below (two_new w2 (dskO (.slice none 0 0) (.slice none 0 0)) (staO (.string ⟨#[]⟩) (.string ⟨#[]⟩) (.string ⟨#[]⟩) (.int .i64 0) (.slice none 0 0) (.slice none 0 0) (.int .i64 0) (.string ⟨#[]⟩) (.bool false) (.bool true))) hb3 (by simp)
  have hb3' := ha2.trans (hb3.mono ha2.size)
  have HB3 := Lib.hid (HB2.out.trans (hb3'.mono HB2.out.size))
  have p1 := blk_below P1.out hb3' (blk_lt P1.out)
  have ha3 := bel_more (bel_more (Below.refl w3.heap.size w3) (Nat.le_refl _) (dskO (.slice none 0 0) (.slice none 0 0))) (Nat.le_refl _) staZ
  have HB4 := Lib.hid (HB3.out.trans (ha3.mono HB3.out.size))
  have c1 : ((w3.alloc (dskO (.slice none 0 0) (.slice none 0 0))).alloc staZ).cell? ⟨w1.heap.size + 1, 9, none⟩ = some (.bool false) := cell_blk (blk_alloc (blk_alloc p1 _) _) 9
  have c2 : ((w3.alloc (dskO (.slice none 0 0) (.slice none 0 0))).alloc staZ).cell? ⟨w2.heap.size + 1, 9, none⟩ = some (.bool true) := cell_blk (blk_alloc (blk_alloc p2 _) _) 9
  clear hb3 ha2 p2 hb3' p1 P1 HB1 HB2 HB3 ha3 Lcap Lout Lfetch
  go_wp2
  go_ret
  exact ⟨rfl, HB4.out⟩
end Go.Proofs.YtiapdhllphcnnaaGreatDoor.IM

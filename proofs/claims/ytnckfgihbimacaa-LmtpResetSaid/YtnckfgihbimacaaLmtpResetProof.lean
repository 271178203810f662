/- The statement LmtpReset holds: for every input the law returns true and leaves its arguments as they were. No condition. -/
import Derived.Test.YtnckfgihbimacaaRows
import Derived.Test.YtnckfgihbimacaaLmtpReset
import Derived.Test.YtnckfgihbimacaaLawEnd
import Derived.Test.YtnckfgihbimacaaLmtpOpen
namespace Go.Proofs.Ytnckfgihbimacaa.lmtpReset
open Go.ChangeShapes Go.WideShapes Go.ChangeAt Go.RowKit
open Go.ChangeMaps (open_string shut_string)

theorem own : ownKnob Try.prog.godebug = none := by kernel_rfl
theorem laidOut : laidOutB Try.prog = true := by kernel_rfl
theorem readable : ∀ t ∈ Try.f4.params.toList, Try.prog.readableRec t = true ∧ t < Try.prog.types.size := by
  rw [Try.params4]
  intro t ht
  obtain rfl : t = 25 := by simpa using ht
  all_goals exact ⟨by kernel_rfl, of_decide_eq_true (by kernel_rfl)⟩

set_option maxRecDepth 100000 in
theorem lifted (os : Os) (started : os.Started) (H : Type) (enc : TypeId × Value → H) :
    ReturnsInHanded {} Try.checked os 4 .any (Rows.lmtpResetSpec.pre6 enc Try.prog Try.f4 Rows.lmtpResetRow.domain false) (Rows.lmtpResetSpec.post enc Try.prog Try.f4 false true false false) := by
  refine LE.law_lifted (C := Try.checked) (tb := 4) own started (by kernel_rfl) Try.func4
    (ChangeSpec.witness6 (enc := enc) (C := Try.checked) false ⟨#[], #[.agg #[.bool false, .bool false, .bool false, .bool false, .string ⟨#[]⟩, .string ⟨#[]⟩, .slice none 0 0]], []⟩ 8 (by kernel_rfl) (by kernel_rfl) (by kernel_rfl) (by kernel_rfl))
    laidOut readable rfl Try.underlying4 rfl (fun ds h => by rw [Try.params4] at h; match ds, h with | [_], _ => rfl) ?_
  intro W base args ds p hval0 hA0 _ hsh
  have hval : ∀ (j : Nat) t v, Try.f4.params[j]? = some t → args[j]? = some v → Value.okWide Try.prog W .any base t v := hval0
  have hA : DataW.TrodAll enc Try.prog W 0 (fun _ => true) true Try.f4.params.toList args.toList ds p := hA0
  rw [Try.params4] at hA hval
  obtain ⟨v0, d0, rfl, rfl, h0⟩ := trodAll_one hA
  obtain ⟨s0, A0, c0, rfl, hr0, hl0, hb0, hf0⟩ := LM.open_state (hval 0 25 v0 rfl rfl) h0
  obtain ⟨m, hm⟩ := Try.laysM145.s1_3 W hsh
  exact LM.reset_any s0 A0 c0 m W hm hr0 hl0 hb0 hf0

theorem holds : Rows.LmtpResetSaid :=
  OpenClaim.holds_of_wide 4 Try.f4 rfl rfl rfl rfl rfl rfl rfl ⟨rfl, rfl, rfl, rfl, rfl⟩ rfl rfl rfl rfl rfl (by kernel_rfl) Try.func4 (by kernel_rfl)
    (of_decide_eq_true (by kernel_rfl)) (by unfold Func.isWrapper; first | (rw [if_pos (by decide +kernel)]; kernel_rfl) | (rw [if_neg (by decide +kernel)]; exact ⟨rfl, rfl⟩))
    (fun os started H enc _ => lifted os started H enc)
end Go.Proofs.Ytnckfgihbimacaa.lmtpReset

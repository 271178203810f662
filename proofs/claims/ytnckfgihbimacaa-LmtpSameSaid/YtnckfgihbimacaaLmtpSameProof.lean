/- The statement LmtpSame holds: for every input the law returns true and leaves its arguments as they were. No condition. -/
import Derived.Test.YtnckfgihbimacaaRows
import Derived.Test.YtnckfgihbimacaaLmtpSameAny
import Derived.Test.YtnckfgihbimacaaLawEnd
import Derived.Test.YtnckfgihbimacaaLmtpOpen
namespace Go.Proofs.Ytnckfgihbimacaa.lmtpSame
open Go.ChangeShapes Go.WideShapes Go.ChangeAt Go.RowKit
open Go.ChangeMaps (open_string shut_string)

theorem own : ownKnob Try.prog.godebug = none := by kernel_rfl
theorem laidOut : laidOutB Try.prog = true := by kernel_rfl
theorem readable : ∀ t ∈ Try.f5.params.toList, Try.prog.readableRec t = true ∧ t < Try.prog.types.size := by
  rw [Try.params5]
  intro t ht
  obtain rfl | rfl : t = 25 ∨ t = 5 := by simpa using ht
  all_goals exact ⟨by kernel_rfl, of_decide_eq_true (by kernel_rfl)⟩

set_option maxRecDepth 100000 in
theorem lifted (os : Os) (started : os.Started) (H : Type) (enc : TypeId × Value → H) :
    ReturnsInHanded {} Try.checked os 5 .any (Rows.lmtpSameSpec.pre6 enc Try.prog Try.f5 Rows.lmtpSameRow.domain false) (Rows.lmtpSameSpec.post enc Try.prog Try.f5 false true false false) := by
  refine LE.law_lifted (C := Try.checked) (tb := 4) own started (by kernel_rfl) Try.func5
    (ChangeSpec.witness6 (enc := enc) (C := Try.checked) false ⟨#[], #[.agg #[.bool false, .bool false, .bool false, .bool false, .string ⟨#[]⟩, .string ⟨#[]⟩, .slice none 0 0], .int .u8 0], []⟩ 8 (by kernel_rfl) (by kernel_rfl) (by kernel_rfl) (by kernel_rfl))
    laidOut readable rfl Try.underlying4 rfl (fun ds h => by rw [Try.params5] at h; match ds, h with | [_, _], _ => rfl) ?_
  intro W base args ds p hval0 hA0 _ hsh
  have hval : ∀ (j : Nat) t v, Try.f5.params[j]? = some t → args[j]? = some v → Value.okWide Try.prog W .any base t v := hval0
  have hA : DataW.TrodAll enc Try.prog W 0 (fun _ => true) true Try.f5.params.toList args.toList ds p := hA0
  rw [Try.params5] at hA hval
  obtain ⟨v0, v1, d0, d1, p0, p1, rfl, rfl, rfl, h0, h1⟩ := trodAll_two hA
  obtain ⟨s0, A0, c0, rfl, hr0, hl0, hb0, hf0⟩ := LM.open_state (hval 0 25 v0 rfl rfl) h0
  obtain ⟨a1, rfl, rfl, rfl, wa1⟩ := open_int Try.underlying5 (hval 1 5 v1 rfl rfl) h1
  obtain ⟨m, hm⟩ := Try.laysM145.s1_3 W hsh
  exact LM.same_any s0 A0 c0 a1 wa1 m W hm hr0 hl0 hb0 hf0

theorem holds : Rows.LmtpSameSaid :=
  OpenClaim.holds_of_wide 5 Try.f5 rfl rfl rfl rfl rfl rfl rfl ⟨rfl, rfl, rfl, rfl, rfl⟩ rfl rfl rfl rfl rfl (by kernel_rfl) Try.func5 (by kernel_rfl)
    (of_decide_eq_true (by kernel_rfl)) (by unfold Func.isWrapper; first | (rw [if_pos (by decide +kernel)]; kernel_rfl) | (rw [if_neg (by decide +kernel)]; exact ⟨rfl, rfl⟩))
    (fun os started H enc _ => lifted os started H enc)
end Go.Proofs.Ytnckfgihbimacaa.lmtpSame

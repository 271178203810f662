/- The statement LmtpReplies holds: for every input the law returns true and leaves its arguments as they were. No condition. -/
import Derived.Test.YtnckfgihbimacaaRows
import Derived.Test.YtnckfgihbimacaaLmtpReplies
import Derived.Test.YtnckfgihbimacaaLawEnd
import Derived.Test.YtnckfgihbimacaaOpenS
namespace Go.Proofs.Ytnckfgihbimacaa.lmtpReplies
open Go.ChangeShapes Go.WideShapes Go.ChangeAt Go.RowKit
open Go.ChangeMaps (open_string shut_string)

theorem own : ownKnob Try.prog.godebug = none := by kernel_rfl
theorem laidOut : laidOutB Try.prog = true := by kernel_rfl
theorem readable : ∀ t ∈ Try.f3.params.toList, Try.prog.readableRec t = true ∧ t < Try.prog.types.size := by
  rw [Try.params3]
  intro t ht
  obtain rfl : t = 22 := by simpa using ht
  all_goals exact ⟨by kernel_rfl, of_decide_eq_true (by kernel_rfl)⟩

set_option maxRecDepth 100000 in
theorem lifted (os : Os) (started : os.Started) (H : Type) (enc : TypeId × Value → H) :
    ReturnsInHanded {} Try.checked os 3 .any (Rows.lmtpRepliesSpec.pre6 enc Try.prog Try.f3 Rows.lmtpRepliesRow.domain false) (Rows.lmtpRepliesSpec.post enc Try.prog Try.f3 false true false false) := by
  refine LE.law_lifted (C := Try.checked) (tb := 4) own started (by kernel_rfl) Try.func3
    (ChangeSpec.witness6 (enc := enc) (C := Try.checked) false ⟨#[], #[.slice none 0 0, .slice none 0 0], []⟩ 8 (by kernel_rfl) (by kernel_rfl) (by kernel_rfl) (by kernel_rfl))
    laidOut readable rfl Try.underlying4 rfl (fun ds h => by rw [Try.params3] at h; match ds, h with | [_, _], _ => rfl) ?_
  intro W base args ds p hval0 hA0 _ hsh
  have hval : ∀ (j : Nat) t v, Try.f3.params[j]? = some t → args[j]? = some v → Value.okWide Try.prog W .any base t v := hval0
  have hA : DataW.TrodAll enc Try.prog W 0 (fun _ => true) true Try.f3.params.toList args.toList ds p := hA0
  rw [Try.params3] at hA hval
  obtain ⟨v0, v1, d0, d1, p0, p1, rfl, rfl, rfl, h0, h1⟩ := trodAll_two hA
  obtain ⟨xs0, hx0, hxl0, hxn0⟩ := MM.open_rds Try.underlying22 Try.underlying9 (by kernel_rfl) (hval 0 22 v0 rfl rfl) h0
  obtain ⟨xs1, hx1, hxl1, hxn1⟩ := MM.open_rds Try.underlying22 Try.underlying9 (by kernel_rfl) (hval 1 22 v1 rfl rfl) h1
  obtain ⟨m, hm⟩ := Try.laysM145.s1_3 W hsh
  exact LM.replies_any v0 xs0 v1 xs1 m W hm hx0 hxl0 hxn0 hx1 hxl1 hxn1

theorem holds : Rows.LmtpRepliesSaid :=
  OpenClaim.holds_of_wide 3 Try.f3 rfl rfl rfl rfl rfl rfl rfl ⟨rfl, rfl, rfl, rfl, rfl⟩ rfl rfl rfl rfl rfl (by kernel_rfl) Try.func3 (by kernel_rfl)
    (of_decide_eq_true (by kernel_rfl)) (by unfold Func.isWrapper; first | (rw [if_pos (by decide +kernel)]; kernel_rfl) | (rw [if_neg (by decide +kernel)]; exact ⟨rfl, rfl⟩))
    (fun os started H enc _ => lifted os started H enc)
end Go.Proofs.Ytnckfgihbimacaa.lmtpReplies

/- The statement LinesPlain holds: for every input the law returns true and leaves its arguments as they were. No condition. -/
import Derived.Test.YtmjmabpcpicemaaRows
import Derived.Test.YtmjmabpcpicemaaLinesPlainLaw
import Derived.Test.YtmjmabpcpicemaaLawEnd
import Derived.Test.YtmjmabpcpicemaaOpenS
namespace Go.Proofs.Ytmjmabpcpicemaa.linesPlain
open Go.ChangeShapes Go.WideShapes Go.ChangeAt Go.RowKit
open Go.ChangeMaps (open_string shut_string)

theorem own : ownKnob Try.prog.godebug = none := by kernel_rfl
theorem laidOut : laidOutB Try.prog = true := by kernel_rfl
theorem readable : ∀ t ∈ Try.f6.params.toList, Try.prog.readableRec t = true ∧ t < Try.prog.types.size := by
  rw [Try.params6]
  intro t ht
  obtain rfl : t = 30 := by simpa using ht
  all_goals exact ⟨by kernel_rfl, of_decide_eq_true (by kernel_rfl)⟩

set_option maxRecDepth 100000 in
theorem lifted (os : Os) (started : os.Started) (H : Type) (enc : TypeId × Value → H) :
    ReturnsInHanded {} Try.checked os 6 .any (Rows.linesPlainSpec.pre6 enc Try.prog Try.f6 Rows.linesPlainRow.domain false) (Rows.linesPlainSpec.post enc Try.prog Try.f6 false true false false) := by
  refine LE.law_lifted (C := Try.checked) (tb := 4) own started (by kernel_rfl) Try.func6
    (ChangeSpec.witness6 (enc := enc) (C := Try.checked) false ⟨#[], #[.slice none 0 0], []⟩ 8 (by kernel_rfl) (by kernel_rfl) (by kernel_rfl) (by kernel_rfl))
    laidOut readable rfl Try.underlying4 rfl (fun ds h => by rw [Try.params6] at h; match ds, h with | [_], _ => rfl) ?_
  intro W base args ds p hval0 hA0 _ hsh
  have hval : ∀ (j : Nat) t v, Try.f6.params[j]? = some t → args[j]? = some v → Value.okWide Try.prog W .any base t v := hval0
  have hA : DataW.TrodAll enc Try.prog W 0 (fun _ => true) true Try.f6.params.toList args.toList ds p := hA0
  rw [Try.params6] at hA hval
  obtain ⟨v0, d0, rfl, rfl, h0⟩ := trodAll_one hA
  obtain ⟨xs0, hx0, hxl0, hxn0⟩ := MM.open_rds Try.underlying30 Try.underlying9 (by kernel_rfl) (hval 0 30 v0 rfl rfl) h0
  obtain ⟨m, hm⟩ := Try.laysM145.s1_3 W hsh
  exact LN.law_plain v0 xs0 m W hm hx0 hxl0 hxn0

theorem holds : Rows.LinesPlainSaid :=
  OpenClaim.holds_of_wide 6 Try.f6 rfl rfl rfl rfl rfl rfl rfl ⟨rfl, rfl, rfl, rfl, rfl⟩ rfl rfl rfl rfl rfl (by kernel_rfl) Try.func6 (by kernel_rfl)
    (of_decide_eq_true (by kernel_rfl)) (by unfold Func.isWrapper; first | (rw [if_pos (by decide +kernel)]; kernel_rfl) | (rw [if_neg (by decide +kernel)]; exact ⟨rfl, rfl⟩))
    (fun os started H enc _ => lifted os started H enc)
end Go.Proofs.Ytmjmabpcpicemaa.linesPlain

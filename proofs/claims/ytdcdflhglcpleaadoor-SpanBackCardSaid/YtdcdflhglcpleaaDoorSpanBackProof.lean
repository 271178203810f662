/- The statement SpanBack holds, as a card: for every input the law returns true and leaves its arguments as they were, the listed variables of Go's library holding what its text lays. No other condition. -/
import Derived.Test.YtdcdflhglcpleaaDoorCards
import Derived.Test.YtdcdflhglcpleaaDoorTie
import Derived.Test.YtdcdflhglcpleaaDoorSpanBackLaw
import Derived.Test.YtdcdflhglcpleaaDoorLawCard
import Derived.Lib.LaidTab
import Derived.LaidSub
import Derived.Test.YtdcdflhglcpleaaDoorOpenR
namespace Go.Proofs.YtdcdflhglcpleaaDoor.spanBack
open Go.ChangeShapes Go.WideShapes Go.ChangeAt Go.RowKit
open Go.ChangeMaps (open_string shut_string)

theorem own : ownKnob Tryd.prog.godebug = none := by kernel_rfl
theorem laidOut : laidOutB Tryd.prog = true := by kernel_rfl
theorem readable : ∀ t ∈ Tryd.f6.params.toList, Tryd.prog.readableRec t = true ∧ t < Tryd.prog.types.size := by
  rw [Tryd.params6]
  intro t ht
  obtain rfl | rfl : t = 41 ∨ t = 3 := by simpa using ht
  all_goals exact ⟨by kernel_rfl, of_decide_eq_true (by kernel_rfl)⟩

/-- a world for the witness: the listed variables hold what is listed -/
noncomputable def laidWorld (os : Os) : World :=
  { World.holding Tryd.prog os ⟨#[], #[], []⟩ with heap := (((((((((((World.holding Tryd.prog os ⟨#[], #[], []⟩).heap).modify 4 (LE.put (LE.cells1 Rows.laid_math_bits_deBruijn32tab)))).modify 5 (LE.put (LE.cells1 Rows.laid_math_bits_deBruijn64tab)))).modify 3 (LE.put (LE.cells1 Rows.laid_internal_strconv_uint64pow10)))).modify 2 (LE.put (LE.cells2 Rows.laid_unicode_utf8_acceptRanges)))).modify 1 (LE.put (LE.cells1 Rows.laid_unicode_utf8_first))) }
theorem laid_met (os : Os) : laidMet Tryd.prog Rows.spanBackRow.laid ((laidWorld os).forCall (fun _ _ => 0) ⟨#[], #[.slice none 0 0, .int .i64 0, .int .i64 0], []⟩).memory :=
  laidMet_of_run' 8 (by kernel_rfl) (by kernel_rfl)
theorem reads (os : Os) {H : Type} (enc : TypeId × Value → H) : ∃ places, DataW.whole enc Tryd.prog ((laidWorld os).forCall (fun _ _ => 0) ⟨#[], #[.slice none 0 0, .int .i64 0, .int .i64 0], []⟩).memory Tryd.f6.params.toList Rows.spanBackSpec.vars false #[Value.slice none 0 0, Value.int .i64 0, Value.int .i64 0].toList 8 = some ([.nil, .lit (.int .i64 0), .lit (.int .i64 0)], [], places) :=
  ⟨[], by kernel_rfl⟩

set_option maxRecDepth 100000 in
theorem lifted (os : Os) (started : os.Started) (H : Type) (enc : TypeId × Value → H) (F : Stop.Interp) :
    ReturnsInHanded {} Tryd.checked os 6 .any ((OpenSpec.ofChange Rows.spanBackSpec).preRow enc Tryd.prog Tryd.f6 Rows.spanBackRow.domain false Rows.spanBackRow.laid) (((OpenSpec.ofChange Rows.spanBackSpec).at F).post enc Tryd.prog Tryd.f6 false true false false) := by
  obtain ⟨places, hx⟩ := reads os enc
  refine LE.law_row (C := Tryd.checked) (tb := 4) own started (by kernel_rfl) Tryd.func6
    (witness_row_at (enc := enc) (C := Tryd.checked) false (laidWorld os) #[.slice none 0 0, .int .i64 0, .int .i64 0] rfl (by kernel_rfl) (by kernel_rfl) (by kernel_rfl)
      (OpenSpec.preRow_of_cond 8 hx (by kernel_rfl) (fun k hk => by cases hk) (by kernel_rfl) (laid_met os)))
    laidOut readable rfl Tryd.underlying4 rfl (fun ds h => by rw [Tryd.params6] at h; match ds, h with | [_, _, _], _ => rfl) ?_
  intro W base args ds p hval0 hA0 hsh hL
  have hval : ∀ (j : Nat) t v, Tryd.f6.params[j]? = some t → args[j]? = some v → Value.okWide Tryd.prog W .any base t v := hval0
  have hA : DataW.TrodAll enc Tryd.prog W 0 (fun _ => true) true Tryd.f6.params.toList args.toList ds p := hA0
  rw [Tryd.params6] at hA hval
  obtain ⟨v0, v1, v2, d0, d1, d2, p0, p1, p2, rfl, rfl, rfl, h0, h1, h2⟩ := trodAll_three hA
  obtain ⟨L0, hR0, hw0, hl0⟩ := SP.open_rdk Tryd.underlying41 Tryd.underlying5 (by kernel_rfl) (hval 0 41 v0 rfl rfl) h0
  obtain ⟨a1, rfl, rfl, rfl, wa1⟩ := open_int Tryd.underlying3 (hval 1 3 v1 rfl rfl) h1
  obtain ⟨a2, rfl, rfl, rfl, wa2⟩ := open_int Tryd.underlying3 (hval 2 3 v2 rfl rfl) h2
  have hL2 := (laidMetH_iff.1 hL).1.filter (fun x => x.1 == "internal/strconv.uint64pow10")
  have hL3 : laidMet Tryd.prog [("internal/strconv.uint64pow10", Lib.tabData .u64 Lib.pow10Tab)] W := by
    rw [show (Rows.spanBackRow.laid.filter fun x => x.2.handleName?.isNone).filter (fun x => x.1 == "internal/strconv.uint64pow10") = [("internal/strconv.uint64pow10", Lib.tabData .u64 Lib.pow10Tab)] by kernel_rfl] at hL2
    exact hL2
  have htab : Lib.TabIs Tryd.prog W "internal/strconv.uint64pow10" .u64 Lib.pow10Tab := Lib.tabIs_of_head (g := 3) (t := 90) (e := 77) (n := 20) (by kernel_rfl) (by kernel_rfl) (by kernel_rfl) (by kernel_rfl) (by kernel_rfl) (by kernel_rfl) hL3
  obtain ⟨m, hm⟩ := Tryd.laysM145.s1_3 W hsh
  exact SP.back_any v0 L0 a1 a2 m W hR0 (fun z hz => by have := hw0 z hz; simp [Lit.wf] at this; have e1 : IntKind.u8.min = 0 := (by decide); have e2 : IntKind.u8.max = 255 := (by decide); omega) hl0 htab hm


theorem said : Rows.SpanBackSaid :=
  OpenClaim.holds_of_cond 6 Tryd.f6 rfl rfl rfl rfl rfl rfl rfl ⟨rfl, rfl, rfl, rfl, rfl⟩ rfl rfl rfl rfl rfl (by kernel_rfl) Tryd.func6 (by kernel_rfl)
    (of_decide_eq_true (by kernel_rfl)) (by unfold Func.isWrapper; first | (rw [if_pos (by decide +kernel)]; kernel_rfl) | (rw [if_neg (by decide +kernel)]; exact ⟨rfl, rfl⟩))
    (fun os started H enc _ F => by rw [OpenClaim.pre_eq_preRow]; exact lifted os started H enc F)

theorem plain (f : FuncId) (fn : Func) (hf : Tryd.pinned.checked.prog.funcNamed "mailsack/mailsacklaw14.SpanBack" = some f) (hfn : Tryd.pinned.checked.prog.funcs[f]? = some fn) :
    false = Tryd.pinned.checked.prog.looks [] ∧ ∀ (j : Nat) t, fn.params[j]? = some t → Tryd.pinned.checked.prog.wantsStandIn t = false := by
  obtain rfl : f = 6 := Option.some.inj ((show Tryd.prog.funcNamed "mailsack/mailsacklaw14.SpanBack" = some 6 by kernel_rfl).symm.trans hf) |>.symm
  obtain rfl : fn = Tryd.f6 := (Option.some.inj (Tryd.func6.symm.trans hfn)).symm
  refine ⟨by kernel_rfl, fun j t ht => ?_⟩
  rw [Tryd.params6] at ht
  have ht' := Array.mem_of_getElem? ht
  obtain rfl | rfl : t = 41 ∨ t = 3 := by simpa using ht'
  all_goals first | exact (show Tryd.prog.wantsStandIn 41 = false by kernel_rfl) | exact (show Tryd.prog.wantsStandIn 3 = false by kernel_rfl)

theorem card : Rows.SpanBackCardSaid :=
  Claim7.holds_tied_plain_at .later [] _ _ _ _ said (fun _ h => by cases h) (by kernel_rfl) (fun _ h => by cases h) spanBack_row_tie rfl ⟨rfl, rfl⟩ (by kernel_rfl) rfl plain (by kernel_rfl)
end Go.Proofs.YtdcdflhglcpleaaDoor.spanBack

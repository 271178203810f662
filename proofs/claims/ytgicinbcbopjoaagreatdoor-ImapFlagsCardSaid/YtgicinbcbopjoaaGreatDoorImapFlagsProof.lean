/- The statement ImapFlags holds, as a card: for every input the law returns true and leaves its arguments as they were, the listed variables of Go's library holding what its text lays. No other condition. -/
import Derived.Test.YtgicinbcbopjoaaGreatDoorCards
import Derived.Test.YtgicinbcbopjoaaGreatDoorTie
import Derived.Test.YtgicinbcbopjoaaGreatDoorImapFlagsLaw
import Derived.Test.YtgicinbcbopjoaaGreatDoorLawCard
import Derived.Test.YtgicinbcbopjoaaGreatDoorOpenS
import Derived.Test.YtgicinbcbopjoaaGreatDoorNoGo
import Derived.Lib.LaidTab
import Derived.LaidSub
namespace Go.Proofs.YtgicinbcbopjoaaGreatDoor.imapFlags
open Go.ChangeShapes Go.WideShapes Go.ChangeAt Go.RowKit
open Go.ChangeMaps (open_string shut_string)

theorem own : ownKnob Tryz.prog.godebug = none := by kernel_rfl
theorem laidOut : laidOutB Tryz.prog = true := by kernel_rfl
theorem readable : ∀ t ∈ Tryz.f3.params.toList, Tryz.prog.readableRec t = true ∧ t < Tryz.prog.types.size := by
  rw [Tryz.params3]
  intro t ht
  obtain rfl | rfl : t = 3 ∨ t = 22 := by simpa using ht
  all_goals exact ⟨by kernel_rfl, of_decide_eq_true (by kernel_rfl)⟩

/-- a world for the witness: the listed variables hold what is listed -/
noncomputable def laidWorld (os : Os) : World :=
  { World.holding Tryz.prog os ⟨#[], #[], []⟩ with heap := (((((((((((((((((World.holding Tryz.prog os ⟨#[], #[], []⟩).heap).modify 4 (LE.put (LE.cells1 Rows.laid_math_bits_deBruijn32tab)))).modify 5 (LE.put (LE.cells1 Rows.laid_math_bits_deBruijn64tab)))).modify 3 (LE.put (LE.cells1 Rows.laid_internal_strconv_uint64pow10)))).modify 1 (LE.put (LE.cells1 Rows.laid_mailsack_sha_initial)))).modify 2 (LE.put (LE.cells1 Rows.laid_mailsack_sha_rounds)))).modify 8 (LE.put (LE.cells2 Rows.laid_unicode_utf8_acceptRanges)))).modify 6 (LE.put (LE.cells1 Rows.laid_mailsack_seal_classes)))).modify 7 (LE.put (LE.cells1 Rows.laid_unicode_utf8_first))) }
theorem laid_met (os : Os) : laidMet Tryz.prog Rows.imapFlagsRow.laid ((laidWorld os).forCall (fun _ _ => 0) ⟨#[], #[.int .i64 0, .slice none 0 0], []⟩).memory :=
  laidMet_of_run' 8 (by kernel_rfl) (by kernel_rfl)
theorem reads (os : Os) {H : Type} (enc : TypeId × Value → H) : ∃ places, DataW.whole enc Tryz.prog ((laidWorld os).forCall (fun _ _ => 0) ⟨#[], #[.int .i64 0, .slice none 0 0], []⟩).memory Tryz.f3.params.toList Rows.imapFlagsSpec.vars false #[Value.int .i64 0, Value.slice none 0 0].toList 8 = some ([.lit (.int .i64 0), .nil], [], places) :=
  ⟨[], by kernel_rfl⟩

set_option maxRecDepth 100000 in
theorem lifted (os : Os) (started : os.Started) (H : Type) (enc : TypeId × Value → H) (F : Stop.Interp) :
    ReturnsInHanded {} Tryz.checked os 3 .any ((OpenSpec.ofChange Rows.imapFlagsSpec).preRow enc Tryz.prog Tryz.f3 Rows.imapFlagsRow.domain false Rows.imapFlagsRow.laid) (((OpenSpec.ofChange Rows.imapFlagsSpec).at F).post enc Tryz.prog Tryz.f3 false true false false) := by
  obtain ⟨places, hx⟩ := reads os enc
  refine LE.law_row (C := Tryz.checked) (tb := 4) own started (by kernel_rfl) Tryz.func3
    (witness_row_at (enc := enc) (C := Tryz.checked) false (laidWorld os) #[.int .i64 0, .slice none 0 0] rfl (by kernel_rfl) (by kernel_rfl) (by kernel_rfl)
      (OpenSpec.preRow_of_cond 8 hx (by kernel_rfl) (fun k hk => by cases hk) (by kernel_rfl) (laid_met os)))
    laidOut readable rfl Tryz.underlying4 rfl (fun ds h => by rw [Tryz.params3] at h; match ds, h with | [_, _], _ => rfl) ?_
  intro W base args ds p hval0 hA0 hsh hL
  have hval : ∀ (j : Nat) t v, Tryz.f3.params[j]? = some t → args[j]? = some v → Value.okWide Tryz.prog W .any base t v := hval0
  have hA : DataW.TrodAll enc Tryz.prog W 0 (fun _ => true) true Tryz.f3.params.toList args.toList ds p := hA0
  rw [Tryz.params3] at hA hval
  obtain ⟨v0, v1, d0, d1, p0, p1, rfl, rfl, rfl, h0, h1⟩ := trodAll_two hA
  obtain ⟨a0, rfl, rfl, rfl, wa0⟩ := open_int Tryz.underlying3 (hval 0 3 v0 rfl rfl) h0
  obtain ⟨L1, hR1, hw1, hl1⟩ := MM.open_rds Tryz.underlying22 Tryz.underlying9 (by kernel_rfl) (hval 1 22 v1 rfl rfl) h1
  exact IM.imapFlags_law a0 _ L1 W hR1 hl1 hw1


theorem k_inPlace : Tryz.prog.inPlace 3 = Rows.imapFlagsRow.inPlace := by kernel_rfl
theorem k_unfollowed : Tryz.prog.unfollowed 3 = Rows.imapFlagsRow.unfollowed := by kernel_rfl
theorem k_recurses : Tryz.prog.recurses 3 = Rows.imapFlagsRow.recurses := by kernel_rfl
theorem k_named : Tryz.prog.varsNamed 3 = Rows.imapFlagsRow.named := by kernel_rfl
set_option maxRecDepth 100000 in
theorem closed : joinedFacts Tryz.prog 3 Tryz.f3 (OpenSpec.ofChange Rows.imapFlagsSpec).bare Rows.imapFlagsRow = true := by
  unfold joinedFacts
  rw [k_inPlace, k_unfollowed, k_recurses, k_named]
  kernel_rfl

theorem said : Rows.ImapFlagsSaid :=
  OpenClaim.holds_of_cond 3 Tryz.f3 rfl rfl rfl rfl rfl rfl rfl ⟨rfl, rfl, rfl, rfl, rfl⟩ rfl rfl rfl rfl rfl (by kernel_rfl) Tryz.func3 closed
    (of_decide_eq_true (by kernel_rfl)) (by unfold Func.isWrapper; first | (rw [if_pos (by decide +kernel)]; kernel_rfl) | (rw [if_neg (by decide +kernel)]; exact ⟨rfl, rfl⟩))
    (fun os started H enc _ F => by rw [OpenClaim.pre_eq_preRow]; exact lifted os started H enc F)

set_option maxRecDepth 100000 in
theorem plain (f : FuncId) (fn : Func) (hf : Tryz.pinned.checked.prog.funcNamed "mailsack/mailsacklaw22.ImapFlags" = some f) (hfn : Tryz.pinned.checked.prog.funcs[f]? = some fn) :
    true = Tryz.pinned.checked.prog.looks [] ∧ ∀ (j : Nat) t, fn.params[j]? = some t → Tryz.pinned.checked.prog.wantsStandIn t = false := by
  obtain rfl : f = 3 := Option.some.inj ((show Tryz.prog.funcNamed "mailsack/mailsacklaw22.ImapFlags" = some 3 by kernel_rfl).symm.trans hf) |>.symm
  obtain rfl : fn = Tryz.f3 := (Option.some.inj (Tryz.func3.symm.trans hfn)).symm
  refine ⟨by kernel_rfl, fun j t ht => ?_⟩
  rw [Tryz.params3] at ht
  have ht' := Array.mem_of_getElem? ht
  obtain rfl | rfl : t = 3 ∨ t = 22 := by simpa using ht'
  all_goals first | exact (show Tryz.prog.wantsStandIn 3 = false by kernel_rfl) | exact (show Tryz.prog.wantsStandIn 22 = false by kernel_rfl)

theorem card : Rows.ImapFlagsCardSaid :=
  Claim7.holds_tied_plain_at .later [] _ _ _ _ said (fun _ h => by cases h) (by kernel_rfl) (fun _ h => by cases h) imapFlags_row_tie rfl ⟨rfl, rfl⟩ (by kernel_rfl) rfl plain (NG.goesBy rfl)
end Go.Proofs.YtgicinbcbopjoaaGreatDoor.imapFlags

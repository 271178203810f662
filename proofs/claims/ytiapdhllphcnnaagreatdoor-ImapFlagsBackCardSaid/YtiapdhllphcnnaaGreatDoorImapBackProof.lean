/- The statement ImapFlagsBack holds, as a card: for every input the law returns true and leaves its arguments as they were, the listed variables of Go's library holding what its text lays. No other condition. -/
import Derived.Test.YtiapdhllphcnnaaGreatDoorCards
import Derived.Test.YtiapdhllphcnnaaGreatDoorTie
import Derived.Test.YtiapdhllphcnnaaGreatDoorImapBackLaw
import Derived.Test.YtiapdhllphcnnaaGreatDoorLawCard
import Derived.Test.YtiapdhllphcnnaaGreatDoorOpenIx
import Derived.Test.YtiapdhllphcnnaaGreatDoorNoGo
import Derived.Lib.LaidTab
import Derived.LaidSub
namespace Go.Proofs.YtiapdhllphcnnaaGreatDoor.imapFlagsBack
open Go.ChangeShapes Go.WideShapes Go.ChangeAt Go.RowKit
open Go.ChangeMaps (open_string shut_string)

theorem own : ownKnob Tryz.prog.godebug = none := by kernel_rfl
theorem laidOut : laidOutB Tryz.prog = true := by kernel_rfl
theorem readable : ∀ t ∈ Tryz.f4.params.toList, Tryz.prog.readableRec t = true ∧ t < Tryz.prog.types.size := by
  rw [Tryz.params4]
  intro t ht
  obtain rfl | rfl | rfl : t = 5 ∨ t = 34 ∨ t = 38 := by simpa using ht
  all_goals exact ⟨by kernel_rfl, of_decide_eq_true (by kernel_rfl)⟩

/-- a world for the witness: the listed variables hold what is listed -/
noncomputable def laidWorld (os : Os) : World :=
  { World.holding Tryz.prog os ⟨#[], #[], []⟩ with heap := (((((((((((((((((World.holding Tryz.prog os ⟨#[], #[], []⟩).heap).modify 7 (LE.put (LE.cells1 Rows.laid_math_bits_deBruijn32tab)))).modify 8 (LE.put (LE.cells1 Rows.laid_math_bits_deBruijn64tab)))).modify 2 (LE.put (LE.cells1 Rows.laid_internal_strconv_uint64pow10)))).modify 1 (LE.put (LE.cells1 Rows.laid_mailsack_sha_initial)))).modify 3 (LE.put (LE.cells1 Rows.laid_mailsack_sha_rounds)))).modify 6 (LE.put (LE.cells2 Rows.laid_unicode_utf8_acceptRanges)))).modify 4 (LE.put (LE.cells1 Rows.laid_mailsack_seal_classes)))).modify 5 (LE.put (LE.cells1 Rows.laid_unicode_utf8_first))) }
theorem laid_met (os : Os) : laidMet Tryz.prog Rows.imapFlagsBackRow.laid ((laidWorld os).forCall (fun _ _ => 0) ⟨#[], #[.int .u8 0, .agg #[.string ⟨#[]⟩, .string ⟨#[]⟩, .string ⟨#[]⟩, .int .i64 0, .slice none 0 0, .slice none 0 0, .int .i64 0, .string ⟨#[]⟩, .bool false, .bool false], .agg #[.string ⟨#[]⟩, .string ⟨#[]⟩, .string ⟨#[]⟩, .string ⟨#[]⟩, .string ⟨#[]⟩, .int .i64 0]], []⟩).memory :=
  laidMet_of_run' 8 (by kernel_rfl) (by kernel_rfl)
theorem reads (os : Os) {H : Type} (enc : TypeId × Value → H) : ∃ places, DataW.whole enc Tryz.prog ((laidWorld os).forCall (fun _ _ => 0) ⟨#[], #[.int .u8 0, .agg #[.string ⟨#[]⟩, .string ⟨#[]⟩, .string ⟨#[]⟩, .int .i64 0, .slice none 0 0, .slice none 0 0, .int .i64 0, .string ⟨#[]⟩, .bool false, .bool false], .agg #[.string ⟨#[]⟩, .string ⟨#[]⟩, .string ⟨#[]⟩, .string ⟨#[]⟩, .string ⟨#[]⟩, .int .i64 0]], []⟩).memory Tryz.f4.params.toList Rows.imapFlagsBackSpec.vars false #[Value.int .u8 0, Value.agg #[.string ⟨#[]⟩, .string ⟨#[]⟩, .string ⟨#[]⟩, .int .i64 0, .slice none 0 0, .slice none 0 0, .int .i64 0, .string ⟨#[]⟩, .bool false, .bool false], Value.agg #[.string ⟨#[]⟩, .string ⟨#[]⟩, .string ⟨#[]⟩, .string ⟨#[]⟩, .string ⟨#[]⟩, .int .i64 0]].toList 8 = some ([.lit (.int .u8 0), .agg [.agg [.lit (.string []), .lit (.string []), .lit (.string []), .lit (.int .i64 0), .agg [.nil, .nil, .lit (.int .i64 0)]], .lit (.string []), .lit (.bool false), .lit (.bool false)], .agg [.lit (.string []), .lit (.string []), .agg [.lit (.string []), .lit (.string []), .lit (.string []), .lit (.int .i64 0)]]], [], places) :=
  ⟨[], by kernel_rfl⟩

set_option maxRecDepth 100000 in
theorem lifted (os : Os) (started : os.Started) (H : Type) (enc : TypeId × Value → H) (F : Stop.Interp) :
    ReturnsInHanded {} Tryz.checked os 4 .any ((OpenSpec.ofChange Rows.imapFlagsBackSpec).preRow enc Tryz.prog Tryz.f4 Rows.imapFlagsBackRow.domain false Rows.imapFlagsBackRow.laid) (((OpenSpec.ofChange Rows.imapFlagsBackSpec).at F).post enc Tryz.prog Tryz.f4 false true false false) := by
  obtain ⟨places, hx⟩ := reads os enc
  refine LE.law_row (C := Tryz.checked) (tb := 4) own started (by kernel_rfl) Tryz.func4
    (witness_row_at (enc := enc) (C := Tryz.checked) false (laidWorld os) #[.int .u8 0, .agg #[.string ⟨#[]⟩, .string ⟨#[]⟩, .string ⟨#[]⟩, .int .i64 0, .slice none 0 0, .slice none 0 0, .int .i64 0, .string ⟨#[]⟩, .bool false, .bool false], .agg #[.string ⟨#[]⟩, .string ⟨#[]⟩, .string ⟨#[]⟩, .string ⟨#[]⟩, .string ⟨#[]⟩, .int .i64 0]] rfl (by kernel_rfl) (by kernel_rfl) (by kernel_rfl)
      (OpenSpec.preRow_of_cond 8 hx (by kernel_rfl) (fun k hk => by cases hk) (by kernel_rfl) (laid_met os)))
    laidOut readable rfl Tryz.underlying4 rfl (fun ds h => by rw [Tryz.params4] at h; match ds, h with | [_, _, _], _ => rfl) ?_
  intro W base args ds p hval0 hA0 hsh hL
  have hval : ∀ (j : Nat) t v, Tryz.f4.params[j]? = some t → args[j]? = some v → Value.okWide Tryz.prog W .any base t v := hval0
  have hA : DataW.TrodAll enc Tryz.prog W 0 (fun _ => true) true Tryz.f4.params.toList args.toList ds p := hA0
  rw [Tryz.params4] at hA hval
  obtain ⟨v0, v1, v2, d0, d1, d2, p0, p1, p2, rfl, rfl, rfl, h0, h1, h2⟩ := trodAll_three hA
  obtain ⟨a0, rfl, rfl, rfl, wa0⟩ := open_int Tryz.underlying5 (hval 0 5 v0 rfl rfl) h0
  obtain ⟨q1a, q1b, q1c, q1x, ep1, bv1, sv1, ix1, o1a, o1b, rfl, hix1, hm1, hbl1, hsl1⟩ := IX.open_state (hval 1 34 v1 rfl rfl) h1
  obtain ⟨f2a, f2b, f2c, f2d, f2e, rd2, rfl⟩ := IX.open_drawn (hval 2 38 v2 rfl rfl) h2
  have hn : 0 ≤ a0 ∧ a0 < 256 := by
    have h := wa0
    simp [Lit.wf] at h
    have e1 : IntKind.u8.min = 0 := (by decide)
    have e2 : IntKind.u8.max = 255 := (by decide)
    omega
  exact IM.imapBack_law a0 hn.1 q1a q1b q1c q1x f2a f2b f2c f2d f2e ep1 rd2 bv1 sv1 ix1 o1a o1b W hix1 hm1 hbl1 hsl1


theorem k_inPlace : Tryz.prog.inPlace 4 = Rows.imapFlagsBackRow.inPlace := by kernel_rfl
theorem k_unfollowed : Tryz.prog.unfollowed 4 = Rows.imapFlagsBackRow.unfollowed := by kernel_rfl
theorem k_recurses : Tryz.prog.recurses 4 = Rows.imapFlagsBackRow.recurses := by kernel_rfl
theorem k_named : Tryz.prog.varsNamed 4 = Rows.imapFlagsBackRow.named := by kernel_rfl
set_option maxRecDepth 100000 in
theorem closed : joinedFacts Tryz.prog 4 Tryz.f4 (OpenSpec.ofChange Rows.imapFlagsBackSpec).bare Rows.imapFlagsBackRow = true := by
  unfold joinedFacts
  rw [k_inPlace, k_unfollowed, k_recurses, k_named]
  kernel_rfl

theorem said : Rows.ImapFlagsBackSaid :=
  OpenClaim.holds_of_cond 4 Tryz.f4 rfl rfl rfl rfl rfl rfl rfl ⟨rfl, rfl, rfl, rfl, rfl⟩ rfl rfl rfl rfl rfl (by kernel_rfl) Tryz.func4 closed
    (of_decide_eq_true (by kernel_rfl)) (by unfold Func.isWrapper; first | (rw [if_pos (by decide +kernel)]; kernel_rfl) | (rw [if_neg (by decide +kernel)]; exact ⟨rfl, rfl⟩))
    (fun os started H enc _ F => by rw [OpenClaim.pre_eq_preRow]; exact lifted os started H enc F)

set_option maxRecDepth 100000 in
theorem plain (f : FuncId) (fn : Func) (hf : Tryz.pinned.checked.prog.funcNamed "mailsack/mailsacklaw22.ImapFlagsBack" = some f) (hfn : Tryz.pinned.checked.prog.funcs[f]? = some fn) :
    true = Tryz.pinned.checked.prog.looks [] ∧ ∀ (j : Nat) t, fn.params[j]? = some t → Tryz.pinned.checked.prog.wantsStandIn t = false := by
  obtain rfl : f = 4 := Option.some.inj ((show Tryz.prog.funcNamed "mailsack/mailsacklaw22.ImapFlagsBack" = some 4 by kernel_rfl).symm.trans hf) |>.symm
  obtain rfl : fn = Tryz.f4 := (Option.some.inj (Tryz.func4.symm.trans hfn)).symm
  refine ⟨by kernel_rfl, fun j t ht => ?_⟩
  rw [Tryz.params4] at ht
  have ht' := Array.mem_of_getElem? ht
  obtain rfl | rfl | rfl : t = 5 ∨ t = 34 ∨ t = 38 := by simpa using ht'
  all_goals first | exact (show Tryz.prog.wantsStandIn 5 = false by kernel_rfl) | exact (show Tryz.prog.wantsStandIn 34 = false by kernel_rfl) | exact (show Tryz.prog.wantsStandIn 38 = false by kernel_rfl)

theorem card : Rows.ImapFlagsBackCardSaid :=
  Claim7.holds_tied_plain_at .later [] _ _ _ _ said (fun _ h => by cases h) (by kernel_rfl) (fun _ h => by cases h) imapFlagsBack_row_tie rfl ⟨rfl, rfl⟩ (by kernel_rfl) rfl plain (NG.goesBy rfl)
end Go.Proofs.YtiapdhllphcnnaaGreatDoor.imapFlagsBack

/- The statement ServerNone holds, as a card: for every input the law returns true and leaves its arguments as they were, the listed variables of Go's library holding what its text lays. No other condition. -/
import Derived.Test.YtomnljigoljldaaGreatDoorCards
import Derived.Test.YtomnljigoljldaaGreatDoorTie
import Derived.Test.YtomnljigoljldaaGreatDoorSrvTab
import Derived.Test.YtomnljigoljldaaGreatDoorLawCard
import Derived.Test.YtomnljigoljldaaGreatDoorNoGo
import Derived.Lib.LaidTab
import Derived.LaidSub
namespace Go.Proofs.YtomnljigoljldaaGreatDoor.serverNone
open Go.ChangeShapes Go.WideShapes Go.ChangeAt Go.RowKit
open Go.ChangeMaps (open_string shut_string)

theorem own : ownKnob Tryz.prog.godebug = none := by kernel_rfl
theorem laidOut : laidOutB Tryz.prog = true := by kernel_rfl
theorem readable : ∀ t ∈ Tryz.f4.params.toList, Tryz.prog.readableRec t = true ∧ t < Tryz.prog.types.size := by
  rw [Tryz.params4]
  intro t ht
  obtain rfl : t = 36 := by simpa using ht
  all_goals exact ⟨by kernel_rfl, of_decide_eq_true (by kernel_rfl)⟩

/-- a world for the witness: the listed variables hold what is listed -/
noncomputable def laidWorld (os : Os) : World :=
  { World.holding Tryz.prog os ⟨#[], #[], []⟩ with heap := (((((((((((((((((World.holding Tryz.prog os ⟨#[], #[], []⟩).heap).modify 4 (LE.put (LE.cells1 Rows.laid_math_bits_deBruijn32tab)))).modify 5 (LE.put (LE.cells1 Rows.laid_math_bits_deBruijn64tab)))).modify 3 (LE.put (LE.cells1 Rows.laid_internal_strconv_uint64pow10)))).modify 0 (LE.put (LE.cells1 Rows.laid_mailsack_sha_initial)))).modify 2 (LE.put (LE.cells1 Rows.laid_mailsack_sha_rounds)))).modify 8 (LE.put (LE.cells2 Rows.laid_unicode_utf8_acceptRanges)))).modify 6 (LE.put (LE.cells1 Rows.laid_mailsack_seal_classes)))).modify 7 (LE.put (LE.cells1 Rows.laid_unicode_utf8_first))) }
theorem laid_met (os : Os) : laidMet Tryz.prog Rows.serverNoneRow.laid ((laidWorld os).forCall (fun _ _ => 0) ⟨#[], #[.agg #[.int .i64 0, .int .i64 0, .string ⟨#[]⟩]], []⟩).memory :=
  laidMet_of_run' 8 (by kernel_rfl) (by kernel_rfl)
theorem reads (os : Os) {H : Type} (enc : TypeId × Value → H) : ∃ places, DataW.whole enc Tryz.prog ((laidWorld os).forCall (fun _ _ => 0) ⟨#[], #[.agg #[.int .i64 0, .int .i64 0, .string ⟨#[]⟩]], []⟩).memory Tryz.f4.params.toList Rows.serverNoneSpec.vars false #[Value.agg #[.int .i64 0, .int .i64 0, .string ⟨#[]⟩]].toList 8 = some ([.agg [.lit (.int .i64 0), .lit (.int .i64 0), .lit (.string [])]], [], places) :=
  ⟨[], by kernel_rfl⟩

set_option maxHeartbeats 4000000 in
set_option maxRecDepth 100000 in
theorem lifted (os : Os) (started : os.Started) (H : Type) (enc : TypeId × Value → H) (F : Stop.Interp) :
    ReturnsInHanded {} Tryz.checked os 4 .any ((OpenSpec.ofChange Rows.serverNoneSpec).preRow enc Tryz.prog Tryz.f4 Rows.serverNoneRow.domain false Rows.serverNoneRow.laid) (((OpenSpec.ofChange Rows.serverNoneSpec).at F).post enc Tryz.prog Tryz.f4 false true false false) := by
  obtain ⟨places, hx⟩ := reads os enc
  refine LE.law_row (C := Tryz.checked) (tb := 4) own started (by kernel_rfl) Tryz.func4
    (witness_row_at (enc := enc) (C := Tryz.checked) false (laidWorld os) #[.agg #[.int .i64 0, .int .i64 0, .string ⟨#[]⟩]] rfl (by kernel_rfl) (by kernel_rfl) (by kernel_rfl)
      (OpenSpec.preRow_of_cond 8 hx (by kernel_rfl) (fun k hk => by cases hk) (by kernel_rfl) (laid_met os)))
    laidOut readable rfl Tryz.underlying4 rfl (fun ds h => by rw [Tryz.params4] at h; match ds, h with | [_], _ => rfl) ?_
  intro W base args ds p hval0 hA0 hsh hL
  have hval : ∀ (j : Nat) t v, Tryz.f4.params[j]? = some t → args[j]? = some v → Value.okWide Tryz.prog W .any base t v := hval0
  have hA : DataW.TrodAll enc Tryz.prog W 0 (fun _ => true) true Tryz.f4.params.toList args.toList ds p := hA0
  rw [Tryz.params4] at hA hval
  obtain ⟨v0, d0, rfl, rfl, h0⟩ := trodAll_one hA
  obtain ⟨k0, n0, s0, rfl⟩ := SV.open_act (hval 0 36 v0 rfl rfl) h0
  have hI2 := (laidMetH_iff.1 hL).1.filter (fun x => x.1 == "mailsack/sha.initial")
  have hI3 : laidMet Tryz.prog [("mailsack/sha.initial", Lib.tabData .u32 Mailsack.initL)] W := by
    rw [show (Rows.serverNoneRow.laid.filter fun x => x.2.handleName?.isNone).filter (fun x => x.1 == "mailsack/sha.initial") = [("mailsack/sha.initial", Lib.tabData .u32 Mailsack.initL)] by kernel_rfl] at hI2
    exact hI2
  have hI : Lib.TabIs Tryz.prog W "mailsack/sha.initial" .u32 Mailsack.initL := Lib.tabIs_of_head (g := 0) (t := 353) (e := 214) (n := 8) (by kernel_rfl) (by kernel_rfl) (by kernel_rfl) (by kernel_rfl) (by kernel_rfl) (by kernel_rfl) hI3
  have hR2 := (laidMetH_iff.1 hL).1.filter (fun x => x.1 == "mailsack/sha.rounds")
  have hR3 : laidMet Tryz.prog [("mailsack/sha.rounds", Lib.tabData .u32 Mailsack.roundL)] W := by
    rw [show (Rows.serverNoneRow.laid.filter fun x => x.2.handleName?.isNone).filter (fun x => x.1 == "mailsack/sha.rounds") = [("mailsack/sha.rounds", Lib.tabData .u32 Mailsack.roundL)] by kernel_rfl] at hR2
    exact hR2
  have hR : Lib.TabIs Tryz.prog W "mailsack/sha.rounds" .u32 Mailsack.roundL := Lib.tabIs_of_head (g := 2) (t := 432) (e := 214) (n := 64) (by kernel_rfl) (by kernel_rfl) (by kernel_rfl) (by kernel_rfl) (by kernel_rfl) (by kernel_rfl) hR3
  have hSH := SV.sha_of_tabs (by kernel_rfl) (by kernel_rfl) hI hR
  obtain ⟨m, hm⟩ := Tryz.laysM145.s1_3 W hsh
  exact SV.serverNone_any k0 n0 s0 m W hSH hm

theorem k_inPlace : Tryz.prog.inPlace 4 = Rows.serverNoneRow.inPlace := by kernel_rfl
theorem k_unfollowed : Tryz.prog.unfollowed 4 = Rows.serverNoneRow.unfollowed := by kernel_rfl
theorem k_recurses : Tryz.prog.recurses 4 = Rows.serverNoneRow.recurses := by kernel_rfl
theorem k_named : Tryz.prog.varsNamed 4 = Rows.serverNoneRow.named := by kernel_rfl
set_option maxRecDepth 100000 in
theorem closed : joinedFacts Tryz.prog 4 Tryz.f4 (OpenSpec.ofChange Rows.serverNoneSpec).bare Rows.serverNoneRow = true := by
  unfold joinedFacts
  rw [k_inPlace, k_unfollowed, k_recurses, k_named]
  kernel_rfl

theorem said : Rows.ServerNoneSaid :=
  OpenClaim.holds_of_cond 4 Tryz.f4 rfl rfl rfl rfl rfl rfl rfl ⟨rfl, rfl, rfl, rfl, rfl⟩ rfl rfl rfl rfl rfl (by kernel_rfl) Tryz.func4 closed
    (of_decide_eq_true (by kernel_rfl)) (by unfold Func.isWrapper; first | (rw [if_pos (by decide +kernel)]; kernel_rfl) | (rw [if_neg (by decide +kernel)]; exact ⟨rfl, rfl⟩))
    (fun os started H enc _ F => by rw [OpenClaim.pre_eq_preRow]; exact lifted os started H enc F)

set_option maxRecDepth 100000 in
theorem plain (f : FuncId) (fn : Func) (hf : Tryz.pinned.checked.prog.funcNamed "mailsack/mailsacklaw23.ServerNone" = some f) (hfn : Tryz.pinned.checked.prog.funcs[f]? = some fn) :
    true = Tryz.pinned.checked.prog.looks [] ∧ ∀ (j : Nat) t, fn.params[j]? = some t → Tryz.pinned.checked.prog.wantsStandIn t = false := by
  obtain rfl : f = 4 := Option.some.inj ((show Tryz.prog.funcNamed "mailsack/mailsacklaw23.ServerNone" = some 4 by kernel_rfl).symm.trans hf) |>.symm
  obtain rfl : fn = Tryz.f4 := (Option.some.inj (Tryz.func4.symm.trans hfn)).symm
  refine ⟨by kernel_rfl, fun j t ht => ?_⟩
  rw [Tryz.params4] at ht
  have ht' := Array.mem_of_getElem? ht
  obtain rfl : t = 36 := by simpa using ht'
  first | exact (show Tryz.prog.wantsStandIn 36 = false by kernel_rfl)

theorem card : Rows.ServerNoneCardSaid :=
  Claim7.holds_tied_plain_at .later [] _ _ _ _ said (fun _ h => by cases h) (by kernel_rfl) (fun _ h => by cases h) serverNone_row_tie rfl ⟨rfl, rfl⟩ (by kernel_rfl) rfl plain (NG.goesBy rfl)
end Go.Proofs.YtomnljigoljldaaGreatDoor.serverNone

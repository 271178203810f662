/- The statement ServerNumbers holds, as a card: for every input the law returns true and leaves its arguments as they were, the listed variables of Go's library holding what its text lays. No other condition. -/
import Derived.Test.YtomnljigoljldaaGreatDoorCards
import Derived.Test.YtomnljigoljldaaGreatDoorTie
import Derived.Test.YtomnljigoljldaaGreatDoorSrvNumLaw
import Derived.Test.YtomnljigoljldaaGreatDoorLawCard
import Derived.Test.YtomnljigoljldaaGreatDoorOpenK
import Derived.Test.YtomnljigoljldaaGreatDoorNoGo
import Derived.Lib.LaidTab
import Derived.LaidSub
namespace Go.Proofs.YtomnljigoljldaaGreatDoor.serverNumbers
open Go.ChangeShapes Go.WideShapes Go.ChangeAt Go.RowKit
open Go.ChangeMaps (open_string shut_string)

theorem own : ownKnob Tryz.prog.godebug = none := by kernel_rfl
theorem laidOut : laidOutB Tryz.prog = true := by kernel_rfl
theorem readable : ∀ t ∈ Tryz.f3.params.toList, Tryz.prog.readableRec t = true ∧ t < Tryz.prog.types.size := by
  rw [Tryz.params3]
  intro t ht
  obtain rfl : t = 22 := by simpa using ht
  all_goals exact ⟨by kernel_rfl, of_decide_eq_true (by kernel_rfl)⟩

/-- a world for the witness: the listed variables hold what is listed -/
noncomputable def laidWorld (os : Os) : World :=
  { World.holding Tryz.prog os ⟨#[], #[], []⟩ with heap := (((((((((((((((((World.holding Tryz.prog os ⟨#[], #[], []⟩).heap).modify 4 (LE.put (LE.cells1 Rows.laid_math_bits_deBruijn32tab)))).modify 5 (LE.put (LE.cells1 Rows.laid_math_bits_deBruijn64tab)))).modify 3 (LE.put (LE.cells1 Rows.laid_internal_strconv_uint64pow10)))).modify 0 (LE.put (LE.cells1 Rows.laid_mailsack_sha_initial)))).modify 2 (LE.put (LE.cells1 Rows.laid_mailsack_sha_rounds)))).modify 8 (LE.put (LE.cells2 Rows.laid_unicode_utf8_acceptRanges)))).modify 6 (LE.put (LE.cells1 Rows.laid_mailsack_seal_classes)))).modify 7 (LE.put (LE.cells1 Rows.laid_unicode_utf8_first))) }
theorem laid_met (os : Os) : laidMet Tryz.prog Rows.serverNumbersRow.laid ((laidWorld os).forCall (fun _ _ => 0) ⟨#[], #[.slice none 0 0], []⟩).memory :=
  laidMet_of_run' 8 (by kernel_rfl) (by kernel_rfl)
theorem reads (os : Os) {H : Type} (enc : TypeId × Value → H) : ∃ places, DataW.whole enc Tryz.prog ((laidWorld os).forCall (fun _ _ => 0) ⟨#[], #[.slice none 0 0], []⟩).memory Tryz.f3.params.toList Rows.serverNumbersSpec.vars false #[Value.slice none 0 0].toList 8 = some ([.nil], [], places) :=
  ⟨[], by kernel_rfl⟩

set_option maxHeartbeats 4000000 in
set_option maxRecDepth 100000 in
theorem lifted (os : Os) (started : os.Started) (H : Type) (enc : TypeId × Value → H) (F : Stop.Interp) :
    ReturnsInHanded {} Tryz.checked os 3 .any ((OpenSpec.ofChange Rows.serverNumbersSpec).preRow enc Tryz.prog Tryz.f3 Rows.serverNumbersRow.domain false Rows.serverNumbersRow.laid) (((OpenSpec.ofChange Rows.serverNumbersSpec).at F).post enc Tryz.prog Tryz.f3 false true false false) := by
  obtain ⟨places, hx⟩ := reads os enc
  refine LE.law_row (C := Tryz.checked) (tb := 4) own started (by kernel_rfl) Tryz.func3
    (witness_row_at (enc := enc) (C := Tryz.checked) false (laidWorld os) #[.slice none 0 0] rfl (by kernel_rfl) (by kernel_rfl) (by kernel_rfl)
      (OpenSpec.preRow_of_cond 8 hx (by kernel_rfl) (fun k hk => by cases hk) (by kernel_rfl) (laid_met os)))
    laidOut readable rfl Tryz.underlying4 rfl (fun ds h => by rw [Tryz.params3] at h; match ds, h with | [_], _ => rfl) ?_
  intro W base args ds p hval0 hA0 hsh hL
  have hval : ∀ (j : Nat) t v, Tryz.f3.params[j]? = some t → args[j]? = some v → Value.okWide Tryz.prog W .any base t v := hval0
  have hA : DataW.TrodAll enc Tryz.prog W 0 (fun _ => true) true Tryz.f3.params.toList args.toList ds p := hA0
  rw [Tryz.params3] at hA hval
  obtain ⟨v0, d0, rfl, rfl, h0⟩ := trodAll_one hA
  obtain ⟨L0, hR0, hw0, hl0⟩ := MM.open_rdk Tryz.underlying22 Tryz.underlying27 (by kernel_rfl) (hval 0 22 v0 rfl rfl) h0
  have hI2 := (laidMetH_iff.1 hL).1.filter (fun x => x.1 == "mailsack/sha.initial")
  have hI3 : laidMet Tryz.prog [("mailsack/sha.initial", Lib.tabData .u32 Mailsack.initL)] W := by
    rw [show (Rows.serverNumbersRow.laid.filter fun x => x.2.handleName?.isNone).filter (fun x => x.1 == "mailsack/sha.initial") = [("mailsack/sha.initial", Lib.tabData .u32 Mailsack.initL)] by kernel_rfl] at hI2
    exact hI2
  have hI : Lib.TabIs Tryz.prog W "mailsack/sha.initial" .u32 Mailsack.initL := Lib.tabIs_of_head (g := 0) (t := 353) (e := 214) (n := 8) (by kernel_rfl) (by kernel_rfl) (by kernel_rfl) (by kernel_rfl) (by kernel_rfl) (by kernel_rfl) hI3
  have hR2 := (laidMetH_iff.1 hL).1.filter (fun x => x.1 == "mailsack/sha.rounds")
  have hR3 : laidMet Tryz.prog [("mailsack/sha.rounds", Lib.tabData .u32 Mailsack.roundL)] W := by
    rw [show (Rows.serverNumbersRow.laid.filter fun x => x.2.handleName?.isNone).filter (fun x => x.1 == "mailsack/sha.rounds") = [("mailsack/sha.rounds", Lib.tabData .u32 Mailsack.roundL)] by kernel_rfl] at hR2
    exact hR2
  have hR : Lib.TabIs Tryz.prog W "mailsack/sha.rounds" .u32 Mailsack.roundL := Lib.tabIs_of_head (g := 2) (t := 432) (e := 214) (n := 64) (by kernel_rfl) (by kernel_rfl) (by kernel_rfl) (by kernel_rfl) (by kernel_rfl) (by kernel_rfl) hR3
  have hSH := SV.sha_of_tabs (by kernel_rfl) (by kernel_rfl) hI hR
  obtain ⟨m, hm⟩ := Tryz.laysM145.s1_3 W hsh
  exact SV.numbers_any v0 L0 m W hR0 hw0 hl0 hSH hm

theorem k_inPlace : Tryz.prog.inPlace 3 = Rows.serverNumbersRow.inPlace := by kernel_rfl
theorem k_unfollowed : Tryz.prog.unfollowed 3 = Rows.serverNumbersRow.unfollowed := by kernel_rfl
theorem k_recurses : Tryz.prog.recurses 3 = Rows.serverNumbersRow.recurses := by kernel_rfl
theorem k_named : Tryz.prog.varsNamed 3 = Rows.serverNumbersRow.named := by kernel_rfl
set_option maxRecDepth 100000 in
theorem closed : joinedFacts Tryz.prog 3 Tryz.f3 (OpenSpec.ofChange Rows.serverNumbersSpec).bare Rows.serverNumbersRow = true := by
  unfold joinedFacts
  rw [k_inPlace, k_unfollowed, k_recurses, k_named]
  kernel_rfl

theorem said : Rows.ServerNumbersSaid :=
  OpenClaim.holds_of_cond 3 Tryz.f3 rfl rfl rfl rfl rfl rfl rfl ⟨rfl, rfl, rfl, rfl, rfl⟩ rfl rfl rfl rfl rfl (by kernel_rfl) Tryz.func3 closed
    (of_decide_eq_true (by kernel_rfl)) (by unfold Func.isWrapper; first | (rw [if_pos (by decide +kernel)]; kernel_rfl) | (rw [if_neg (by decide +kernel)]; exact ⟨rfl, rfl⟩))
    (fun os started H enc _ F => by rw [OpenClaim.pre_eq_preRow]; exact lifted os started H enc F)

set_option maxRecDepth 100000 in
theorem plain (f : FuncId) (fn : Func) (hf : Tryz.pinned.checked.prog.funcNamed "mailsack/mailsacklaw23.ServerNumbers" = some f) (hfn : Tryz.pinned.checked.prog.funcs[f]? = some fn) :
    true = Tryz.pinned.checked.prog.looks [] ∧ ∀ (j : Nat) t, fn.params[j]? = some t → Tryz.pinned.checked.prog.wantsStandIn t = false := by
  obtain rfl : f = 3 := Option.some.inj ((show Tryz.prog.funcNamed "mailsack/mailsacklaw23.ServerNumbers" = some 3 by kernel_rfl).symm.trans hf) |>.symm
  obtain rfl : fn = Tryz.f3 := (Option.some.inj (Tryz.func3.symm.trans hfn)).symm
  refine ⟨by kernel_rfl, fun j t ht => ?_⟩
  rw [Tryz.params3] at ht
  have ht' := Array.mem_of_getElem? ht
  obtain rfl : t = 22 := by simpa using ht'
  first | exact (show Tryz.prog.wantsStandIn 22 = false by kernel_rfl)

theorem card : Rows.ServerNumbersCardSaid :=
  Claim7.holds_tied_plain_at .later [] _ _ _ _ said (fun _ h => by cases h) (by kernel_rfl) (fun _ h => by cases h) serverNumbers_row_tie rfl ⟨rfl, rfl⟩ (by kernel_rfl) rfl plain (NG.goesBy rfl)
end Go.Proofs.YtomnljigoljldaaGreatDoor.serverNumbers

/- The statement VaultFresh holds, as a card: for every input the law returns true and leaves its arguments as they were, the listed variables of Go's library holding what its text lays. No other condition. -/
import Derived.Test.YtnaiekglbemhcaaGreatDoorCards
import Derived.Test.YtnaiekglbemhcaaGreatDoorTie
import Derived.Test.YtnaiekglbemhcaaGreatDoorVaultFreshProofB43
import Derived.Test.YtnaiekglbemhcaaGreatDoorVaultFreshProofB44
import Derived.Lib.LaidTab
import Derived.LaidSub
set_option maxHeartbeats 8000000
set_option maxRecDepth 100000
namespace Go.Proofs.YtnaiekglbemhcaaGreatDoor.vaultFresh
open Go.ChangeShapes Go.WideShapes Go.ChangeAt Go.RowKit
open Go.ChangeMaps (open_string shut_string)
theorem own : ownKnob Tryz.prog.godebug = none := by kernel_rfl
theorem laidOut : laidOutB Tryz.prog = true := by kernel_rfl
theorem readable : ∀ t ∈ Tryz.f3.params.toList, Tryz.prog.readableRec t = true ∧ t < Tryz.prog.types.size := by
 rw [Tryz.params3]
 intro t ht
 obtain rfl | rfl | rfl : t = 9 ∨ t = 23 ∨ t = 9 := by simpa using ht
 all_goals exact ⟨by kernel_rfl, of_decide_eq_true (by kernel_rfl)⟩
noncomputable def xG8 (os : Os) : World :=
 { World.holding Tryz.prog os ⟨#[], #[], []⟩ with heap := (((((((((((((World.holding Tryz.prog os ⟨#[], #[], []⟩).heap).modify 5 (LE.put (LE.xIh Rows.laid_math_bits_deBruijn32tab)))).modify 6 (LE.put (LE.xIh Rows.laid_math_bits_deBruijn64tab)))).modify 4 (LE.put (LE.xIh Rows.laid_internal_strconv_uint64pow10)))).modify 0 (LE.put (LE.xIh Rows.laid_mailsack_sha_initial)))).modify 2 (LE.put (LE.xIh Rows.laid_mailsack_sha_rounds)))).modify 1 (LE.put (LE.xIh Rows.laid_mailsack_seal_classes))) }
theorem xY1 (os : Os) : laidMet Tryz.prog Rows.vaultFreshRow.laid ((xG8 os).forCall (fun _ _ => 0) ⟨#[], #[.string ⟨#[]⟩, .string ⟨#[]⟩, .agg #[.string ⟨#[]⟩, .string ⟨#[]⟩, .string ⟨#[]⟩, .int .i64 0], .string ⟨#[]⟩], []⟩).memory :=
 laidMet_of_run' 8 (by kernel_rfl) (by kernel_rfl)
theorem reads (os : Os) {H : Type} (enc : TypeId × Value → H) : ∃ places, DataW.whole enc Tryz.prog ((xG8 os).forCall (fun _ _ => 0) ⟨#[], #[.string ⟨#[]⟩, .string ⟨#[]⟩, .agg #[.string ⟨#[]⟩, .string ⟨#[]⟩, .string ⟨#[]⟩, .int .i64 0], .string ⟨#[]⟩], []⟩).memory Tryz.f3.params.toList Rows.vaultFreshSpec.vars false #[Value.string ⟨#[]⟩, Value.string ⟨#[]⟩, Value.agg #[.string ⟨#[]⟩, .string ⟨#[]⟩, .string ⟨#[]⟩, .int .i64 0], Value.string ⟨#[]⟩].toList 8 = some ([.lit (.string []), .lit (.string []), .agg [.lit (.string []), .lit (.string []), .lit (.string []), .lit (.int .i64 0)], .lit (.string [])], [], places) :=
 ⟨[], by kernel_rfl⟩
theorem lifted (os : Os) (started : os.Started) (H : Type) (enc : TypeId × Value → H) (F : Stop.Interp) :
  ReturnsInHanded {} Tryz.checked os 3 .any ((OpenSpec.ofChange Rows.vaultFreshSpec).preRow enc Tryz.prog Tryz.f3 Rows.vaultFreshRow.domain false Rows.vaultFreshRow.laid) (((OpenSpec.ofChange Rows.vaultFreshSpec).at F).post enc Tryz.prog Tryz.f3 false true false false) := by
 obtain ⟨places, hx⟩ := reads os enc
 refine LE.yB6 (C := Tryz.checked) (tb := 4) own started (by kernel_rfl) Tryz.func3
  (witness_row_at (enc := enc) (C := Tryz.checked) false (xG8 os) #[.string ⟨#[]⟩, .string ⟨#[]⟩, .agg #[.string ⟨#[]⟩, .string ⟨#[]⟩, .string ⟨#[]⟩, .int .i64 0], .string ⟨#[]⟩] rfl (by kernel_rfl) (by kernel_rfl) (by kernel_rfl)
   (OpenSpec.preRow_of_cond 8 hx (by kernel_rfl) (fun k hk => by cases hk) (by kernel_rfl) (xY1 os)))
  laidOut readable rfl Tryz.underlying4 rfl (fun ds h => by rw [Tryz.params3] at h; match ds, h with | [_, _, _, _], _ => rfl) ?_
 intro W base args ds p hval0 hA0 hsh hL
 have hval : ∀ (j : Nat) t v, Tryz.f3.params[j]? = some t → args[j]? = some v → Value.okWide Tryz.prog W .any base t v := hval0
 have hA : DataW.TrodAll enc Tryz.prog W 0 (fun _ => true) true Tryz.f3.params.toList args.toList ds p := hA0
 rw [Tryz.params3] at hA hval
 obtain ⟨v0, v1, v2, v3, d0, d1, d2, d3, p0, p1, p2, p3, rfl, rfl, rfl, h0, h1, h2, h3⟩ := trodAll_four hA
 obtain ⟨s0, rfl, rfl, rfl, ws0⟩ := open_string Tryz.underlying9 (hval 0 9 v0 rfl rfl) h0
 obtain ⟨s1, rfl, rfl, rfl, ws1⟩ := open_string Tryz.underlying9 (hval 1 9 v1 rfl rfl) h1
 obtain ⟨fa2, fb2, fc2, fn2, rfl⟩ := SV.xR1 (hval 2 23 v2 rfl rfl) h2
 obtain ⟨s3, rfl, rfl, rfl, ws3⟩ := open_string Tryz.underlying9 (hval 3 9 v3 rfl rfl) h3
 have hI2 := (laidMetH_iff.1 hL).1.filter (fun x => x.1 == "mailsack/sha.initial")
 have hI3 : laidMet Tryz.prog [("mailsack/sha.initial", Lib.tabData .u32 Mailsack.xUx)] W := by
  rw [show (Rows.vaultFreshRow.laid.filter fun x => x.2.handleName?.isNone).filter (fun x => x.1 == "mailsack/sha.initial") = [("mailsack/sha.initial", Lib.tabData .u32 Mailsack.xUx)] by kernel_rfl] at hI2
  exact hI2
 have hI : Lib.TabIs Tryz.prog W "mailsack/sha.initial" .u32 Mailsack.xUx := Lib.tabIs_of_head (g := 0) (t := 228) (e := 184) (n := 8) (by kernel_rfl) (by kernel_rfl) (by kernel_rfl) (by kernel_rfl) (by kernel_rfl) (by kernel_rfl) hI3
 have hR2 := (laidMetH_iff.1 hL).1.filter (fun x => x.1 == "mailsack/sha.rounds")
 have hR3 : laidMet Tryz.prog [("mailsack/sha.rounds", Lib.tabData .u32 Mailsack.xAk)] W := by
  rw [show (Rows.vaultFreshRow.laid.filter fun x => x.2.handleName?.isNone).filter (fun x => x.1 == "mailsack/sha.rounds") = [("mailsack/sha.rounds", Lib.tabData .u32 Mailsack.xAk)] by kernel_rfl] at hR2
  exact hR2
 have hR : Lib.TabIs Tryz.prog W "mailsack/sha.rounds" .u32 Mailsack.xAk := Lib.tabIs_of_head (g := 2) (t := 268) (e := 184) (n := 64) (by kernel_rfl) (by kernel_rfl) (by kernel_rfl) (by kernel_rfl) (by kernel_rfl) (by kernel_rfl) hR3
 have hSH := SV.xMp (by kernel_rfl) (by kernel_rfl) hI hR
 exact VA.xVc s0 s1 s3 fa2 fb2 fc2 fn2 W hSH
theorem xUp : Tryz.prog.inPlace 3 = Rows.vaultFreshRow.inPlace := by kernel_rfl
theorem xL8 : Tryz.prog.unfollowed 3 = Rows.vaultFreshRow.unfollowed := by kernel_rfl
theorem xRd : Tryz.prog.recurses 3 = Rows.vaultFreshRow.recurses := by kernel_rfl
theorem yB9 : Tryz.prog.varsNamed 3 = Rows.vaultFreshRow.named := by kernel_rfl
theorem closed : joinedFacts Tryz.prog 3 Tryz.f3 (OpenSpec.ofChange Rows.vaultFreshSpec).bare Rows.vaultFreshRow = true := by
 unfold joinedFacts
 rw [xUp, xL8, xRd, yB9]
 kernel_rfl
theorem said : Rows.VaultFreshSaid :=
 OpenClaim.holds_of_cond 3 Tryz.f3 rfl rfl rfl rfl rfl rfl rfl ⟨rfl, rfl, rfl, rfl, rfl⟩ rfl rfl rfl rfl rfl (by kernel_rfl) Tryz.func3 closed
  (of_decide_eq_true (by kernel_rfl)) (by unfold Func.isWrapper; first | (rw [if_pos (by decide +kernel)]; kernel_rfl) | (rw [if_neg (by decide +kernel)]; exact ⟨rfl, rfl⟩))
  (fun os started H enc _ F => by rw [OpenClaim.pre_eq_preRow]; exact lifted os started H enc F)
theorem plain (f : FuncId) (fn : Func) (hf : Tryz.pinned.checked.prog.funcNamed "mailsack/mailsacklaw16.VaultFresh" = some f) (hfn : Tryz.pinned.checked.prog.funcs[f]? = some fn) :
  true = Tryz.pinned.checked.prog.looks [] ∧ ∀ (j : Nat) t, fn.params[j]? = some t → Tryz.pinned.checked.prog.wantsStandIn t = false := by
 obtain rfl : f = 3 := Option.some.inj ((show Tryz.prog.funcNamed "mailsack/mailsacklaw16.VaultFresh" = some 3 by kernel_rfl).symm.trans hf) |>.symm
 obtain rfl : fn = Tryz.f3 := (Option.some.inj (Tryz.func3.symm.trans hfn)).symm
 refine ⟨by kernel_rfl, fun j t ht => ?_⟩
 rw [Tryz.params3] at ht
 have ht' := Array.mem_of_getElem? ht
 obtain rfl | rfl | rfl : t = 9 ∨ t = 23 ∨ t = 9 := by simpa using ht'
 all_goals first | exact (show Tryz.prog.wantsStandIn 9 = false by kernel_rfl) | exact (show Tryz.prog.wantsStandIn 23 = false by kernel_rfl)
theorem card : Rows.VaultFreshCardSaid :=
 Claim7.holds_tied_plain_at .later [] _ _ _ _ said (fun _ h => by cases h) (by kernel_rfl) (fun _ h => by cases h) vaultFresh_row_tie rfl ⟨rfl, rfl⟩ (by kernel_rfl) rfl plain (NG.goesBy rfl)
end Go.Proofs.YtnaiekglbemhcaaGreatDoor.vaultFresh

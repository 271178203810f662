/- The statement VaultWhole holds, as a card: for every input the law returns true and leaves its arguments as they were, the listed variables of Go's library holding what its text lays. No other condition. -/
import Derived.Test.YtjdkeibcoiiliaaGreatDoorCards
import Derived.Test.YtjdkeibcoiiliaaGreatDoorTie
import Derived.Test.YtjdkeibcoiiliaaGreatDoorVaultWholeProofB16
import Derived.Test.YtjdkeibcoiiliaaGreatDoorVaultWholeProofB17
import Derived.Lib.LaidTab
import Derived.LaidSub
set_option maxHeartbeats 8000000
set_option maxRecDepth 100000
namespace Go.Proofs.YtjdkeibcoiiliaaGreatDoor.vaultWhole
open Go.ChangeShapes Go.WideShapes Go.ChangeAt Go.RowKit
open Go.ChangeMaps (open_string shut_string)
theorem own:ownKnob Tryz.prog.godebug=none:=κ
theorem laidOut:laidOutB Tryz.prog=true:=κ
theorem readable:∀t∈Tryz.f3.params.toList,Tryz.prog.readableRec t=true/\t<Tryz.prog.types.size:=by
 rw[Tryz.params3];intro t ht;obtain rfl|rfl|rfl|rfl|rfl|rfl:t=9∨t=23∨t=9∨t=24∨t=3∨t=25:=by simpa using ht
 all_goals exact⟨κ,of_decide_eq_true κ⟩
noncomputable def xJv (os:Os):World:=
 {World.holding Tryz.prog os ⟨#[],#[],[]⟩ with heap:=(((((((((((((World.holding Tryz.prog os ⟨#[],#[],[]⟩).heap).modify 5 (LE.put (LE.xMp Rows.laid_math_bits_deBruijn32tab)))).modify 6 (LE.put (LE.xMp Rows.laid_math_bits_deBruijn64tab)))).modify 4 (LE.put (LE.xMp Rows.laid_internal_strconv_uint64pow10)))).modify 0 (LE.put (LE.xMp Rows.laid_mailsack_sha_initial)))).modify 2 (LE.put (LE.xMp Rows.laid_mailsack_sha_rounds)))).modify 1 (LE.put (LE.xMp Rows.laid_mailsack_seal_classes)))}
theorem yH3 (os:Os):laidMet Tryz.prog Rows.vaultWholeRow.laid ((xJv os).forCall (λ_ _=>0) ⟨#[],#[.string ⟨#[]⟩,.agg #[.string ⟨#[]⟩,.string ⟨#[]⟩,.string ⟨#[]⟩,.int .i64 0],.string ⟨#[]⟩,.slice none 0 0,.int .i64 0,.slice none 0 0],[]⟩).memory:=
 laidMet_of_run' 8 κ κ
theorem reads (os:Os) {H:Type} (enc:TypeId×Value->H):∃places,DataW.whole enc Tryz.prog ((xJv os).forCall (λ_ _=>0) ⟨#[],#[.string ⟨#[]⟩,.agg #[.string ⟨#[]⟩,.string ⟨#[]⟩,.string ⟨#[]⟩,.int .i64 0],.string ⟨#[]⟩,.slice none 0 0,.int .i64 0,.slice none 0 0],[]⟩).memory Tryz.f3.params.toList Rows.vaultWholeSpec.vars false #[Value.string ⟨#[]⟩,Value.agg #[.string ⟨#[]⟩,.string ⟨#[]⟩,.string ⟨#[]⟩,.int .i64 0],Value.string ⟨#[]⟩,Value.slice none 0 0,Value.int .i64 0,Value.slice none 0 0].toList 8=some ([.lit (.string []),.agg [.lit (.string []),.lit (.string []),.lit (.string []),.lit (.int .i64 0)],.lit (.string []),.nil,.lit (.int .i64 0),.nil],[],places):=
 ⟨[],κ⟩
theorem lifted (os:Os) (started:os.Started) (H:Type) (enc:TypeId×Value->H) (F:Stop.Interp):
  ReturnsInHanded {} Tryz.checked os 3 .any ((OpenSpec.ofChange Rows.vaultWholeSpec).preRow enc Tryz.prog Tryz.f3 Rows.vaultWholeRow.domain false Rows.vaultWholeRow.laid) (((OpenSpec.ofChange Rows.vaultWholeSpec).at F).post enc Tryz.prog Tryz.f3 false true false false):=by
 obtain⟨places,hx⟩:=reads os enc
 refine LE.yL7 (C:=Tryz.checked) (tb:=4) own started κ Tryz.func3
  (witness_row_at (enc:=enc) (C:=Tryz.checked) false (xJv os) #[.string ⟨#[]⟩,.agg #[.string ⟨#[]⟩,.string ⟨#[]⟩,.string ⟨#[]⟩,.int .i64 0],.string ⟨#[]⟩,.slice none 0 0,.int .i64 0,.slice none 0 0] rfl κ κ κ
   (OpenSpec.preRow_of_cond 8 hx κ (λk hk=>by cases hk) κ (yH3 os)))
  laidOut readable rfl Tryz.underlying4 rfl (λds h=>by rw[Tryz.params3] at h;match ds,h with|[_,_,_,_,_,_],_=>rfl) ?_
 intro W base args ds p hval0 hA0 hsh hL;have hval:∀(j:Nat) t v,Tryz.f3.params[j]?=some t->args[j]?=some v->Value.okWide Tryz.prog W .any base t v:=hval0;have hA:DataW.TrodAll enc Tryz.prog W 0 (λ_=>true) true Tryz.f3.params.toList args.toList ds p:=hA0
 rw[Tryz.params3] at hA hval;obtain⟨v0,v1,v2,v3,v4,v5,d0,d1,d2,d3,d4,d5,p0,p1,p2,p3,p4,p5,rfl,rfl,rfl,h0,h1,h2,h3,h4,h5⟩:=SV.xS8 hA;obtain⟨s0,rfl,rfl,rfl,ws0⟩:=open_string Tryz.underlying9 (hval 0 9 v0 rfl rfl) h0;obtain⟨fa1,fb1,fc1,fn1,rfl⟩:=SV.xXq (hval 1 23 v1 rfl rfl) h1
 obtain⟨s2,rfl,rfl,rfl,ws2⟩:=open_string Tryz.underlying9 (hval 2 9 v2 rfl rfl) h2;obtain⟨L3,hq3,hw3,hl3⟩:=MM.yGb Tryz.underlying24 Tryz.underlying9 κ (hval 3 24 v3 rfl rfl) h3;obtain⟨a4,rfl,rfl,rfl,wa4⟩:=open_int Tryz.underlying3 (hval 4 3 v4 rfl rfl) h4
 obtain⟨L5,hq5,hw5,hl5⟩:=MM.yGc Tryz.underlying25 Tryz.underlying3 κ (hval 5 25 v5 rfl rfl) h5;have hI2 := (laidMetH_iff.1 hL).1.filter (fun x => x.1 == "mailsack/sha.initial")
 have hI3 : laidMet Tryz.prog [("mailsack/sha.initial", Lib.tabData .u32 Mailsack.xY5)] W := by
  rw [show (Rows.vaultWholeRow.laid.filter fun x => x.2.handleName?.isNone).filter (fun x => x.1 == "mailsack/sha.initial") = [("mailsack/sha.initial", Lib.tabData .u32 Mailsack.xY5)] by kernel_rfl] at hI2;exact hI2
 have hI : Lib.TabIs Tryz.prog W "mailsack/sha.initial" .u32 Mailsack.xY5 := Lib.tabIs_of_head (g := 0) (t := 206) (e := 181) (n := 8) (by kernel_rfl) (by kernel_rfl) (by kernel_rfl) (by kernel_rfl) (by kernel_rfl) (by kernel_rfl) hI3
 have hR2 := (laidMetH_iff.1 hL).1.filter (fun x => x.1 == "mailsack/sha.rounds")
 have hR3 : laidMet Tryz.prog [("mailsack/sha.rounds", Lib.tabData .u32 Mailsack.xBr)] W := by
  rw [show (Rows.vaultWholeRow.laid.filter fun x => x.2.handleName?.isNone).filter (fun x => x.1 == "mailsack/sha.rounds") = [("mailsack/sha.rounds", Lib.tabData .u32 Mailsack.xBr)] by kernel_rfl] at hR2;exact hR2
 have hR : Lib.TabIs Tryz.prog W "mailsack/sha.rounds" .u32 Mailsack.xBr := Lib.tabIs_of_head (g := 2) (t := 251) (e := 181) (n := 64) (by kernel_rfl) (by kernel_rfl) (by kernel_rfl) (by kernel_rfl) (by kernel_rfl) (by kernel_rfl) hR3;have hSH:=SV.xIz κ κ hI hR
 have hC2 := (laidMetH_iff.1 hL).1.filter (fun x => x.1 == "mailsack/seal.classes")
 have hC3 : laidMet Tryz.prog [("mailsack/seal.classes", Lib.tabData .i64 [128, 256, 512, 704])] W := by
  rw [show (Rows.vaultWholeRow.laid.filter fun x => x.2.handleName?.isNone).filter (fun x => x.1 == "mailsack/seal.classes") = [("mailsack/seal.classes", Lib.tabData .i64 [128, 256, 512, 704])] by kernel_rfl] at hC2;exact hC2
 have hC : Lib.TabIs Tryz.prog W "mailsack/seal.classes" .i64 [128, 256, 512, 704] := Lib.tabIs_of_head (g := 1) (t := 247) (e := 3) (n := 4) (by kernel_rfl) (by kernel_rfl) (by kernel_rfl) (by kernel_rfl) (by kernel_rfl) (by kernel_rfl) hC3
 have hL2 := (laidMetH_iff.1 hL).1.filter (fun x => x.1 == "internal/strconv.uint64pow10")
 have hL3 : laidMet Tryz.prog [("internal/strconv.uint64pow10", Lib.tabData .u64 Lib.pow10Tab)] W := by
  rw [show (Rows.vaultWholeRow.laid.filter fun x => x.2.handleName?.isNone).filter (fun x => x.1 == "internal/strconv.uint64pow10") = [("internal/strconv.uint64pow10", Lib.tabData .u64 Lib.pow10Tab)] by kernel_rfl] at hL2;exact hL2
 have htab : Lib.TabIs Tryz.prog W "internal/strconv.uint64pow10" .u64 Lib.pow10Tab := Lib.tabIs_of_head (g := 4) (t := 291) (e := 186) (n := 20) (by kernel_rfl) (by kernel_rfl) (by kernel_rfl) (by kernel_rfl) (by kernel_rfl) (by kernel_rfl) hL3
 have hVT:=SV.xS4 κ κ κ κ hI hR hC htab;exact VA.xZy s0 fa1 fb1 fc1 s2 fn1 a4 v3 v5 L3 L5 W hq3 (SV.xXe hq5) hVT
theorem yCi:Tryz.prog.inPlace 3=Rows.vaultWholeRow.inPlace:=κ
theorem xQe:Tryz.prog.unfollowed 3=Rows.vaultWholeRow.unfollowed:=κ
theorem xY3:Tryz.prog.recurses 3=Rows.vaultWholeRow.recurses:=κ
theorem yLb:Tryz.prog.varsNamed 3=Rows.vaultWholeRow.named:=κ
theorem closed:joinedFacts Tryz.prog 3 Tryz.f3 (OpenSpec.ofChange Rows.vaultWholeSpec).bare Rows.vaultWholeRow=true:=by
 unfold joinedFacts;rw[yCi,xQe,xY3,yLb]
 kernel_rfl
theorem said:Rows.VaultWholeSaid:=
 OpenClaim.holds_of_cond 3 Tryz.f3 rfl rfl rfl rfl rfl rfl rfl ⟨rfl,rfl,rfl,rfl,rfl⟩ rfl rfl rfl rfl rfl κ Tryz.func3 closed
  (of_decide_eq_true κ) (by unfold Func.isWrapper;first|(rw[if_pos (by decide +kernel)];kernel_rfl)|(rw[if_neg (by decide +kernel)];exact⟨rfl,rfl⟩))
  (λos started H enc _ F=>by rw[OpenClaim.pre_eq_preRow];exact lifted os started H enc F)
theorem plain (f : FuncId) (fn : Func) (hf : Tryz.pinned.checked.prog.funcNamed "mailsack/mailsacklaw16.VaultWhole" = some f) (hfn : Tryz.pinned.checked.prog.funcs[f]? = some fn) :
  true=Tryz.pinned.checked.prog.looks []/\∀(j:Nat) t,fn.params[j]?=some t->Tryz.pinned.checked.prog.wantsStandIn t=false:=by
 obtain rfl : f = 3 := Option.some.inj ((show Tryz.prog.funcNamed "mailsack/mailsacklaw16.VaultWhole" = some 3 by kernel_rfl).symm.trans hf) |>.symm;obtain rfl:fn=Tryz.f3:=(Option.some.inj (Tryz.func3.symm.trans hfn)).symm;refine⟨κ,λj t ht=>?_⟩;rw[Tryz.params3] at ht
 have ht':=Array.mem_of_getElem? ht;obtain rfl|rfl|rfl|rfl|rfl|rfl:t=9∨t=23∨t=9∨t=24∨t=3∨t=25:=by simpa using ht'
 all_goals first|exact(show Tryz.prog.wantsStandIn 9=false by kernel_rfl)|exact(show Tryz.prog.wantsStandIn 23=false by kernel_rfl)|exact(show Tryz.prog.wantsStandIn 24=false by kernel_rfl)|exact(show Tryz.prog.wantsStandIn 3=false by kernel_rfl)|exact(show Tryz.prog.wantsStandIn 25=false by kernel_rfl)
theorem card:Rows.VaultWholeCardSaid:=
 Claim7.holds_tied_plain_at .later [] _ _ _ _ said (λ_ h=>by cases h) κ (λ_ h=>by cases h) vaultWhole_row_tie rfl ⟨rfl,rfl⟩ κ rfl plain (NG.goesBy rfl)
end Go.Proofs.YtjdkeibcoiiliaaGreatDoor.vaultWhole
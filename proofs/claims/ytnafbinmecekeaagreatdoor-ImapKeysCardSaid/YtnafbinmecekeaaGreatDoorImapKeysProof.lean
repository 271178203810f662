/- The statement ImapKeys holds, as a card: for every input the law returns true and leaves its arguments as they were, the listed variables of Go's library holding what its text lays. No other condition. -/
import Derived.Test.YtnafbinmecekeaaGreatDoorCards
import Derived.Test.YtnafbinmecekeaaGreatDoorTie
import Derived.Test.YtnafbinmecekeaaGreatDoorImapKeysProofB16
import Derived.Test.YtnafbinmecekeaaGreatDoorImapKeysProofB17
import Derived.Lib.LaidTab
import Derived.LaidSub
set_option maxHeartbeats 8000000
set_option maxRecDepth 100000
namespace Go.Proofs.YtnafbinmecekeaaGreatDoor.imapKeys
open Go.ChangeShapes Go.WideShapes Go.ChangeAt Go.RowKit
open Go.ChangeMaps (open_string shut_string)
theorem own:ownKnob Tryz.prog.godebug=none:=κ
theorem laidOut:laidOutB Tryz.prog=true:=κ
theorem readable:∀t∈Tryz.f4.params.toList,Tryz.prog.readableRec t=true/\t<Tryz.prog.types.size:=by
 rw[Tryz.params4];intro t ht;obtain rfl|rfl|rfl|rfl:t=25∨t=32∨t=9∨t=36:=by simpa using ht
 all_goals exact⟨κ,of_decide_eq_true κ⟩
noncomputable def xG6 (os:Os):World:=
 {World.holding Tryz.prog os ⟨#[],#[],[]⟩ with heap:=(((((((((((((((((World.holding Tryz.prog os ⟨#[],#[],[]⟩).heap).modify 7 (LE.put (LE.xEp Rows.laid_math_bits_deBruijn32tab)))).modify 8 (LE.put (LE.xEp Rows.laid_math_bits_deBruijn64tab)))).modify 3 (LE.put (LE.xEp Rows.laid_internal_strconv_uint64pow10)))).modify 1 (LE.put (LE.xEp Rows.laid_mailsack_sha_initial)))).modify 4 (LE.put (LE.xEp Rows.laid_mailsack_sha_rounds)))).modify 6 (LE.put (LE.cells2 Rows.laid_unicode_utf8_acceptRanges)))).modify 0 (LE.put (LE.xEp Rows.laid_mailsack_seal_classes)))).modify 5 (LE.put (LE.xEp Rows.laid_unicode_utf8_first)))}
theorem xZx (os:Os):laidMet Tryz.prog Rows.imapKeysRow.laid ((xG6 os).forCall (λ_ _=>0) ⟨#[],#[.agg #[.slice none 0 0,.slice none 0 0],.agg #[.string ⟨#[]⟩,.string ⟨#[]⟩,.string ⟨#[]⟩,.int .i64 0,.slice none 0 0,.slice none 0 0,.int .i64 0,.string ⟨#[]⟩,.bool false,.bool false],.string ⟨#[]⟩,.string ⟨#[]⟩,.agg #[.string ⟨#[]⟩,.string ⟨#[]⟩,.string ⟨#[]⟩,.string ⟨#[]⟩,.string ⟨#[]⟩,.int .i64 0]],[]⟩).memory:=
 laidMet_of_run' 8 κ κ
theorem reads (os:Os) {H:Type} (enc:TypeId×Value->H):∃places,DataW.whole enc Tryz.prog ((xG6 os).forCall (λ_ _=>0) ⟨#[],#[.agg #[.slice none 0 0,.slice none 0 0],.agg #[.string ⟨#[]⟩,.string ⟨#[]⟩,.string ⟨#[]⟩,.int .i64 0,.slice none 0 0,.slice none 0 0,.int .i64 0,.string ⟨#[]⟩,.bool false,.bool false],.string ⟨#[]⟩,.string ⟨#[]⟩,.agg #[.string ⟨#[]⟩,.string ⟨#[]⟩,.string ⟨#[]⟩,.string ⟨#[]⟩,.string ⟨#[]⟩,.int .i64 0]],[]⟩).memory Tryz.f4.params.toList Rows.imapKeysSpec.vars false #[Value.agg #[.slice none 0 0,.slice none 0 0],Value.agg #[.string ⟨#[]⟩,.string ⟨#[]⟩,.string ⟨#[]⟩,.int .i64 0,.slice none 0 0,.slice none 0 0,.int .i64 0,.string ⟨#[]⟩,.bool false,.bool false],Value.string ⟨#[]⟩,Value.string ⟨#[]⟩,Value.agg #[.string ⟨#[]⟩,.string ⟨#[]⟩,.string ⟨#[]⟩,.string ⟨#[]⟩,.string ⟨#[]⟩,.int .i64 0]].toList 8=some ([.agg [.nil,.nil],.agg [.agg [.lit (.string []),.lit (.string []),.lit (.string []),.lit (.int .i64 0),.agg [.nil,.nil,.lit (.int .i64 0)]],.lit (.string []),.lit (.bool false),.lit (.bool false)],.lit (.string []),.lit (.string []),.agg [.lit (.string []),.lit (.string []),.agg [.lit (.string []),.lit (.string []),.lit (.string []),.lit (.int .i64 0)]]],[],places):=
 ⟨[],κ⟩
theorem lifted (os:Os) (started:os.Started) (H:Type) (enc:TypeId×Value->H) (F:Stop.Interp):
  ReturnsInHanded {} Tryz.checked os 4 .any ((OpenSpec.ofChange Rows.imapKeysSpec).preRow enc Tryz.prog Tryz.f4 Rows.imapKeysRow.domain false Rows.imapKeysRow.laid) (((OpenSpec.ofChange Rows.imapKeysSpec).at F).post enc Tryz.prog Tryz.f4 false true false false):=by
 obtain⟨places,hx⟩:=reads os enc
 refine LE.yDj (C:=Tryz.checked) (tb:=4) own started κ Tryz.func4
  (witness_row_at (enc:=enc) (C:=Tryz.checked) false (xG6 os) #[.agg #[.slice none 0 0,.slice none 0 0],.agg #[.string ⟨#[]⟩,.string ⟨#[]⟩,.string ⟨#[]⟩,.int .i64 0,.slice none 0 0,.slice none 0 0,.int .i64 0,.string ⟨#[]⟩,.bool false,.bool false],.string ⟨#[]⟩,.string ⟨#[]⟩,.agg #[.string ⟨#[]⟩,.string ⟨#[]⟩,.string ⟨#[]⟩,.string ⟨#[]⟩,.string ⟨#[]⟩,.int .i64 0]] rfl κ κ κ
   (OpenSpec.preRow_of_cond 8 hx κ (λk hk=>by cases hk) κ (xZx os)))
  laidOut readable rfl Tryz.underlying4 rfl (λds h=>by rw[Tryz.params4] at h;match ds,h with|[_,_,_,_,_],_=>rfl) ?_
 intro W base args ds p hval0 hA0 hsh hL;have hval:∀(j:Nat) t v,Tryz.f4.params[j]?=some t->args[j]?=some v->Value.okWide Tryz.prog W .any base t v:=hval0;have hA:DataW.TrodAll enc Tryz.prog W 0 (λ_=>true) true Tryz.f4.params.toList args.toList ds p:=hA0
 rw[Tryz.params4] at hA hval;obtain⟨v0,v1,v2,v3,v4,d0,d1,d2,d3,d4,p0,p1,p2,p3,p4,rfl,rfl,rfl,h0,h1,h2,h3,h4⟩:=SV.xL1 hA;obtain⟨da0,db0,D0,rfl,hs0,hc0⟩:=IX.xVk (hval 0 25 v0 rfl rfl) h0
 obtain⟨q1a,q1b,q1c,q1x,ep1,bv1,sv1,ix1,o1a,o1b,rfl,hix1,hm1,hbl1,hsl1⟩:=IX.xS4 (hval 1 32 v1 rfl rfl) h1;obtain⟨s2,rfl,rfl,rfl,ws2⟩:=open_string Tryz.underlying9 (hval 2 9 v2 rfl rfl) h2;obtain⟨s3,rfl,rfl,rfl,ws3⟩:=open_string Tryz.underlying9 (hval 3 9 v3 rfl rfl) h3
 obtain⟨f4a,f4b,f4c,f4d,f4e,rd4,rfl⟩:=IX.xS7 (hval 4 36 v4 rfl rfl) h4;have hI2 := (laidMetH_iff.1 hL).1.filter (fun x => x.1 == "mailsack/sha.initial")
 have hI3 : laidMet Tryz.prog [("mailsack/sha.initial", Lib.tabData .u32 Mailsack.xSj)] W := by
  rw [show (Rows.imapKeysRow.laid.filter fun x => x.2.handleName?.isNone).filter (fun x => x.1 == "mailsack/sha.initial") = [("mailsack/sha.initial", Lib.tabData .u32 Mailsack.xSj)] by kernel_rfl] at hI2;exact hI2
 have hI : Lib.TabIs Tryz.prog W "mailsack/sha.initial" .u32 Mailsack.xSj := Lib.tabIs_of_head (g := 1) (t := 386) (e := 228) (n := 8) (by kernel_rfl) (by kernel_rfl) (by kernel_rfl) (by kernel_rfl) (by kernel_rfl) (by kernel_rfl) hI3
 have hR2 := (laidMetH_iff.1 hL).1.filter (fun x => x.1 == "mailsack/sha.rounds")
 have hR3 : laidMet Tryz.prog [("mailsack/sha.rounds", Lib.tabData .u32 Mailsack.rE)] W := by
  rw [show (Rows.imapKeysRow.laid.filter fun x => x.2.handleName?.isNone).filter (fun x => x.1 == "mailsack/sha.rounds") = [("mailsack/sha.rounds", Lib.tabData .u32 Mailsack.rE)] by kernel_rfl] at hR2;exact hR2
 have hR : Lib.TabIs Tryz.prog W "mailsack/sha.rounds" .u32 Mailsack.rE := Lib.tabIs_of_head (g := 4) (t := 438) (e := 228) (n := 64) (by kernel_rfl) (by kernel_rfl) (by kernel_rfl) (by kernel_rfl) (by kernel_rfl) (by kernel_rfl) hR3;have hSH:=SV.xFr κ κ hI hR
 have hC2 := (laidMetH_iff.1 hL).1.filter (fun x => x.1 == "mailsack/seal.classes")
 have hC3 : laidMet Tryz.prog [("mailsack/seal.classes", Lib.tabData .i64 [128, 256, 512, 704])] W := by
  rw [show (Rows.imapKeysRow.laid.filter fun x => x.2.handleName?.isNone).filter (fun x => x.1 == "mailsack/seal.classes") = [("mailsack/seal.classes", Lib.tabData .i64 [128, 256, 512, 704])] by kernel_rfl] at hC2;exact hC2
 have hC : Lib.TabIs Tryz.prog W "mailsack/seal.classes" .i64 [128, 256, 512, 704] := Lib.tabIs_of_head (g := 0) (t := 316) (e := 3) (n := 4) (by kernel_rfl) (by kernel_rfl) (by kernel_rfl) (by kernel_rfl) (by kernel_rfl) (by kernel_rfl) hC3
 have hL2 := (laidMetH_iff.1 hL).1.filter (fun x => x.1 == "internal/strconv.uint64pow10")
 have hL3 : laidMet Tryz.prog [("internal/strconv.uint64pow10", Lib.tabData .u64 Lib.pow10Tab)] W := by
  rw [show (Rows.imapKeysRow.laid.filter fun x => x.2.handleName?.isNone).filter (fun x => x.1 == "internal/strconv.uint64pow10") = [("internal/strconv.uint64pow10", Lib.tabData .u64 Lib.pow10Tab)] by kernel_rfl] at hL2;exact hL2
 have htab : Lib.TabIs Tryz.prog W "internal/strconv.uint64pow10" .u64 Lib.pow10Tab := Lib.tabIs_of_head (g := 3) (t := 432) (e := 212) (n := 20) (by kernel_rfl) (by kernel_rfl) (by kernel_rfl) (by kernel_rfl) (by kernel_rfl) (by kernel_rfl) hL3
 have hVT:=SV.xN4 κ κ κ κ hI hR hC htab;exact IM.xZz da0 db0 D0 q1a q1b q1c q1x f4a f4b f4c f4d f4e s2 s3 ep1 rd4 bv1 sv1 ix1 o1a o1b W hs0 hc0 hix1 hm1 hbl1 hsl1 (by unfold maxLen at ws2;exact ws2) (by unfold maxLen at ws3;exact ws3) hVT
theorem xWc:Tryz.prog.inPlace 4=Rows.imapKeysRow.inPlace:=κ
theorem xM0:Tryz.prog.unfollowed 4=Rows.imapKeysRow.unfollowed:=κ
theorem xSh:Tryz.prog.recurses 4=Rows.imapKeysRow.recurses:=κ
theorem yDq:Tryz.prog.varsNamed 4=Rows.imapKeysRow.named:=κ
theorem closed:joinedFacts Tryz.prog 4 Tryz.f4 (OpenSpec.ofChange Rows.imapKeysSpec).bare Rows.imapKeysRow=true:=by
 unfold joinedFacts;rw[xWc,xM0,xSh,yDq]
 kernel_rfl
theorem said:Rows.ImapKeysSaid:=
 OpenClaim.holds_of_cond 4 Tryz.f4 rfl rfl rfl rfl rfl rfl rfl ⟨rfl,rfl,rfl,rfl,rfl⟩ rfl rfl rfl rfl rfl κ Tryz.func4 closed
  (of_decide_eq_true κ) (by unfold Func.isWrapper;first|(rw[if_pos (by decide +kernel)];kernel_rfl)|(rw[if_neg (by decide +kernel)];exact⟨rfl,rfl⟩))
  (λos started H enc _ F=>by rw[OpenClaim.pre_eq_preRow];exact lifted os started H enc F)
theorem plain (f : FuncId) (fn : Func) (hf : Tryz.pinned.checked.prog.funcNamed "mailsack/mailsacklaw22.ImapKeys" = some f) (hfn : Tryz.pinned.checked.prog.funcs[f]? = some fn) :
  true=Tryz.pinned.checked.prog.looks []/\∀(j:Nat) t,fn.params[j]?=some t->Tryz.pinned.checked.prog.wantsStandIn t=false:=by
 obtain rfl : f = 4 := Option.some.inj ((show Tryz.prog.funcNamed "mailsack/mailsacklaw22.ImapKeys" = some 4 by kernel_rfl).symm.trans hf) |>.symm;obtain rfl:fn=Tryz.f4:=(Option.some.inj (Tryz.func4.symm.trans hfn)).symm;refine⟨κ,λj t ht=>?_⟩;rw[Tryz.params4] at ht
 have ht':=Array.mem_of_getElem? ht;obtain rfl|rfl|rfl|rfl:t=25∨t=32∨t=9∨t=36:=by simpa using ht'
 all_goals first|exact(show Tryz.prog.wantsStandIn 25=false by kernel_rfl)|exact(show Tryz.prog.wantsStandIn 32=false by kernel_rfl)|exact(show Tryz.prog.wantsStandIn 9=false by kernel_rfl)|exact(show Tryz.prog.wantsStandIn 36=false by kernel_rfl)
theorem card:Rows.ImapKeysCardSaid:=
 Claim7.holds_tied_plain_at .later [] _ _ _ _ said (λ_ h=>by cases h) κ (λ_ h=>by cases h) imapKeys_row_tie rfl ⟨rfl,rfl⟩ κ rfl plain (NG.goesBy rfl)
end Go.Proofs.YtnafbinmecekeaaGreatDoor.imapKeys
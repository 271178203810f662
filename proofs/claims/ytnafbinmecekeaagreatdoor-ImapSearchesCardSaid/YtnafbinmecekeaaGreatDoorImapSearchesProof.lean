/- The statement ImapSearches holds, as a card: for every input the law returns true and leaves its arguments as they were, the listed variables of Go's library holding what its text lays. No other condition. -/
import Derived.Test.YtnafbinmecekeaaGreatDoorCards
import Derived.Test.YtnafbinmecekeaaGreatDoorTie
import Derived.Test.YtnafbinmecekeaaGreatDoorImapSearchesProofB17
import Derived.Lib.LaidTab
import Derived.LaidSub
set_option maxHeartbeats 8000000
set_option maxRecDepth 100000
namespace Go.Proofs.YtnafbinmecekeaaGreatDoor.imapSearches
open Go.ChangeShapes Go.WideShapes Go.ChangeAt Go.RowKit
open Go.ChangeMaps (open_string shut_string)
theorem own:ownKnob Tryz.prog.godebug=none:=κ
theorem laidOut:laidOutB Tryz.prog=true:=κ
theorem readable:∀t∈Tryz.f3.params.toList,Tryz.prog.readableRec t=true/\t<Tryz.prog.types.size:=by
 rw[Tryz.params3];intro t ht;obtain rfl|rfl|rfl|rfl|rfl:t=25∨t=32∨t=22∨t=4∨t=36:=by simpa using ht
 all_goals exact⟨κ,of_decide_eq_true κ⟩
noncomputable def xEq (os:Os):World:=
 {World.holding Tryz.prog os ⟨#[],#[],[]⟩ with heap:=(((((((((((((((((World.holding Tryz.prog os ⟨#[],#[],[]⟩).heap).modify 7 (LE.put (LE.xD7 Rows.laid_math_bits_deBruijn32tab)))).modify 8 (LE.put (LE.xD7 Rows.laid_math_bits_deBruijn64tab)))).modify 3 (LE.put (LE.xD7 Rows.laid_internal_strconv_uint64pow10)))).modify 1 (LE.put (LE.xD7 Rows.laid_mailsack_sha_initial)))).modify 4 (LE.put (LE.xD7 Rows.laid_mailsack_sha_rounds)))).modify 6 (LE.put (LE.cells2 Rows.laid_unicode_utf8_acceptRanges)))).modify 0 (LE.put (LE.xD7 Rows.laid_mailsack_seal_classes)))).modify 5 (LE.put (LE.xD7 Rows.laid_unicode_utf8_first)))}
theorem xXu (os:Os):laidMet Tryz.prog Rows.imapSearchesRow.laid ((xEq os).forCall (λ_ _=>0) ⟨#[],#[.agg #[.slice none 0 0,.slice none 0 0],.agg #[.string ⟨#[]⟩,.string ⟨#[]⟩,.string ⟨#[]⟩,.int .i64 0,.slice none 0 0,.slice none 0 0,.int .i64 0,.string ⟨#[]⟩,.bool false,.bool false],.slice none 0 0,.bool false,.agg #[.string ⟨#[]⟩,.string ⟨#[]⟩,.string ⟨#[]⟩,.string ⟨#[]⟩,.string ⟨#[]⟩,.int .i64 0]],[]⟩).memory:=
 laidMet_of_run' 8 κ κ
theorem reads (os:Os) {H:Type} (enc:TypeId×Value->H):∃places,DataW.whole enc Tryz.prog ((xEq os).forCall (λ_ _=>0) ⟨#[],#[.agg #[.slice none 0 0,.slice none 0 0],.agg #[.string ⟨#[]⟩,.string ⟨#[]⟩,.string ⟨#[]⟩,.int .i64 0,.slice none 0 0,.slice none 0 0,.int .i64 0,.string ⟨#[]⟩,.bool false,.bool false],.slice none 0 0,.bool false,.agg #[.string ⟨#[]⟩,.string ⟨#[]⟩,.string ⟨#[]⟩,.string ⟨#[]⟩,.string ⟨#[]⟩,.int .i64 0]],[]⟩).memory Tryz.f3.params.toList Rows.imapSearchesSpec.vars false #[Value.agg #[.slice none 0 0,.slice none 0 0],Value.agg #[.string ⟨#[]⟩,.string ⟨#[]⟩,.string ⟨#[]⟩,.int .i64 0,.slice none 0 0,.slice none 0 0,.int .i64 0,.string ⟨#[]⟩,.bool false,.bool false],Value.slice none 0 0,Value.bool false,Value.agg #[.string ⟨#[]⟩,.string ⟨#[]⟩,.string ⟨#[]⟩,.string ⟨#[]⟩,.string ⟨#[]⟩,.int .i64 0]].toList 8=some ([.agg [.nil,.nil],.agg [.agg [.lit (.string []),.lit (.string []),.lit (.string []),.lit (.int .i64 0),.agg [.nil,.nil,.lit (.int .i64 0)]],.lit (.string []),.lit (.bool false),.lit (.bool false)],.nil,.lit (.bool false),.agg [.lit (.string []),.lit (.string []),.agg [.lit (.string []),.lit (.string []),.lit (.string []),.lit (.int .i64 0)]]],[],places):=
 ⟨[],κ⟩
theorem lifted (os:Os) (started:os.Started) (H:Type) (enc:TypeId×Value->H) (F:Stop.Interp):
  ReturnsInHanded {} Tryz.checked os 3 .any ((OpenSpec.ofChange Rows.imapSearchesSpec).preRow enc Tryz.prog Tryz.f3 Rows.imapSearchesRow.domain false Rows.imapSearchesRow.laid) (((OpenSpec.ofChange Rows.imapSearchesSpec).at F).post enc Tryz.prog Tryz.f3 false true false false):=by
 obtain⟨places,hx⟩:=reads os enc
 refine LE.yBc (C:=Tryz.checked) (tb:=4) own started κ Tryz.func3
  (witness_row_at (enc:=enc) (C:=Tryz.checked) false (xEq os) #[.agg #[.slice none 0 0,.slice none 0 0],.agg #[.string ⟨#[]⟩,.string ⟨#[]⟩,.string ⟨#[]⟩,.int .i64 0,.slice none 0 0,.slice none 0 0,.int .i64 0,.string ⟨#[]⟩,.bool false,.bool false],.slice none 0 0,.bool false,.agg #[.string ⟨#[]⟩,.string ⟨#[]⟩,.string ⟨#[]⟩,.string ⟨#[]⟩,.string ⟨#[]⟩,.int .i64 0]] rfl κ κ κ
   (OpenSpec.preRow_of_cond 8 hx κ (λk hk=>by cases hk) κ (xXu os)))
  laidOut readable rfl Tryz.underlying4 rfl (λds h=>by rw[Tryz.params3] at h;match ds,h with|[_,_,_,_,_],_=>rfl) ?_
 intro W base args ds p hval0 hA0 hsh hL;have hval:∀(j:Nat) t v,Tryz.f3.params[j]?=some t->args[j]?=some v->Value.okWide Tryz.prog W .any base t v:=hval0;have hA:DataW.TrodAll enc Tryz.prog W 0 (λ_=>true) true Tryz.f3.params.toList args.toList ds p:=hA0
 rw[Tryz.params3] at hA hval;obtain⟨v0,v1,v2,v3,v4,d0,d1,d2,d3,d4,p0,p1,p2,p3,p4,rfl,rfl,rfl,h0,h1,h2,h3,h4⟩:=SV.xJ1 hA;obtain⟨da0,db0,D0,rfl,hs0,hc0⟩:=IX.xT5 (hval 0 25 v0 rfl rfl) h0
 obtain⟨q1a,q1b,q1c,q1x,ep1,bv1,sv1,ix1,o1a,o1b,rfl,hix1,hm1,hbl1,hsl1⟩:=IX.xPr (hval 1 32 v1 rfl rfl) h1;obtain⟨L2,hq2,hw2,hl2⟩:=MM.xXj Tryz.underlying22 Tryz.underlying9 κ (hval 2 22 v2 rfl rfl) h2;obtain⟨b3,rfl,rfl,rfl⟩:=open_bool Tryz.underlying4 (hval 3 4 v3 rfl rfl) h3
 obtain⟨f4a,f4b,f4c,f4d,f4e,rd4,rfl⟩:=IX.xPu (hval 4 36 v4 rfl rfl) h4;have hI2 := (laidMetH_iff.1 hL).1.filter (fun x => x.1 == "mailsack/sha.initial")
 have hI3 : laidMet Tryz.prog [("mailsack/sha.initial", Lib.tabData .u32 Mailsack.xQ7)] W := by
  rw [show (Rows.imapSearchesRow.laid.filter fun x => x.2.handleName?.isNone).filter (fun x => x.1 == "mailsack/sha.initial") = [("mailsack/sha.initial", Lib.tabData .u32 Mailsack.xQ7)] by kernel_rfl] at hI2;exact hI2
 have hI : Lib.TabIs Tryz.prog W "mailsack/sha.initial" .u32 Mailsack.xQ7 := Lib.tabIs_of_head (g := 1) (t := 386) (e := 228) (n := 8) (by kernel_rfl) (by kernel_rfl) (by kernel_rfl) (by kernel_rfl) (by kernel_rfl) (by kernel_rfl) hI3
 have hR2 := (laidMetH_iff.1 hL).1.filter (fun x => x.1 == "mailsack/sha.rounds")
 have hR3 : laidMet Tryz.prog [("mailsack/sha.rounds", Lib.tabData .u32 Mailsack.tK)] W := by
  rw [show (Rows.imapSearchesRow.laid.filter fun x => x.2.handleName?.isNone).filter (fun x => x.1 == "mailsack/sha.rounds") = [("mailsack/sha.rounds", Lib.tabData .u32 Mailsack.tK)] by kernel_rfl] at hR2;exact hR2
 have hR : Lib.TabIs Tryz.prog W "mailsack/sha.rounds" .u32 Mailsack.tK := Lib.tabIs_of_head (g := 4) (t := 438) (e := 228) (n := 64) (by kernel_rfl) (by kernel_rfl) (by kernel_rfl) (by kernel_rfl) (by kernel_rfl) (by kernel_rfl) hR3;have hSH:=SV.xEf κ κ hI hR
 have hC2 := (laidMetH_iff.1 hL).1.filter (fun x => x.1 == "mailsack/seal.classes")
 have hC3 : laidMet Tryz.prog [("mailsack/seal.classes", Lib.tabData .i64 [128, 256, 512, 704])] W := by
  rw [show (Rows.imapSearchesRow.laid.filter fun x => x.2.handleName?.isNone).filter (fun x => x.1 == "mailsack/seal.classes") = [("mailsack/seal.classes", Lib.tabData .i64 [128, 256, 512, 704])] by kernel_rfl] at hC2;exact hC2
 have hC : Lib.TabIs Tryz.prog W "mailsack/seal.classes" .i64 [128, 256, 512, 704] := Lib.tabIs_of_head (g := 0) (t := 316) (e := 3) (n := 4) (by kernel_rfl) (by kernel_rfl) (by kernel_rfl) (by kernel_rfl) (by kernel_rfl) (by kernel_rfl) hC3
 have hL2 := (laidMetH_iff.1 hL).1.filter (fun x => x.1 == "internal/strconv.uint64pow10")
 have hL3 : laidMet Tryz.prog [("internal/strconv.uint64pow10", Lib.tabData .u64 Lib.pow10Tab)] W := by
  rw [show (Rows.imapSearchesRow.laid.filter fun x => x.2.handleName?.isNone).filter (fun x => x.1 == "internal/strconv.uint64pow10") = [("internal/strconv.uint64pow10", Lib.tabData .u64 Lib.pow10Tab)] by kernel_rfl] at hL2;exact hL2
 have htab : Lib.TabIs Tryz.prog W "internal/strconv.uint64pow10" .u64 Lib.pow10Tab := Lib.tabIs_of_head (g := 3) (t := 432) (e := 212) (n := 20) (by kernel_rfl) (by kernel_rfl) (by kernel_rfl) (by kernel_rfl) (by kernel_rfl) (by kernel_rfl) hL3
 have hVT:=SV.xL5 κ κ κ κ hI hR hC htab;obtain⟨m,hm⟩:=Tryz.laysM145.s1_3 W hsh;exact IM.xJa da0 db0 D0 q1a q1b q1c q1x f4a f4b f4c f4d f4e ep1 rd4 m bv1 sv1 v2 ix1 o1a o1b b3 L2 W hs0 hc0 hix1 hm1 hbl1 hsl1 hq2 hl2 hw2 hm hVT
theorem xTz:Tryz.prog.inPlace 3=Rows.imapSearchesRow.inPlace:=κ
theorem xJz:Tryz.prog.unfollowed 3=Rows.imapSearchesRow.unfollowed:=κ
theorem xQ5:Tryz.prog.recurses 3=Rows.imapSearchesRow.recurses:=κ
theorem yBg:Tryz.prog.varsNamed 3=Rows.imapSearchesRow.named:=κ
theorem closed:joinedFacts Tryz.prog 3 Tryz.f3 (OpenSpec.ofChange Rows.imapSearchesSpec).bare Rows.imapSearchesRow=true:=by
 unfold joinedFacts;rw[xTz,xJz,xQ5,yBg]
 kernel_rfl
theorem said:Rows.ImapSearchesSaid:=
 OpenClaim.holds_of_cond 3 Tryz.f3 rfl rfl rfl rfl rfl rfl rfl ⟨rfl,rfl,rfl,rfl,rfl⟩ rfl rfl rfl rfl rfl κ Tryz.func3 closed
  (of_decide_eq_true κ) (by unfold Func.isWrapper;first|(rw[if_pos (by decide +kernel)];kernel_rfl)|(rw[if_neg (by decide +kernel)];exact⟨rfl,rfl⟩))
  (λos started H enc _ F=>by rw[OpenClaim.pre_eq_preRow];exact lifted os started H enc F)
theorem plain (f : FuncId) (fn : Func) (hf : Tryz.pinned.checked.prog.funcNamed "mailsack/mailsacklaw22.ImapSearches" = some f) (hfn : Tryz.pinned.checked.prog.funcs[f]? = some fn) :
  true=Tryz.pinned.checked.prog.looks []/\∀(j:Nat) t,fn.params[j]?=some t->Tryz.pinned.checked.prog.wantsStandIn t=false:=by
 obtain rfl : f = 3 := Option.some.inj ((show Tryz.prog.funcNamed "mailsack/mailsacklaw22.ImapSearches" = some 3 by kernel_rfl).symm.trans hf) |>.symm;obtain rfl:fn=Tryz.f3:=(Option.some.inj (Tryz.func3.symm.trans hfn)).symm;refine⟨κ,λj t ht=>?_⟩;rw[Tryz.params3] at ht
 have ht':=Array.mem_of_getElem? ht;obtain rfl|rfl|rfl|rfl|rfl:t=25∨t=32∨t=22∨t=4∨t=36:=by simpa using ht'
 all_goals first|exact(show Tryz.prog.wantsStandIn 25=false by kernel_rfl)|exact(show Tryz.prog.wantsStandIn 32=false by kernel_rfl)|exact(show Tryz.prog.wantsStandIn 22=false by kernel_rfl)|exact(show Tryz.prog.wantsStandIn 4=false by kernel_rfl)|exact(show Tryz.prog.wantsStandIn 36=false by kernel_rfl)
theorem card:Rows.ImapSearchesCardSaid:=
 Claim7.holds_tied_plain_at .later [] _ _ _ _ said (λ_ h=>by cases h) κ (λ_ h=>by cases h) imapSearches_row_tie rfl ⟨rfl,rfl⟩ κ rfl plain (NG.goesBy rfl)
end Go.Proofs.YtnafbinmecekeaaGreatDoor.imapSearches
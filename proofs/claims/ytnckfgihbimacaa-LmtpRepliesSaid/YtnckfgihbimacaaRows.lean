/-
  No cell of these rows narrows 'for every input' (looked for: loops, veiled, ifaces, maps, wideKeys, modest, calm, conditions, laid).
  DERIVED. THE GIVEN ROWS OF THIS SEAT. 3 by the template 'for every input the law returns true; each argument reads behind the call as it read before'; 0 by the template 'total and deterministic' (their statements: YtnckfgihbimacaaTotals.lean).
  GIVEN WITH THE SEED: the statements are not yours to turn. If you find one false, say at which input.
  Laid BY PROGRAM, IN A SANDBOX (cutbox-rows.mjs): the forced cells as the released guide's own fill.sh prints them over the translation 20d94bfee5ec8afc… (all of the seat's roots in one cut). By AI agents, Wed Nov 11 2026. No macro, syntax, notation, axiom, sorry.
-/
import Derived.Test.YtnckfgihbimacaaChecked
import GoSem.Claim
import GoSem.ClaimJoined
import GoSem.ClaimMapViews
import Derived.JoinedTies
import Derived.KernelRfl
namespace Go.Proofs.Ytnckfgihbimacaa
/- THE CELL 'sum', in the pinned program and in every row, IS THE sha256 OF THE DUMP (.gsa) THAT YtnckfgihbimacaaProg.lean LOADS. Nothing in Lean hashes anything: it is a label: what it is worth is what the hold of that sum in a sandbox is worth. -/
noncomputable def Try.pinned : Pinned := { name := "ytnckfgihbimacaa", sum := "20d94bfee5ec8afcc897c9eafa2c227b6f91c439546c396ba44f7f32172d07ff", checked := Try.checked }
namespace Rows
def none {H : Type} : Left H := { results := [], args := [] }

/-- 'mailsacklaw18.LmtpReplies': WHATEVER THE INPUT: true; the input reads as it did. -/
def lmtpRepliesSpec : ChangeSpec := { name := "lmtpReplies", fn := fun _ => fun
  | [d1, d2] => { results := [.lit (.bool true)], args := [d1, d2] }
  | _ => none }
def lmtpRepliesRow : OpenClaim := { program := "ytnckfgihbimacaa", sum := "20d94bfee5ec8afcc897c9eafa2c227b6f91c439546c396ba44f7f32172d07ff", func := "mailsack/mailsacklaw18.LmtpReplies", spec := "lmtpReplies", inPlace := ["internal/bytealg.IndexByteString", "internal/bytealg.IndexString"], named := ["internal/bytealg.MaxLen"], apart := false }
def LmtpRepliesSaid : Prop := lmtpRepliesRow.holds Try.pinned (OpenSpec.ofChange lmtpRepliesSpec)

/-- ITS FALSE NEIGHBOUR: 'it returns false'. Refute it at one input. -/
def lmtpRepliesWrong : ChangeSpec := { name := "lmtpReplies", fn := fun _ => fun
  | [d1, d2] => { results := [.lit (.bool false)], args := [d1, d2] }
  | _ => none }
def LmtpRepliesWrongFalsely : Prop := lmtpRepliesRow.holds Try.pinned (OpenSpec.ofChange lmtpRepliesWrong)

/-- 'mailsacklaw18.LmtpReset': WHATEVER THE INPUT: true; the input reads as it did. -/
def lmtpResetSpec : ChangeSpec := { name := "lmtpReset", fn := fun _ => fun
  | [d] => { results := [.lit (.bool true)], args := [d] }
  | _ => none }
def lmtpResetRow : OpenClaim := { program := "ytnckfgihbimacaa", sum := "20d94bfee5ec8afcc897c9eafa2c227b6f91c439546c396ba44f7f32172d07ff", func := "mailsack/mailsacklaw18.LmtpReset", spec := "lmtpReset", inPlace := ["internal/bytealg.IndexByteString", "internal/bytealg.IndexString"], named := ["internal/bytealg.MaxLen"], apart := false }
def LmtpResetSaid : Prop := lmtpResetRow.holds Try.pinned (OpenSpec.ofChange lmtpResetSpec)

/-- ITS FALSE NEIGHBOUR: 'it returns false'. Refute it at one input. -/
def lmtpResetWrong : ChangeSpec := { name := "lmtpReset", fn := fun _ => fun
  | [d] => { results := [.lit (.bool false)], args := [d] }
  | _ => none }
def LmtpResetWrongFalsely : Prop := lmtpResetRow.holds Try.pinned (OpenSpec.ofChange lmtpResetWrong)

/-- 'mailsacklaw18.LmtpSame': WHATEVER THE INPUT: true; the input reads as it did. -/
def lmtpSameSpec : ChangeSpec := { name := "lmtpSame", fn := fun _ => fun
  | [d1, d2] => { results := [.lit (.bool true)], args := [d1, d2] }
  | _ => none }
def lmtpSameRow : OpenClaim := { program := "ytnckfgihbimacaa", sum := "20d94bfee5ec8afcc897c9eafa2c227b6f91c439546c396ba44f7f32172d07ff", func := "mailsack/mailsacklaw18.LmtpSame", spec := "lmtpSame", inPlace := ["internal/bytealg.IndexByteString", "internal/bytealg.IndexString"], named := ["internal/bytealg.MaxLen"], apart := false }
def LmtpSameSaid : Prop := lmtpSameRow.holds Try.pinned (OpenSpec.ofChange lmtpSameSpec)

/-- ITS FALSE NEIGHBOUR: 'it returns false'. Refute it at one input. -/
def lmtpSameWrong : ChangeSpec := { name := "lmtpSame", fn := fun _ => fun
  | [d1, d2] => { results := [.lit (.bool false)], args := [d1, d2] }
  | _ => none }
def LmtpSameWrongFalsely : Prop := lmtpSameRow.holds Try.pinned (OpenSpec.ofChange lmtpSameWrong)

/- THE SECOND FORM. 'bulk': how many values and letters a reading holds, each counted each time it is reached (what is shared counts as often as it is met; a slice's spare places count too). A statement '..UptoSaid' is the law's where the arguments, and the package variables that the reading takes, are together of bulk at most 1048576: NARROWER than '..Said'. Prove '..Said' where nothing that the law and all that it calls make is longer than what came in: it says more and counts as full. Else prove '..UptoSaid'. A law counts once. -/
mutual
def uptoBulk {H : Type} : DataW H → Nat
  | .lit (.string bytes) => bytes.length + 1
  | .lit _ => 1
  | .nil => 1
  | .ptr d => uptoBulk d + 1
  | .slice elems spare => uptoBulkAll elems + uptoBulkAll spare + 1
  | .agg parts => uptoBulkAll parts + 1
  | .iface _ d => uptoBulk d + 1
  | .map entries => uptoBulkEntries entries + 1
  | .held _ => 1
def uptoBulkAll {H : Type} : List (DataW H) → Nat
  | [] => 0
  | d :: r => uptoBulk d + uptoBulkAll r
def uptoBulkEntries {H : Type} : List (Lit × DataW H) → Nat
  | [] => 0
  | x :: r => uptoBulkEntry x + uptoBulkEntries r
def uptoBulkEntry {H : Type} : Lit × DataW H → Nat
  | (.string bytes, d) => bytes.length + uptoBulk d + 1
  | (_, d) => uptoBulk d + 1
 end
def uptoSmall : (H : Type) → List (DataW H) → Bool := fun _ ds => decide (uptoBulkAll ds ≤ 1048576)
def OpenSpec.upto (s : _root_.Go.ChangeSpec) : _root_.Go.OpenSpec := { _root_.Go.OpenSpec.ofChange s with cond := some uptoSmall }

/-- 'mailsacklaw18.LmtpReplies', WHERE WHAT IT READS IS OF BULK AT MOST 1048576: true; the input reads as it did. -/
def lmtpRepliesUptoRow : OpenClaim := { program := "ytnckfgihbimacaa", sum := "20d94bfee5ec8afcc897c9eafa2c227b6f91c439546c396ba44f7f32172d07ff", func := "mailsack/mailsacklaw18.LmtpReplies", spec := "lmtpReplies", inPlace := ["internal/bytealg.IndexByteString", "internal/bytealg.IndexString"], named := ["internal/bytealg.MaxLen"], apart := false, narrowed := true }
def LmtpRepliesUptoSaid : Prop := lmtpRepliesUptoRow.holds Try.pinned (OpenSpec.upto lmtpRepliesSpec)

/-- 'mailsacklaw18.LmtpReset', WHERE WHAT IT READS IS OF BULK AT MOST 1048576: true; the input reads as it did. -/
def lmtpResetUptoRow : OpenClaim := { program := "ytnckfgihbimacaa", sum := "20d94bfee5ec8afcc897c9eafa2c227b6f91c439546c396ba44f7f32172d07ff", func := "mailsack/mailsacklaw18.LmtpReset", spec := "lmtpReset", inPlace := ["internal/bytealg.IndexByteString", "internal/bytealg.IndexString"], named := ["internal/bytealg.MaxLen"], apart := false, narrowed := true }
def LmtpResetUptoSaid : Prop := lmtpResetUptoRow.holds Try.pinned (OpenSpec.upto lmtpResetSpec)

/-- 'mailsacklaw18.LmtpSame', WHERE WHAT IT READS IS OF BULK AT MOST 1048576: true; the input reads as it did. -/
def lmtpSameUptoRow : OpenClaim := { program := "ytnckfgihbimacaa", sum := "20d94bfee5ec8afcc897c9eafa2c227b6f91c439546c396ba44f7f32172d07ff", func := "mailsack/mailsacklaw18.LmtpSame", spec := "lmtpSame", inPlace := ["internal/bytealg.IndexByteString", "internal/bytealg.IndexString"], named := ["internal/bytealg.MaxLen"], apart := false, narrowed := true }
def LmtpSameUptoSaid : Prop := lmtpSameUptoRow.holds Try.pinned (OpenSpec.upto lmtpSameSpec)

end Rows
end Go.Proofs.Ytnckfgihbimacaa

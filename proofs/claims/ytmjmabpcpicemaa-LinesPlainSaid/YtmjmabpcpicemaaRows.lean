/-
  No cell of these rows narrows 'for every input' (looked for: loops, veiled, ifaces, maps, wideKeys, modest, calm, conditions, laid).
  DERIVED. THE GIVEN ROWS OF THIS SEAT. 4 by the template 'for every input the law returns true; each argument reads behind the call as it read before'; 0 by the template 'total and deterministic' (their statements: YtmjmabpcpicemaaTotals.lean).
  GIVEN WITH THE SEED: the statements are not yours to turn. If you find one false, say at which input.
  Laid BY PROGRAM, IN A SANDBOX (cutbox-rows.mjs): the forced cells as the released guide's own fill.sh prints them over the translation f7ca17ccfb9ea6ff… (all of the seat's roots in one cut). By AI agents, Wed Nov 11 2026. No macro, syntax, notation, axiom, sorry.
-/
import Derived.Test.YtmjmabpcpicemaaChecked
import GoSem.Claim
import GoSem.ClaimJoined
import GoSem.ClaimMapViews
import Derived.JoinedTies
import Derived.KernelRfl
namespace Go.Proofs.Ytmjmabpcpicemaa
/- THE CELL 'sum', in the pinned program and in every row, IS THE sha256 OF THE DUMP (.gsa) THAT YtmjmabpcpicemaaProg.lean LOADS. Nothing in Lean hashes anything: it is a label: what it is worth is what the hold of that sum in a sandbox is worth. -/
noncomputable def Try.pinned : Pinned := { name := "ytmjmabpcpicemaa", sum := "f7ca17ccfb9ea6ff41cd3e1e4d94ad9ee1cbc7c87d7ff7ee035a969da218f2cc", checked := Try.checked }
namespace Rows
def none {H : Type} : Left H := { results := [], args := [] }

/-- 'mailsacklaw17.LinesNext': WHATEVER THE INPUT: true; the input reads as it did. -/
def linesNextSpec : ChangeSpec := { name := "linesNext", fn := fun _ => fun
  | [d] => { results := [.lit (.bool true)], args := [d] }
  | _ => none }
def linesNextRow : OpenClaim := { program := "ytmjmabpcpicemaa", sum := "f7ca17ccfb9ea6ff41cd3e1e4d94ad9ee1cbc7c87d7ff7ee035a969da218f2cc", func := "mailsack/mailsacklaw17.LinesNext", spec := "linesNext", inPlace := ["internal/bytealg.IndexByteString", "internal/bytealg.IndexString"], named := ["internal/bytealg.MaxLen"], apart := false }
def LinesNextSaid : Prop := linesNextRow.holds Try.pinned (OpenSpec.ofChange linesNextSpec)

/-- ITS FALSE NEIGHBOUR: 'it returns false'. Refute it at one input. -/
def linesNextWrong : ChangeSpec := { name := "linesNext", fn := fun _ => fun
  | [d] => { results := [.lit (.bool false)], args := [d] }
  | _ => none }
def LinesNextWrongFalsely : Prop := linesNextRow.holds Try.pinned (OpenSpec.ofChange linesNextWrong)

/-- 'mailsacklaw17.LinesTakes': WHATEVER THE INPUT: true; the input reads as it did. -/
def linesTakesSpec : ChangeSpec := { name := "linesTakes", fn := fun _ => fun
  | [d] => { results := [.lit (.bool true)], args := [d] }
  | _ => none }
def linesTakesRow : OpenClaim := { program := "ytmjmabpcpicemaa", sum := "f7ca17ccfb9ea6ff41cd3e1e4d94ad9ee1cbc7c87d7ff7ee035a969da218f2cc", func := "mailsack/mailsacklaw17.LinesTakes", spec := "linesTakes", inPlace := ["internal/bytealg.IndexByteString", "internal/bytealg.IndexString"], named := ["internal/bytealg.MaxLen"], apart := false }
def LinesTakesSaid : Prop := linesTakesRow.holds Try.pinned (OpenSpec.ofChange linesTakesSpec)

/-- ITS FALSE NEIGHBOUR: 'it returns false'. Refute it at one input. -/
def linesTakesWrong : ChangeSpec := { name := "linesTakes", fn := fun _ => fun
  | [d] => { results := [.lit (.bool false)], args := [d] }
  | _ => none }
def LinesTakesWrongFalsely : Prop := linesTakesRow.holds Try.pinned (OpenSpec.ofChange linesTakesWrong)

/-- 'mailsacklaw17.LinesMore': WHATEVER THE INPUT: true; the input reads as it did. -/
def linesMoreSpec : ChangeSpec := { name := "linesMore", fn := fun _ => fun
  | [d1, d2] => { results := [.lit (.bool true)], args := [d1, d2] }
  | _ => none }
def linesMoreRow : OpenClaim := { program := "ytmjmabpcpicemaa", sum := "f7ca17ccfb9ea6ff41cd3e1e4d94ad9ee1cbc7c87d7ff7ee035a969da218f2cc", func := "mailsack/mailsacklaw17.LinesMore", spec := "linesMore", inPlace := ["internal/bytealg.IndexByteString", "internal/bytealg.IndexString"], named := ["internal/bytealg.MaxLen"], apart := false }
def LinesMoreSaid : Prop := linesMoreRow.holds Try.pinned (OpenSpec.ofChange linesMoreSpec)

/-- ITS FALSE NEIGHBOUR: 'it returns false'. Refute it at one input. -/
def linesMoreWrong : ChangeSpec := { name := "linesMore", fn := fun _ => fun
  | [d1, d2] => { results := [.lit (.bool false)], args := [d1, d2] }
  | _ => none }
def LinesMoreWrongFalsely : Prop := linesMoreRow.holds Try.pinned (OpenSpec.ofChange linesMoreWrong)

/-- 'mailsacklaw17.LinesPlain': WHATEVER THE INPUT: true; the input reads as it did. -/
def linesPlainSpec : ChangeSpec := { name := "linesPlain", fn := fun _ => fun
  | [d] => { results := [.lit (.bool true)], args := [d] }
  | _ => none }
def linesPlainRow : OpenClaim := { program := "ytmjmabpcpicemaa", sum := "f7ca17ccfb9ea6ff41cd3e1e4d94ad9ee1cbc7c87d7ff7ee035a969da218f2cc", func := "mailsack/mailsacklaw17.LinesPlain", spec := "linesPlain", inPlace := ["internal/bytealg.IndexByteString", "internal/bytealg.IndexString"], named := ["internal/bytealg.MaxLen"], apart := false }
def LinesPlainSaid : Prop := linesPlainRow.holds Try.pinned (OpenSpec.ofChange linesPlainSpec)

/-- ITS FALSE NEIGHBOUR: 'it returns false'. Refute it at one input. -/
def linesPlainWrong : ChangeSpec := { name := "linesPlain", fn := fun _ => fun
  | [d] => { results := [.lit (.bool false)], args := [d] }
  | _ => none }
def LinesPlainWrongFalsely : Prop := linesPlainRow.holds Try.pinned (OpenSpec.ofChange linesPlainWrong)

/- THE SECOND FORM. 'bulk': how many values and letters a reading holds, each counted each time it is reached (what is shared counts as often as it is met; a slice's spare places count too). A statement '..UptoSaid' is the law's where the arguments, and the package variables that the reading takes, are together of bulk at most 1048576: NARROWER than '..Said'. Prove '..Said' where nothing that the law and all that it calls make is longer than what came in: it says more and counts as full. Else prove '..UptoSaid'. A law counts once. -/
mutual
def uptoBulk {H : Type} : DataW H → Nat
  | .lit (.string bytes) => bytes.length + 1
  | .lit _ => 1
  | .nil => 1
  | .ptr d => uptoBulk d + 1
  | .slice elems spare => uptoBulkAll elems + uptoBulkAll spare + 1
  | .agg parts => uptoBulkAll parts + 1
  | .iface _ d => uptoBulk d + 1
  | .map entries => uptoBulkEntries entries + 1
  | .held _ => 1
def uptoBulkAll {H : Type} : List (DataW H) → Nat
  | [] => 0
  | d :: r => uptoBulk d + uptoBulkAll r
def uptoBulkEntries {H : Type} : List (Lit × DataW H) → Nat
  | [] => 0
  | x :: r => uptoBulkEntry x + uptoBulkEntries r
def uptoBulkEntry {H : Type} : Lit × DataW H → Nat
  | (.string bytes, d) => bytes.length + uptoBulk d + 1
  | (_, d) => uptoBulk d + 1
 end
def uptoSmall : (H : Type) → List (DataW H) → Bool := fun _ ds => decide (uptoBulkAll ds ≤ 1048576)
def OpenSpec.upto (s : _root_.Go.ChangeSpec) : _root_.Go.OpenSpec := { _root_.Go.OpenSpec.ofChange s with cond := some uptoSmall }

/-- 'mailsacklaw17.LinesNext', WHERE WHAT IT READS IS OF BULK AT MOST 1048576: true; the input reads as it did. -/
def linesNextUptoRow : OpenClaim := { program := "ytmjmabpcpicemaa", sum := "f7ca17ccfb9ea6ff41cd3e1e4d94ad9ee1cbc7c87d7ff7ee035a969da218f2cc", func := "mailsack/mailsacklaw17.LinesNext", spec := "linesNext", inPlace := ["internal/bytealg.IndexByteString", "internal/bytealg.IndexString"], named := ["internal/bytealg.MaxLen"], apart := false, narrowed := true }
def LinesNextUptoSaid : Prop := linesNextUptoRow.holds Try.pinned (OpenSpec.upto linesNextSpec)

/-- 'mailsacklaw17.LinesTakes', WHERE WHAT IT READS IS OF BULK AT MOST 1048576: true; the input reads as it did. -/
def linesTakesUptoRow : OpenClaim := { program := "ytmjmabpcpicemaa", sum := "f7ca17ccfb9ea6ff41cd3e1e4d94ad9ee1cbc7c87d7ff7ee035a969da218f2cc", func := "mailsack/mailsacklaw17.LinesTakes", spec := "linesTakes", inPlace := ["internal/bytealg.IndexByteString", "internal/bytealg.IndexString"], named := ["internal/bytealg.MaxLen"], apart := false, narrowed := true }
def LinesTakesUptoSaid : Prop := linesTakesUptoRow.holds Try.pinned (OpenSpec.upto linesTakesSpec)

/-- 'mailsacklaw17.LinesMore', WHERE WHAT IT READS IS OF BULK AT MOST 1048576: true; the input reads as it did. -/
def linesMoreUptoRow : OpenClaim := { program := "ytmjmabpcpicemaa", sum := "f7ca17ccfb9ea6ff41cd3e1e4d94ad9ee1cbc7c87d7ff7ee035a969da218f2cc", func := "mailsack/mailsacklaw17.LinesMore", spec := "linesMore", inPlace := ["internal/bytealg.IndexByteString", "internal/bytealg.IndexString"], named := ["internal/bytealg.MaxLen"], apart := false, narrowed := true }
def LinesMoreUptoSaid : Prop := linesMoreUptoRow.holds Try.pinned (OpenSpec.upto linesMoreSpec)

/-- 'mailsacklaw17.LinesPlain', WHERE WHAT IT READS IS OF BULK AT MOST 1048576: true; the input reads as it did. -/
def linesPlainUptoRow : OpenClaim := { program := "ytmjmabpcpicemaa", sum := "f7ca17ccfb9ea6ff41cd3e1e4d94ad9ee1cbc7c87d7ff7ee035a969da218f2cc", func := "mailsack/mailsacklaw17.LinesPlain", spec := "linesPlain", inPlace := ["internal/bytealg.IndexByteString", "internal/bytealg.IndexString"], named := ["internal/bytealg.MaxLen"], apart := false, narrowed := true }
def LinesPlainUptoSaid : Prop := linesPlainUptoRow.holds Try.pinned (OpenSpec.upto linesPlainSpec)

end Rows
end Go.Proofs.Ytmjmabpcpicemaa

/-
  DERIVED. GIVEN WITH THE SEED: THE CARDS: each row of YtacahegificeoaaGreatDoorRows.lean that lists a variable, with what it lists TIED to the program's text (the seventh form; the later family's looks); each row that meets fmt, with fmt's text TOLD by the authors' own Lean function (tested against real Go, not proved from fmt's source: count such statements apart). THE CARD IS WHAT COUNTS. Prove the row's statement (the work); the ties are given (YtacahegificeoaaGreatDoorTie.lean); close each card by the builder's one call (the guide's Derived/Test/ToyasCard.lean, 'card_holds'). Laid BY PROGRAM, IN A SANDBOX (cutbox-door.mjs). By AI agents, Wed Nov 11 2026. No macro, syntax, notation, axiom, sorry.
-/
import Derived.Test.YtacahegificeoaaGreatDoorRows
import GoSem.ClaimSeven
namespace Go.Proofs.YtacahegificeoaaGreatDoor
namespace Rows

/-- THE TIED CARD OF 'mailsacklaw22.ImapLogins'. -/
def imapLoginsCard : Claim7 := { stood := { row := imapLoginsRow, standIns := [], harness := (true, "088907bac1aa0330f129982ebf95979daff70c5667e7246f64afcae59c9adf7c"), looks := true }, kinds := [], alts := [], laidByText := true, laidKinds := [.data, .data, .data, .data, .data, .data, .data, .pinned], laidTests := true, laidLooks := .later }
def ImapLoginsCardSaid : Prop := Claim7.holds Tryz.pinned (.plain (OpenSpec.ofChange imapLoginsSpec)) imapLoginsCard

/-- THE SECOND FORM's CARD OF 'mailsacklaw22.ImapLogins'. -/
def imapLoginsUptoCard : Claim7 := { stood := { row := imapLoginsUptoRow, standIns := [], harness := (true, "088907bac1aa0330f129982ebf95979daff70c5667e7246f64afcae59c9adf7c"), looks := true }, kinds := [], alts := [], laidByText := true, laidKinds := [.data, .data, .data, .data, .data, .data, .data, .pinned], laidTests := true, laidLooks := .later }
def ImapLoginsUptoCardSaid : Prop := Claim7.holds Tryz.pinned (.plain (OpenSpec.upto imapLoginsSpec)) imapLoginsUptoCard
end Rows
end Go.Proofs.YtacahegificeoaaGreatDoor

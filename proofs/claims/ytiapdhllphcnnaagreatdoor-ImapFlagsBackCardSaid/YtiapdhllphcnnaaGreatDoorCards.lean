/-
  DERIVED. GIVEN WITH THE SEED: THE CARDS: each row of YtiapdhllphcnnaaGreatDoorRows.lean that lists a variable, with what it lists TIED to the program's text (the seventh form; the later family's looks); each row that meets fmt, with fmt's text TOLD by the authors' own Lean function (tested against real Go, not proved from fmt's source: count such statements apart). THE CARD IS WHAT COUNTS. Prove the row's statement (the work); the ties are given (YtiapdhllphcnnaaGreatDoorTie.lean); close each card by the builder's one call (the guide's Derived/Test/ToyasCard.lean, 'card_holds'). Laid BY PROGRAM, IN A SANDBOX (cutbox-door.mjs). By AI agents, Wed Nov 11 2026. No macro, syntax, notation, axiom, sorry.
-/
import Derived.Test.YtiapdhllphcnnaaGreatDoorRows
import GoSem.ClaimSeven
namespace Go.Proofs.YtiapdhllphcnnaaGreatDoor
namespace Rows

/-- THE TIED CARD OF 'mailsacklaw22.ImapFlags'. -/
def imapFlagsCard : Claim7 := { stood := { row := imapFlagsRow, standIns := [], harness := (true, "aa1429f6763196075f294713de388dd669a5f3264fd8e7e33028a0f2c6340bb5"), looks := true }, kinds := [], alts := [], laidByText := true, laidKinds := [.data, .data, .data, .data, .data, .data, .data, .pinned], laidTests := true, laidLooks := .later }
def ImapFlagsCardSaid : Prop := Claim7.holds Tryz.pinned (.plain (OpenSpec.ofChange imapFlagsSpec)) imapFlagsCard

/-- THE TIED CARD OF 'mailsacklaw22.ImapFlagsBack'. -/
def imapFlagsBackCard : Claim7 := { stood := { row := imapFlagsBackRow, standIns := [], harness := (true, "aa1429f6763196075f294713de388dd669a5f3264fd8e7e33028a0f2c6340bb5"), looks := true }, kinds := [], alts := [], laidByText := true, laidKinds := [.data, .data, .data, .data, .data, .data, .data, .pinned], laidTests := true, laidLooks := .later }
def ImapFlagsBackCardSaid : Prop := Claim7.holds Tryz.pinned (.plain (OpenSpec.ofChange imapFlagsBackSpec)) imapFlagsBackCard

/-- THE SECOND FORM's CARD OF 'mailsacklaw22.ImapFlags'. -/
def imapFlagsUptoCard : Claim7 := { stood := { row := imapFlagsUptoRow, standIns := [], harness := (true, "aa1429f6763196075f294713de388dd669a5f3264fd8e7e33028a0f2c6340bb5"), looks := true }, kinds := [], alts := [], laidByText := true, laidKinds := [.data, .data, .data, .data, .data, .data, .data, .pinned], laidTests := true, laidLooks := .later }
def ImapFlagsUptoCardSaid : Prop := Claim7.holds Tryz.pinned (.plain (OpenSpec.upto imapFlagsSpec)) imapFlagsUptoCard

/-- THE SECOND FORM's CARD OF 'mailsacklaw22.ImapFlagsBack'. -/
def imapFlagsBackUptoCard : Claim7 := { stood := { row := imapFlagsBackUptoRow, standIns := [], harness := (true, "aa1429f6763196075f294713de388dd669a5f3264fd8e7e33028a0f2c6340bb5"), looks := true }, kinds := [], alts := [], laidByText := true, laidKinds := [.data, .data, .data, .data, .data, .data, .data, .pinned], laidTests := true, laidLooks := .later }
def ImapFlagsBackUptoCardSaid : Prop := Claim7.holds Tryz.pinned (.plain (OpenSpec.upto imapFlagsBackSpec)) imapFlagsBackUptoCard
end Rows
end Go.Proofs.YtiapdhllphcnnaaGreatDoor

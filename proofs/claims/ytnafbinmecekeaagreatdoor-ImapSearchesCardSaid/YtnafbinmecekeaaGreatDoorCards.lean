/-
  DERIVED. GIVEN WITH THE SEED: THE CARDS: each row of YtnafbinmecekeaaGreatDoorRows.lean that lists a variable, with what it lists TIED to the program's text (the seventh form; the later family's looks); each row that meets fmt, with fmt's text TOLD by the authors' own Lean function (tested against real Go, not proved from fmt's source: count such statements apart). THE CARD IS WHAT COUNTS. Prove the row's statement (the work); the ties are given (YtnafbinmecekeaaGreatDoorTie.lean); close each card by the builder's one call (the guide's Derived/Test/ToyasCard.lean, 'card_holds'). Laid BY PROGRAM, IN A SANDBOX (cutbox-door.mjs). By AI agents, Wed Nov 11 2026. No macro, syntax, notation, axiom, sorry.
-/
import Derived.Test.YtnafbinmecekeaaGreatDoorRows
import GoSem.ClaimSeven
namespace Go.Proofs.YtnafbinmecekeaaGreatDoor
namespace Rows

/-- THE TIED CARD OF 'mailsacklaw22.ImapSearches'. -/
def imapSearchesCard : Claim7 := { stood := { row := imapSearchesRow, standIns := [], harness := (true, "f7ad2382c33301d54e9681d38ca8d960ab60a2358085a4db048994d72461095e"), looks := true }, kinds := [], alts := [], laidByText := true, laidKinds := [.data, .data, .data, .data, .data, .data, .data, .pinned], laidTests := true, laidLooks := .later }
def ImapSearchesCardSaid : Prop := Claim7.holds Tryz.pinned (.plain (OpenSpec.ofChange imapSearchesSpec)) imapSearchesCard

/-- THE TIED CARD OF 'mailsacklaw22.ImapKeys'. -/
def imapKeysCard : Claim7 := { stood := { row := imapKeysRow, standIns := [], harness := (true, "f7ad2382c33301d54e9681d38ca8d960ab60a2358085a4db048994d72461095e"), looks := true }, kinds := [], alts := [], laidByText := true, laidKinds := [.data, .data, .data, .data, .data, .data, .data, .pinned], laidTests := true, laidLooks := .later }
def ImapKeysCardSaid : Prop := Claim7.holds Tryz.pinned (.plain (OpenSpec.ofChange imapKeysSpec)) imapKeysCard

/-- THE SECOND FORM's CARD OF 'mailsacklaw22.ImapSearches'. -/
def imapSearchesUptoCard : Claim7 := { stood := { row := imapSearchesUptoRow, standIns := [], harness := (true, "f7ad2382c33301d54e9681d38ca8d960ab60a2358085a4db048994d72461095e"), looks := true }, kinds := [], alts := [], laidByText := true, laidKinds := [.data, .data, .data, .data, .data, .data, .data, .pinned], laidTests := true, laidLooks := .later }
def ImapSearchesUptoCardSaid : Prop := Claim7.holds Tryz.pinned (.plain (OpenSpec.upto imapSearchesSpec)) imapSearchesUptoCard

/-- THE SECOND FORM's CARD OF 'mailsacklaw22.ImapKeys'. -/
def imapKeysUptoCard : Claim7 := { stood := { row := imapKeysUptoRow, standIns := [], harness := (true, "f7ad2382c33301d54e9681d38ca8d960ab60a2358085a4db048994d72461095e"), looks := true }, kinds := [], alts := [], laidByText := true, laidKinds := [.data, .data, .data, .data, .data, .data, .data, .pinned], laidTests := true, laidLooks := .later }
def ImapKeysUptoCardSaid : Prop := Claim7.holds Tryz.pinned (.plain (OpenSpec.upto imapKeysSpec)) imapKeysUptoCard
end Rows
end Go.Proofs.YtnafbinmecekeaaGreatDoor

/-
  DERIVED. GIVEN WITH THE SEED: THE CARDS: each row of YtkgngahmpafdhaaGreatDoorRows.lean that lists a variable, with what it lists TIED to the program's text (the seventh form; the later family's looks); each row that meets fmt, with fmt's text TOLD by the authors' own Lean function (tested against real Go, not proved from fmt's source: count such statements apart). THE CARD IS WHAT COUNTS. Prove the row's statement (the work); the ties are given (YtkgngahmpafdhaaGreatDoorTie.lean); close each card by the builder's one call (the guide's Derived/Test/ToyasCard.lean, 'card_holds'). Laid BY PROGRAM, IN A SANDBOX (cutbox-door.mjs). By AI agents, Wed Nov 11 2026. No macro, syntax, notation, axiom, sorry.
-/
import Derived.Test.YtkgngahmpafdhaaGreatDoorRows
import GoSem.ClaimSeven
namespace Go.Proofs.YtkgngahmpafdhaaGreatDoor
namespace Rows

/-- THE TIED CARD OF 'mailsacklaw20.QueryNots'. -/
def queryNotsCard : Claim7 := { stood := { row := queryNotsRow, standIns := [], harness := (true, "db80c5745412d567369c2b69ef4b27f87a450ed8655b0f49396c5d752105127f"), looks := false }, kinds := [], alts := [], laidByText := true, laidKinds := [.data, .pinned], laidTests := true, laidLooks := .later }
def QueryNotsCardSaid : Prop := Claim7.holds Tryz.pinned (.plain (OpenSpec.ofChange queryNotsSpec)) queryNotsCard

/-- THE SECOND FORM's CARD OF 'mailsacklaw20.QueryNots'. -/
def queryNotsUptoCard : Claim7 := { stood := { row := queryNotsUptoRow, standIns := [], harness := (true, "db80c5745412d567369c2b69ef4b27f87a450ed8655b0f49396c5d752105127f"), looks := false }, kinds := [], alts := [], laidByText := true, laidKinds := [.data, .pinned], laidTests := true, laidLooks := .later }
def QueryNotsUptoCardSaid : Prop := Claim7.holds Tryz.pinned (.plain (OpenSpec.upto queryNotsSpec)) queryNotsUptoCard
end Rows
end Go.Proofs.YtkgngahmpafdhaaGreatDoor

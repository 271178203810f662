/-
  DERIVED. GIVEN WITH THE SEED: THE CARDS: each row of YtjdkeibcoiiliaaGreatDoorRows.lean that lists a variable, with what it lists TIED to the program's text (the seventh form; the later family's looks); each row that meets fmt, with fmt's text TOLD by the authors' own Lean function (tested against real Go, not proved from fmt's source: count such statements apart). THE CARD IS WHAT COUNTS. Prove the row's statement (the work); the ties are given (YtjdkeibcoiiliaaGreatDoorTie.lean); close each card by the builder's one call (the guide's Derived/Test/ToyasCard.lean, 'card_holds'). Laid BY PROGRAM, IN A SANDBOX (cutbox-door.mjs). By AI agents, Wed Nov 11 2026. No macro, syntax, notation, axiom, sorry.
-/
import Derived.Test.YtjdkeibcoiiliaaGreatDoorRows
import GoSem.ClaimSeven
namespace Go.Proofs.YtjdkeibcoiiliaaGreatDoor
namespace Rows

/-- THE TIED CARD OF 'mailsacklaw16.VaultWhole'. -/
def vaultWholeCard : Claim7 := { stood := { row := vaultWholeRow, standIns := [], harness := (true, "99fd7bdcaca91a393e0030f2db1f973b69e1c4053a2f9eb37c511992da138c22"), looks := true }, kinds := [], alts := [], laidByText := true, laidKinds := [.data, .data, .data, .data, .data, .data], laidTests := true, laidLooks := .later }
def VaultWholeCardSaid : Prop := Claim7.holds Tryz.pinned (.plain (OpenSpec.ofChange vaultWholeSpec)) vaultWholeCard

/-- THE SECOND FORM's CARD OF 'mailsacklaw16.VaultWhole'. -/
def vaultWholeUptoCard : Claim7 := { stood := { row := vaultWholeUptoRow, standIns := [], harness := (true, "99fd7bdcaca91a393e0030f2db1f973b69e1c4053a2f9eb37c511992da138c22"), looks := true }, kinds := [], alts := [], laidByText := true, laidKinds := [.data, .data, .data, .data, .data, .data], laidTests := true, laidLooks := .later }
def VaultWholeUptoCardSaid : Prop := Claim7.holds Tryz.pinned (.plain (OpenSpec.upto vaultWholeSpec)) vaultWholeUptoCard
end Rows
end Go.Proofs.YtjdkeibcoiiliaaGreatDoor

/-
  DERIVED. GIVEN WITH THE SEED: THE CARDS: each row of YtnaiekglbemhcaaGreatDoorRows.lean that lists a variable, with what it lists TIED to the program's text (the seventh form; the later family's looks); each row that meets fmt, with fmt's text TOLD by the authors' own Lean function (tested against real Go, not proved from fmt's source: count such statements apart). THE CARD IS WHAT COUNTS. Prove the row's statement (the work); the ties are given (YtnaiekglbemhcaaGreatDoorTie.lean); close each card by the builder's one call (the guide's Derived/Test/ToyasCard.lean, 'card_holds'). Laid BY PROGRAM, IN A SANDBOX (cutbox-door.mjs). By AI agents, Wed Nov 11 2026. No macro, syntax, notation, axiom, sorry.
-/
import Derived.Test.YtnaiekglbemhcaaGreatDoorRows
import GoSem.ClaimSeven
namespace Go.Proofs.YtnaiekglbemhcaaGreatDoor
namespace Rows

/-- THE TIED CARD OF 'mailsacklaw16.VaultFresh'. -/
def vaultFreshCard : Claim7 := { stood := { row := vaultFreshRow, standIns := [], harness := (true, "fe36069b8de6ef65f3745a0966483eb326a836f787559023a7bd528725e4194a"), looks := true }, kinds := [], alts := [], laidByText := true, laidKinds := [.data, .data, .data, .data, .data, .data], laidTests := true, laidLooks := .later }
def VaultFreshCardSaid : Prop := Claim7.holds Tryz.pinned (.plain (OpenSpec.ofChange vaultFreshSpec)) vaultFreshCard

/-- THE TIED CARD OF 'mailsacklaw16.VaultWhole'. -/
def vaultWholeCard : Claim7 := { stood := { row := vaultWholeRow, standIns := [], harness := (true, "fe36069b8de6ef65f3745a0966483eb326a836f787559023a7bd528725e4194a"), looks := true }, kinds := [], alts := [], laidByText := true, laidKinds := [.data, .data, .data, .data, .data, .data], laidTests := true, laidLooks := .later }
def VaultWholeCardSaid : Prop := Claim7.holds Tryz.pinned (.plain (OpenSpec.ofChange vaultWholeSpec)) vaultWholeCard

/-- THE SECOND FORM's CARD OF 'mailsacklaw16.VaultFresh'. -/
def vaultFreshUptoCard : Claim7 := { stood := { row := vaultFreshUptoRow, standIns := [], harness := (true, "fe36069b8de6ef65f3745a0966483eb326a836f787559023a7bd528725e4194a"), looks := true }, kinds := [], alts := [], laidByText := true, laidKinds := [.data, .data, .data, .data, .data, .data], laidTests := true, laidLooks := .later }
def VaultFreshUptoCardSaid : Prop := Claim7.holds Tryz.pinned (.plain (OpenSpec.upto vaultFreshSpec)) vaultFreshUptoCard

/-- THE SECOND FORM's CARD OF 'mailsacklaw16.VaultWhole'. -/
def vaultWholeUptoCard : Claim7 := { stood := { row := vaultWholeUptoRow, standIns := [], harness := (true, "fe36069b8de6ef65f3745a0966483eb326a836f787559023a7bd528725e4194a"), looks := true }, kinds := [], alts := [], laidByText := true, laidKinds := [.data, .data, .data, .data, .data, .data], laidTests := true, laidLooks := .later }
def VaultWholeUptoCardSaid : Prop := Claim7.holds Tryz.pinned (.plain (OpenSpec.upto vaultWholeSpec)) vaultWholeUptoCard
end Rows
end Go.Proofs.YtnaiekglbemhcaaGreatDoor

/-
  DERIVED. GIVEN WITH THE SEED: THE CARDS: each row of YtomnljigoljldaaGreatDoorRows.lean that lists a variable, with what it lists TIED to the program's text (the seventh form; the later family's looks); each row that meets fmt, with fmt's text TOLD by the authors' own Lean function (tested against real Go, not proved from fmt's source: count such statements apart). THE CARD IS WHAT COUNTS. Prove the row's statement (the work); the ties are given (YtomnljigoljldaaGreatDoorTie.lean); close each card by the builder's one call (the guide's Derived/Test/ToyasCard.lean, 'card_holds'). Laid BY PROGRAM, IN A SANDBOX (cutbox-door.mjs). By AI agents, Wed Nov 11 2026. No macro, syntax, notation, axiom, sorry.
-/
import Derived.Test.YtomnljigoljldaaGreatDoorRows
import GoSem.ClaimSeven
namespace Go.Proofs.YtomnljigoljldaaGreatDoor
namespace Rows

/-- THE TIED CARD OF 'mailsacklaw23.ServerNumbers'. -/
def serverNumbersCard : Claim7 := { stood := { row := serverNumbersRow, standIns := [], harness := (true, "c658b3e5ff61db40303749816dcd57828e0a1eefa4c67421376d4d767931fda9"), looks := true }, kinds := [], alts := [], laidByText := true, laidKinds := [.data, .data, .data, .data, .data, .data, .data, .pinned], laidTests := true, laidLooks := .later }
def ServerNumbersCardSaid : Prop := Claim7.holds Tryz.pinned (.plain (OpenSpec.ofChange serverNumbersSpec)) serverNumbersCard

/-- THE TIED CARD OF 'mailsacklaw23.ServerNone'. -/
def serverNoneCard : Claim7 := { stood := { row := serverNoneRow, standIns := [], harness := (true, "c658b3e5ff61db40303749816dcd57828e0a1eefa4c67421376d4d767931fda9"), looks := true }, kinds := [], alts := [], laidByText := true, laidKinds := [.data, .data, .data, .data, .data, .data, .data, .pinned], laidTests := true, laidLooks := .later }
def ServerNoneCardSaid : Prop := Claim7.holds Tryz.pinned (.plain (OpenSpec.ofChange serverNoneSpec)) serverNoneCard

/-- THE SECOND FORM's CARD OF 'mailsacklaw23.ServerNumbers'. -/
def serverNumbersUptoCard : Claim7 := { stood := { row := serverNumbersUptoRow, standIns := [], harness := (true, "c658b3e5ff61db40303749816dcd57828e0a1eefa4c67421376d4d767931fda9"), looks := true }, kinds := [], alts := [], laidByText := true, laidKinds := [.data, .data, .data, .data, .data, .data, .data, .pinned], laidTests := true, laidLooks := .later }
def ServerNumbersUptoCardSaid : Prop := Claim7.holds Tryz.pinned (.plain (OpenSpec.upto serverNumbersSpec)) serverNumbersUptoCard

/-- THE SECOND FORM's CARD OF 'mailsacklaw23.ServerNone'. -/
def serverNoneUptoCard : Claim7 := { stood := { row := serverNoneUptoRow, standIns := [], harness := (true, "c658b3e5ff61db40303749816dcd57828e0a1eefa4c67421376d4d767931fda9"), looks := true }, kinds := [], alts := [], laidByText := true, laidKinds := [.data, .data, .data, .data, .data, .data, .data, .pinned], laidTests := true, laidLooks := .later }
def ServerNoneUptoCardSaid : Prop := Claim7.holds Tryz.pinned (.plain (OpenSpec.upto serverNoneSpec)) serverNoneUptoCard
end Rows
end Go.Proofs.YtomnljigoljldaaGreatDoor

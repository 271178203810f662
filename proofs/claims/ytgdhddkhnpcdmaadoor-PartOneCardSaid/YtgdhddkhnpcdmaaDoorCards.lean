/-
  DERIVED. GIVEN WITH THE SEED: THE CARDS: each row of YtgdhddkhnpcdmaaDoorRows.lean that lists a variable, with what it lists TIED to the program's text (the seventh form; the later family's looks); each row that meets fmt, with fmt's text TOLD by the authors' own Lean function (tested against real Go, not proved from fmt's source: count such statements apart). THE CARD IS WHAT COUNTS. Prove the row's statement (the work); the ties are given (YtgdhddkhnpcdmaaDoorTie.lean); close each card by the builder's one call (the guide's Derived/Test/ToyasCard.lean, 'card_holds'). Laid BY PROGRAM, IN A SANDBOX (cutbox-door.mjs). By AI agents, Wed Nov 11 2026. No macro, syntax, notation, axiom, sorry.
-/
import Derived.Test.YtgdhddkhnpcdmaaDoorRows
import GoSem.ClaimSeven
namespace Go.Proofs.YtgdhddkhnpcdmaaDoor
namespace Rows

/-- THE TIED CARD OF 'mailsacklaw19.PartSplits'. -/
def partSplitsCard : Claim7 := { stood := { row := partSplitsRow, standIns := [], harness := (true, "5b67c8ae1405651cd61d5c682fd8d9c5550db0c737314151f9e9020e39629c14"), looks := false }, kinds := [], alts := [], laidByText := true, laidKinds := [.data, .pinned], laidTests := true, laidLooks := .later }
def PartSplitsCardSaid : Prop := Claim7.holds Tryd.pinned (.plain (OpenSpec.ofChange partSplitsSpec)) partSplitsCard

/-- THE TIED CARD OF 'mailsacklaw19.PartHas'. -/
def partHasCard : Claim7 := { stood := { row := partHasRow, standIns := [], harness := (true, "5b67c8ae1405651cd61d5c682fd8d9c5550db0c737314151f9e9020e39629c14"), looks := false }, kinds := [], alts := [], laidByText := true, laidKinds := [.data, .pinned], laidTests := true, laidLooks := .later }
def PartHasCardSaid : Prop := Claim7.holds Tryd.pinned (.plain (OpenSpec.ofChange partHasSpec)) partHasCard

/-- THE TIED CARD OF 'mailsacklaw19.PartWhole'. -/
def partWholeCard : Claim7 := { stood := { row := partWholeRow, standIns := [], harness := (true, "5b67c8ae1405651cd61d5c682fd8d9c5550db0c737314151f9e9020e39629c14"), looks := false }, kinds := [], alts := [], laidByText := true, laidKinds := [.data, .pinned], laidTests := true, laidLooks := .later }
def PartWholeCardSaid : Prop := Claim7.holds Tryd.pinned (.plain (OpenSpec.ofChange partWholeSpec)) partWholeCard

/-- THE TIED CARD OF 'mailsacklaw19.PartLines'. -/
def partLinesCard : Claim7 := { stood := { row := partLinesRow, standIns := [], harness := (true, "5b67c8ae1405651cd61d5c682fd8d9c5550db0c737314151f9e9020e39629c14"), looks := false }, kinds := [], alts := [], laidByText := true, laidKinds := [.data, .pinned], laidTests := true, laidLooks := .later }
def PartLinesCardSaid : Prop := Claim7.holds Tryd.pinned (.plain (OpenSpec.ofChange partLinesSpec)) partLinesCard

/-- THE TIED CARD OF 'mailsacklaw19.PartOne'. -/
def partOneCard : Claim7 := { stood := { row := partOneRow, standIns := [], harness := (true, "5b67c8ae1405651cd61d5c682fd8d9c5550db0c737314151f9e9020e39629c14"), looks := false }, kinds := [], alts := [], laidByText := true, laidKinds := [.data, .pinned], laidTests := true, laidLooks := .later }
def PartOneCardSaid : Prop := Claim7.holds Tryd.pinned (.plain (OpenSpec.ofChange partOneSpec)) partOneCard

/-- THE SECOND FORM's CARD OF 'mailsacklaw19.PartSplits'. -/
def partSplitsUptoCard : Claim7 := { stood := { row := partSplitsUptoRow, standIns := [], harness := (true, "5b67c8ae1405651cd61d5c682fd8d9c5550db0c737314151f9e9020e39629c14"), looks := false }, kinds := [], alts := [], laidByText := true, laidKinds := [.data, .pinned], laidTests := true, laidLooks := .later }
def PartSplitsUptoCardSaid : Prop := Claim7.holds Tryd.pinned (.plain (OpenSpec.upto partSplitsSpec)) partSplitsUptoCard

/-- THE SECOND FORM's CARD OF 'mailsacklaw19.PartHas'. -/
def partHasUptoCard : Claim7 := { stood := { row := partHasUptoRow, standIns := [], harness := (true, "5b67c8ae1405651cd61d5c682fd8d9c5550db0c737314151f9e9020e39629c14"), looks := false }, kinds := [], alts := [], laidByText := true, laidKinds := [.data, .pinned], laidTests := true, laidLooks := .later }
def PartHasUptoCardSaid : Prop := Claim7.holds Tryd.pinned (.plain (OpenSpec.upto partHasSpec)) partHasUptoCard

/-- THE SECOND FORM's CARD OF 'mailsacklaw19.PartWhole'. -/
def partWholeUptoCard : Claim7 := { stood := { row := partWholeUptoRow, standIns := [], harness := (true, "5b67c8ae1405651cd61d5c682fd8d9c5550db0c737314151f9e9020e39629c14"), looks := false }, kinds := [], alts := [], laidByText := true, laidKinds := [.data, .pinned], laidTests := true, laidLooks := .later }
def PartWholeUptoCardSaid : Prop := Claim7.holds Tryd.pinned (.plain (OpenSpec.upto partWholeSpec)) partWholeUptoCard

/-- THE SECOND FORM's CARD OF 'mailsacklaw19.PartLines'. -/
def partLinesUptoCard : Claim7 := { stood := { row := partLinesUptoRow, standIns := [], harness := (true, "5b67c8ae1405651cd61d5c682fd8d9c5550db0c737314151f9e9020e39629c14"), looks := false }, kinds := [], alts := [], laidByText := true, laidKinds := [.data, .pinned], laidTests := true, laidLooks := .later }
def PartLinesUptoCardSaid : Prop := Claim7.holds Tryd.pinned (.plain (OpenSpec.upto partLinesSpec)) partLinesUptoCard

/-- THE SECOND FORM's CARD OF 'mailsacklaw19.PartOne'. -/
def partOneUptoCard : Claim7 := { stood := { row := partOneUptoRow, standIns := [], harness := (true, "5b67c8ae1405651cd61d5c682fd8d9c5550db0c737314151f9e9020e39629c14"), looks := false }, kinds := [], alts := [], laidByText := true, laidKinds := [.data, .pinned], laidTests := true, laidLooks := .later }
def PartOneUptoCardSaid : Prop := Claim7.holds Tryd.pinned (.plain (OpenSpec.upto partOneSpec)) partOneUptoCard
end Rows
end Go.Proofs.YtgdhddkhnpcdmaaDoor

/-
  DERIVED. GIVEN WITH THE SEED: THE CARDS: each row of YtclbhcoajljeeaaDoorRows.lean that lists a variable, with what it lists TIED to the program's text (the seventh form; the later family's looks); each row that meets fmt, with fmt's text TOLD by the authors' own Lean function (tested against real Go, not proved from fmt's source: count such statements apart). THE CARD IS WHAT COUNTS. Prove the row's statement (the work); the ties are given (YtclbhcoajljeeaaDoorTie.lean); close each card by the builder's one call (the guide's Derived/Test/ToyasCard.lean, 'card_holds'). Laid BY PROGRAM, IN A SANDBOX (cutbox-door.mjs). By AI agents, Wed Nov 11 2026. No macro, syntax, notation, axiom, sorry.
-/
import Derived.Test.YtclbhcoajljeeaaDoorRows
import GoSem.ClaimSeven
namespace Go.Proofs.YtclbhcoajljeeaaDoor
namespace Rows

/-- THE TIED CARD OF 'mailsacklaw21.VerbQuotes'. -/
def verbQuotesCard : Claim7 := { stood := { row := verbQuotesRow, standIns := [], harness := (true, "b4a017e3eb37daf9bef1f6ad30ca1c7b7731544f40389e6c4c53581523de740c"), looks := false }, kinds := [], alts := [], laidByText := true, laidKinds := [.data, .data, .data], laidTests := true, laidLooks := .later }
def VerbQuotesCardSaid : Prop := Claim7.holds Tryd.pinned (.plain (OpenSpec.ofChange verbQuotesSpec)) verbQuotesCard

/-- THE TIED CARD OF 'mailsacklaw21.VerbUpper'. -/
def verbUpperCard : Claim7 := { stood := { row := verbUpperRow, standIns := [], harness := (true, "b4a017e3eb37daf9bef1f6ad30ca1c7b7731544f40389e6c4c53581523de740c"), looks := false }, kinds := [], alts := [], laidByText := true, laidKinds := [.data, .data, .data], laidTests := true, laidLooks := .later }
def VerbUpperCardSaid : Prop := Claim7.holds Tryd.pinned (.plain (OpenSpec.ofChange verbUpperSpec)) verbUpperCard

/-- THE TIED CARD OF 'mailsacklaw21.VerbBack'. -/
def verbBackCard : Claim7 := { stood := { row := verbBackRow, standIns := [], harness := (true, "b4a017e3eb37daf9bef1f6ad30ca1c7b7731544f40389e6c4c53581523de740c"), looks := false }, kinds := [], alts := [], laidByText := true, laidKinds := [.data, .data, .data], laidTests := true, laidLooks := .later }
def VerbBackCardSaid : Prop := Claim7.holds Tryd.pinned (.plain (OpenSpec.ofChange verbBackSpec)) verbBackCard

/-- THE SECOND FORM's CARD OF 'mailsacklaw21.VerbQuotes'. -/
def verbQuotesUptoCard : Claim7 := { stood := { row := verbQuotesUptoRow, standIns := [], harness := (true, "b4a017e3eb37daf9bef1f6ad30ca1c7b7731544f40389e6c4c53581523de740c"), looks := false }, kinds := [], alts := [], laidByText := true, laidKinds := [.data, .data, .data], laidTests := true, laidLooks := .later }
def VerbQuotesUptoCardSaid : Prop := Claim7.holds Tryd.pinned (.plain (OpenSpec.upto verbQuotesSpec)) verbQuotesUptoCard

/-- THE SECOND FORM's CARD OF 'mailsacklaw21.VerbUpper'. -/
def verbUpperUptoCard : Claim7 := { stood := { row := verbUpperUptoRow, standIns := [], harness := (true, "b4a017e3eb37daf9bef1f6ad30ca1c7b7731544f40389e6c4c53581523de740c"), looks := false }, kinds := [], alts := [], laidByText := true, laidKinds := [.data, .data, .data], laidTests := true, laidLooks := .later }
def VerbUpperUptoCardSaid : Prop := Claim7.holds Tryd.pinned (.plain (OpenSpec.upto verbUpperSpec)) verbUpperUptoCard

/-- THE SECOND FORM's CARD OF 'mailsacklaw21.VerbBack'. -/
def verbBackUptoCard : Claim7 := { stood := { row := verbBackUptoRow, standIns := [], harness := (true, "b4a017e3eb37daf9bef1f6ad30ca1c7b7731544f40389e6c4c53581523de740c"), looks := false }, kinds := [], alts := [], laidByText := true, laidKinds := [.data, .data, .data], laidTests := true, laidLooks := .later }
def VerbBackUptoCardSaid : Prop := Claim7.holds Tryd.pinned (.plain (OpenSpec.upto verbBackSpec)) verbBackUptoCard
end Rows
end Go.Proofs.YtclbhcoajljeeaaDoor

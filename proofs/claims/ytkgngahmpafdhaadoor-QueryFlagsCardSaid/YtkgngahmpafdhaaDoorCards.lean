/-
  DERIVED. GIVEN WITH THE SEED: THE CARDS: each row of YtkgngahmpafdhaaDoorRows.lean that lists a variable, with what it lists TIED to the program's text (the seventh form; the later family's looks); each row that meets fmt, with fmt's text TOLD by the authors' own Lean function (tested against real Go, not proved from fmt's source: count such statements apart). THE CARD IS WHAT COUNTS. Prove the row's statement (the work); the ties are given (YtkgngahmpafdhaaDoorTie.lean); close each card by the builder's one call (the guide's Derived/Test/ToyasCard.lean, 'card_holds'). Laid BY PROGRAM, IN A SANDBOX (cutbox-door.mjs). By AI agents, Wed Nov 11 2026. No macro, syntax, notation, axiom, sorry.
-/
import Derived.Test.YtkgngahmpafdhaaDoorRows
import GoSem.ClaimSeven
namespace Go.Proofs.YtkgngahmpafdhaaDoor
namespace Rows

/-- THE TIED CARD OF 'mailsacklaw20.QueryFlags'. -/
def queryFlagsCard : Claim7 := { stood := { row := queryFlagsRow, standIns := [], harness := (true, "a5ac671dfa7a2347b61bbe8c888e4242aff17b7eee889e06a532621bd0c3385f"), looks := false }, kinds := [], alts := [], laidByText := true, laidKinds := [.data, .pinned], laidTests := true, laidLooks := .later }
def QueryFlagsCardSaid : Prop := Claim7.holds Tryd.pinned (.plain (OpenSpec.ofChange queryFlagsSpec)) queryFlagsCard

/-- THE SECOND FORM's CARD OF 'mailsacklaw20.QueryFlags'. -/
def queryFlagsUptoCard : Claim7 := { stood := { row := queryFlagsUptoRow, standIns := [], harness := (true, "a5ac671dfa7a2347b61bbe8c888e4242aff17b7eee889e06a532621bd0c3385f"), looks := false }, kinds := [], alts := [], laidByText := true, laidKinds := [.data, .pinned], laidTests := true, laidLooks := .later }
def QueryFlagsUptoCardSaid : Prop := Claim7.holds Tryd.pinned (.plain (OpenSpec.upto queryFlagsSpec)) queryFlagsUptoCard
end Rows
end Go.Proofs.YtkgngahmpafdhaaDoor

/-
  DERIVED. GIVEN WITH THE SEED: THE CARDS: each row of YtdcdflhglcpleaaDoorRows.lean that lists a variable, with what it lists TIED to the program's text (the seventh form; the later family's looks); each row that meets fmt, with fmt's text TOLD by the authors' own Lean function (tested against real Go, not proved from fmt's source: count such statements apart). THE CARD IS WHAT COUNTS. Prove the row's statement (the work); the ties are given (YtdcdflhglcpleaaDoorTie.lean); close each card by the builder's one call (the guide's Derived/Test/ToyasCard.lean, 'card_holds'). Laid BY PROGRAM, IN A SANDBOX (cutbox-door.mjs). By AI agents, Wed Nov 11 2026. No macro, syntax, notation, axiom, sorry.
-/
import Derived.Test.YtdcdflhglcpleaaDoorRows
import GoSem.ClaimSeven
namespace Go.Proofs.YtdcdflhglcpleaaDoor
namespace Rows

/-- THE TIED CARD OF 'mailsacklaw14.SpanParses'. -/
def spanParsesCard : Claim7 := { stood := { row := spanParsesRow, standIns := [], harness := (true, "21055c0cad60de874ee6bead83190e298cf1a70397c3e787e94ecd46135dd903"), looks := false }, kinds := [], alts := [], laidByText := true, laidKinds := [.data, .data, .data, .data, .pinned], laidTests := true, laidLooks := .later }
def SpanParsesCardSaid : Prop := Claim7.holds Tryd.pinned (.plain (OpenSpec.ofChange spanParsesSpec)) spanParsesCard

/-- THE TIED CARD OF 'mailsacklaw14.SpanTurns'. -/
def spanTurnsCard : Claim7 := { stood := { row := spanTurnsRow, standIns := [], harness := (true, "21055c0cad60de874ee6bead83190e298cf1a70397c3e787e94ecd46135dd903"), looks := false }, kinds := [], alts := [], laidByText := true, laidKinds := [.data, .data, .data, .data, .pinned], laidTests := true, laidLooks := .later }
def SpanTurnsCardSaid : Prop := Claim7.holds Tryd.pinned (.plain (OpenSpec.ofChange spanTurnsSpec)) spanTurnsCard

/-- THE TIED CARD OF 'mailsacklaw14.SpanHas'. -/
def spanHasCard : Claim7 := { stood := { row := spanHasRow, standIns := [], harness := (true, "21055c0cad60de874ee6bead83190e298cf1a70397c3e787e94ecd46135dd903"), looks := false }, kinds := [], alts := [], laidByText := true, laidKinds := [.data, .data, .data, .data, .pinned], laidTests := true, laidLooks := .later }
def SpanHasCardSaid : Prop := Claim7.holds Tryd.pinned (.plain (OpenSpec.ofChange spanHasSpec)) spanHasCard

/-- THE TIED CARD OF 'mailsacklaw14.SpanBack'. -/
def spanBackCard : Claim7 := { stood := { row := spanBackRow, standIns := [], harness := (true, "21055c0cad60de874ee6bead83190e298cf1a70397c3e787e94ecd46135dd903"), looks := false }, kinds := [], alts := [], laidByText := true, laidKinds := [.data, .data, .data, .data, .pinned], laidTests := true, laidLooks := .later }
def SpanBackCardSaid : Prop := Claim7.holds Tryd.pinned (.plain (OpenSpec.ofChange spanBackSpec)) spanBackCard

/-- THE TIED CARD OF 'mailsacklaw14.SpanPicks'. -/
def spanPicksCard : Claim7 := { stood := { row := spanPicksRow, standIns := [], harness := (true, "21055c0cad60de874ee6bead83190e298cf1a70397c3e787e94ecd46135dd903"), looks := false }, kinds := [], alts := [], laidByText := true, laidKinds := [.data, .data, .data, .data, .pinned], laidTests := true, laidLooks := .later }
def SpanPicksCardSaid : Prop := Claim7.holds Tryd.pinned (.plain (OpenSpec.ofChange spanPicksSpec)) spanPicksCard

/-- THE SECOND FORM's CARD OF 'mailsacklaw14.SpanParses'. -/
def spanParsesUptoCard : Claim7 := { stood := { row := spanParsesUptoRow, standIns := [], harness := (true, "21055c0cad60de874ee6bead83190e298cf1a70397c3e787e94ecd46135dd903"), looks := false }, kinds := [], alts := [], laidByText := true, laidKinds := [.data, .data, .data, .data, .pinned], laidTests := true, laidLooks := .later }
def SpanParsesUptoCardSaid : Prop := Claim7.holds Tryd.pinned (.plain (OpenSpec.upto spanParsesSpec)) spanParsesUptoCard

/-- THE SECOND FORM's CARD OF 'mailsacklaw14.SpanTurns'. -/
def spanTurnsUptoCard : Claim7 := { stood := { row := spanTurnsUptoRow, standIns := [], harness := (true, "21055c0cad60de874ee6bead83190e298cf1a70397c3e787e94ecd46135dd903"), looks := false }, kinds := [], alts := [], laidByText := true, laidKinds := [.data, .data, .data, .data, .pinned], laidTests := true, laidLooks := .later }
def SpanTurnsUptoCardSaid : Prop := Claim7.holds Tryd.pinned (.plain (OpenSpec.upto spanTurnsSpec)) spanTurnsUptoCard

/-- THE SECOND FORM's CARD OF 'mailsacklaw14.SpanHas'. -/
def spanHasUptoCard : Claim7 := { stood := { row := spanHasUptoRow, standIns := [], harness := (true, "21055c0cad60de874ee6bead83190e298cf1a70397c3e787e94ecd46135dd903"), looks := false }, kinds := [], alts := [], laidByText := true, laidKinds := [.data, .data, .data, .data, .pinned], laidTests := true, laidLooks := .later }
def SpanHasUptoCardSaid : Prop := Claim7.holds Tryd.pinned (.plain (OpenSpec.upto spanHasSpec)) spanHasUptoCard

/-- THE SECOND FORM's CARD OF 'mailsacklaw14.SpanBack'. -/
def spanBackUptoCard : Claim7 := { stood := { row := spanBackUptoRow, standIns := [], harness := (true, "21055c0cad60de874ee6bead83190e298cf1a70397c3e787e94ecd46135dd903"), looks := false }, kinds := [], alts := [], laidByText := true, laidKinds := [.data, .data, .data, .data, .pinned], laidTests := true, laidLooks := .later }
def SpanBackUptoCardSaid : Prop := Claim7.holds Tryd.pinned (.plain (OpenSpec.upto spanBackSpec)) spanBackUptoCard

/-- THE SECOND FORM's CARD OF 'mailsacklaw14.SpanPicks'. -/
def spanPicksUptoCard : Claim7 := { stood := { row := spanPicksUptoRow, standIns := [], harness := (true, "21055c0cad60de874ee6bead83190e298cf1a70397c3e787e94ecd46135dd903"), looks := false }, kinds := [], alts := [], laidByText := true, laidKinds := [.data, .data, .data, .data, .pinned], laidTests := true, laidLooks := .later }
def SpanPicksUptoCardSaid : Prop := Claim7.holds Tryd.pinned (.plain (OpenSpec.upto spanPicksSpec)) spanPicksUptoCard
end Rows
end Go.Proofs.YtdcdflhglcpleaaDoor

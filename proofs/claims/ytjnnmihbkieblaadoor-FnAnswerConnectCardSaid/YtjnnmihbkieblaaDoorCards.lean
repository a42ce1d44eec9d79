/-
  DERIVED. GIVEN WITH THE SEED: THE CARDS: each row of YtjnnmihbkieblaaDoorRows.lean that lists a variable, with what it lists TIED to the program's text (the seventh form; the later family's looks); each row that meets fmt, with fmt's text TOLD by the authors' own Lean function (tested against real Go, not proved from fmt's source: count such statements apart). THE CARD IS WHAT COUNTS. Prove the row's statement (the work); the ties are given (YtjnnmihbkieblaaDoorTie.lean); close each card by the builder's one call (the guide's Derived/Test/ToyasCard.lean, 'card_holds'). Laid BY PROGRAM, IN A SANDBOX (cutbox-door.mjs). By AI agents, Wed Nov 11 2026. No macro, syntax, notation, axiom, sorry.
-/
import Derived.Test.YtjnnmihbkieblaaDoorRows
import GoSem.ClaimSeven
namespace Go.Proofs.YtjnnmihbkieblaaDoor
namespace Rows

/-- THE TIED CARD OF 'laws.FnAnswerConnect'. -/
def fnAnswerConnectCard : Claim7 := { stood := { row := fnAnswerConnectRow, standIns := [], harness := (true, "9564cdf2a06613b0b609d6d234fc6e83c81023c442f8b5cd68285dbc27d80dfb"), looks := true }, kinds := [], alts := [], laidByText := true, laidKinds := [.data, .data, .data, .data, .sentinel, .sentinel, .widerDeep, .pinned], laidTests := true, laidLooks := .later }
def FnAnswerConnectCardSaid : Prop := Claim7.holds Tryd.pinned (.plain (OpenSpec.ofChange fnAnswerConnectSpec)) fnAnswerConnectCard

/-- THE SECOND FORM's CARD OF 'laws.FnAnswerConnect'. -/
def fnAnswerConnectUptoCard : Claim7 := { stood := { row := fnAnswerConnectUptoRow, standIns := [], harness := (true, "9564cdf2a06613b0b609d6d234fc6e83c81023c442f8b5cd68285dbc27d80dfb"), looks := true }, kinds := [], alts := [], laidByText := true, laidKinds := [.data, .data, .data, .data, .sentinel, .sentinel, .widerDeep, .pinned], laidTests := true, laidLooks := .later }
def FnAnswerConnectUptoCardSaid : Prop := Claim7.holds Tryd.pinned (.plain (OpenSpec.upto fnAnswerConnectSpec)) fnAnswerConnectUptoCard
end Rows
end Go.Proofs.YtjnnmihbkieblaaDoor

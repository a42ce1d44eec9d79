/-
  DERIVED. GIVEN WITH THE SEED: THE CARDS: each row of YtifljfnngbapdaaDoorRows.lean that lists a variable, with what it lists TIED to the program's text (the seventh form; the later family's looks); each row that meets fmt, with fmt's text TOLD by the authors' own Lean function (tested against real Go, not proved from fmt's source: count such statements apart). THE CARD IS WHAT COUNTS. Prove the row's statement (the work); the ties are given (YtifljfnngbapdaaDoorTie.lean); close each card by the builder's one call (the guide's Derived/Test/ToyasCard.lean, 'card_holds'). Laid BY PROGRAM, IN A SANDBOX (cutbox-door.mjs). By AI agents, Wed Nov 11 2026. No macro, syntax, notation, axiom, sorry.
-/
import Derived.Test.YtifljfnngbapdaaDoorRows
import GoSem.ClaimSeven
namespace Go.Proofs.YtifljfnngbapdaaDoor
namespace Rows

/-- THE TIED CARD OF 'laws.FnExactAnswerText'. -/
def fnExactAnswerTextCard : Claim7 := { stood := { row := fnExactAnswerTextRow, standIns := [], harness := (true, "b20908bc011872177533614467890bccf72ff68b5b5d33e65ac1023722efc054"), looks := false }, kinds := [], alts := [], laidByText := true, laidKinds := [.data, .data, .data, .widerDeep], laidTests := true, laidLooks := .later }
def FnExactAnswerTextCardSaid : Prop := Claim7.holds Tryd.pinned (.plain (OpenSpec.ofChange fnExactAnswerTextSpec)) fnExactAnswerTextCard

/-- THE TIED CARD OF 'laws.FnExactAnswerFrom'. -/
def fnExactAnswerFromCard : Claim7 := { stood := { row := fnExactAnswerFromRow, standIns := [], harness := (true, "b20908bc011872177533614467890bccf72ff68b5b5d33e65ac1023722efc054"), looks := false }, kinds := [], alts := [], laidByText := true, laidKinds := [.data, .data, .data, .widerDeep], laidTests := true, laidLooks := .later }
def FnExactAnswerFromCardSaid : Prop := Claim7.holds Tryd.pinned (.plain (OpenSpec.ofChange fnExactAnswerFromSpec)) fnExactAnswerFromCard

/-- THE TIED CARD OF 'laws.FnAnswer'. -/
def fnAnswerCard : Claim7 := { stood := { row := fnAnswerRow, standIns := [], harness := (true, "b20908bc011872177533614467890bccf72ff68b5b5d33e65ac1023722efc054"), looks := false }, kinds := [], alts := [], laidByText := true, laidKinds := [.data, .data, .data, .widerDeep], laidTests := true, laidLooks := .later }
def FnAnswerCardSaid : Prop := Claim7.holds Tryd.pinned (.plain (OpenSpec.ofChange fnAnswerSpec)) fnAnswerCard

/-- THE TIED CARD OF 'laws.FnAnswerCut'. -/
def fnAnswerCutCard : Claim7 := { stood := { row := fnAnswerCutRow, standIns := [], harness := (true, "b20908bc011872177533614467890bccf72ff68b5b5d33e65ac1023722efc054"), looks := false }, kinds := [], alts := [], laidByText := true, laidKinds := [.data, .data, .data, .widerDeep], laidTests := true, laidLooks := .later }
def FnAnswerCutCardSaid : Prop := Claim7.holds Tryd.pinned (.plain (OpenSpec.ofChange fnAnswerCutSpec)) fnAnswerCutCard

/-- THE TIED CARD OF 'laws.FnAnswerFrom'. -/
def fnAnswerFromCard : Claim7 := { stood := { row := fnAnswerFromRow, standIns := [], harness := (true, "b20908bc011872177533614467890bccf72ff68b5b5d33e65ac1023722efc054"), looks := false }, kinds := [], alts := [], laidByText := true, laidKinds := [.data, .data, .data, .widerDeep], laidTests := true, laidLooks := .later }
def FnAnswerFromCardSaid : Prop := Claim7.holds Tryd.pinned (.plain (OpenSpec.ofChange fnAnswerFromSpec)) fnAnswerFromCard

/-- THE SECOND FORM's CARD OF 'laws.FnExactAnswerText'. -/
def fnExactAnswerTextUptoCard : Claim7 := { stood := { row := fnExactAnswerTextUptoRow, standIns := [], harness := (true, "b20908bc011872177533614467890bccf72ff68b5b5d33e65ac1023722efc054"), looks := false }, kinds := [], alts := [], laidByText := true, laidKinds := [.data, .data, .data, .widerDeep], laidTests := true, laidLooks := .later }
def FnExactAnswerTextUptoCardSaid : Prop := Claim7.holds Tryd.pinned (.plain (OpenSpec.upto fnExactAnswerTextSpec)) fnExactAnswerTextUptoCard

/-- THE SECOND FORM's CARD OF 'laws.FnExactAnswerFrom'. -/
def fnExactAnswerFromUptoCard : Claim7 := { stood := { row := fnExactAnswerFromUptoRow, standIns := [], harness := (true, "b20908bc011872177533614467890bccf72ff68b5b5d33e65ac1023722efc054"), looks := false }, kinds := [], alts := [], laidByText := true, laidKinds := [.data, .data, .data, .widerDeep], laidTests := true, laidLooks := .later }
def FnExactAnswerFromUptoCardSaid : Prop := Claim7.holds Tryd.pinned (.plain (OpenSpec.upto fnExactAnswerFromSpec)) fnExactAnswerFromUptoCard

/-- THE SECOND FORM's CARD OF 'laws.FnAnswer'. -/
def fnAnswerUptoCard : Claim7 := { stood := { row := fnAnswerUptoRow, standIns := [], harness := (true, "b20908bc011872177533614467890bccf72ff68b5b5d33e65ac1023722efc054"), looks := false }, kinds := [], alts := [], laidByText := true, laidKinds := [.data, .data, .data, .widerDeep], laidTests := true, laidLooks := .later }
def FnAnswerUptoCardSaid : Prop := Claim7.holds Tryd.pinned (.plain (OpenSpec.upto fnAnswerSpec)) fnAnswerUptoCard

/-- THE SECOND FORM's CARD OF 'laws.FnAnswerCut'. -/
def fnAnswerCutUptoCard : Claim7 := { stood := { row := fnAnswerCutUptoRow, standIns := [], harness := (true, "b20908bc011872177533614467890bccf72ff68b5b5d33e65ac1023722efc054"), looks := false }, kinds := [], alts := [], laidByText := true, laidKinds := [.data, .data, .data, .widerDeep], laidTests := true, laidLooks := .later }
def FnAnswerCutUptoCardSaid : Prop := Claim7.holds Tryd.pinned (.plain (OpenSpec.upto fnAnswerCutSpec)) fnAnswerCutUptoCard

/-- THE SECOND FORM's CARD OF 'laws.FnAnswerFrom'. -/
def fnAnswerFromUptoCard : Claim7 := { stood := { row := fnAnswerFromUptoRow, standIns := [], harness := (true, "b20908bc011872177533614467890bccf72ff68b5b5d33e65ac1023722efc054"), looks := false }, kinds := [], alts := [], laidByText := true, laidKinds := [.data, .data, .data, .widerDeep], laidTests := true, laidLooks := .later }
def FnAnswerFromUptoCardSaid : Prop := Claim7.holds Tryd.pinned (.plain (OpenSpec.upto fnAnswerFromSpec)) fnAnswerFromUptoCard
end Rows
end Go.Proofs.YtifljfnngbapdaaDoor

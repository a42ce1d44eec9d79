/-
  DERIVED. GIVEN WITH THE SEED: THE CARDS: each row of YtjnnmihbkieblaaGreatDoorRows.lean that lists a variable, with what it lists TIED to the program's text (the seventh form; the later family's looks); each row that meets fmt, with fmt's text TOLD by the authors' own Lean function (tested against real Go, not proved from fmt's source: count such statements apart). THE CARD IS WHAT COUNTS. Prove the row's statement (the work); the ties are given (YtjnnmihbkieblaaGreatDoorTie.lean); close each card by the builder's one call (the guide's Derived/Test/ToyasCard.lean, 'card_holds'). Laid BY PROGRAM, IN A SANDBOX (cutbox-door.mjs). By AI agents, Wed Nov 11 2026. No macro, syntax, notation, axiom, sorry.
-/
import Derived.Test.YtjnnmihbkieblaaGreatDoorRows
import GoSem.ClaimSeven
namespace Go.Proofs.YtjnnmihbkieblaaGreatDoor
namespace Rows

/-- THE TIED CARD OF 'laws.FnConnect'. -/
def fnConnectCard : Claim7 := { stood := { row := fnConnectRow, standIns := [], harness := (true, "12f77fffc38f7406a318995ee6b2027e38e9c71ed0cba08689d630be31bca1fd"), looks := true }, kinds := [], alts := [], laidByText := true, laidKinds := [.data, .data, .data, .data, .sentinel, .sentinel, .pinned], laidTests := true, laidLooks := .later }
def FnConnectCardSaid : Prop := Claim7.holds Tryz.pinned (.plain (OpenSpec.ofChange fnConnectSpec)) fnConnectCard

/-- THE TIED CARD OF 'laws.FnExactConnectFrom'. -/
def fnExactConnectFromCard : Claim7 := { stood := { row := fnExactConnectFromRow, standIns := [], harness := (true, "12f77fffc38f7406a318995ee6b2027e38e9c71ed0cba08689d630be31bca1fd"), looks := true }, kinds := [], alts := [], laidByText := true, laidKinds := [.data, .data, .data, .data, .sentinel, .sentinel, .pinned], laidTests := true, laidLooks := .later }
def FnExactConnectFromCardSaid : Prop := Claim7.holds Tryz.pinned (.plain (OpenSpec.ofChange fnExactConnectFromSpec)) fnExactConnectFromCard

/-- THE TIED CARD OF 'laws.FnConnectFrom'. -/
def fnConnectFromCard : Claim7 := { stood := { row := fnConnectFromRow, standIns := [], harness := (true, "12f77fffc38f7406a318995ee6b2027e38e9c71ed0cba08689d630be31bca1fd"), looks := true }, kinds := [], alts := [], laidByText := true, laidKinds := [.data, .data, .data, .data, .sentinel, .sentinel, .pinned], laidTests := true, laidLooks := .later }
def FnConnectFromCardSaid : Prop := Claim7.holds Tryz.pinned (.plain (OpenSpec.ofChange fnConnectFromSpec)) fnConnectFromCard

/-- THE TIED CARD OF 'laws.FnConnectCut'. -/
def fnConnectCutCard : Claim7 := { stood := { row := fnConnectCutRow, standIns := [], harness := (true, "12f77fffc38f7406a318995ee6b2027e38e9c71ed0cba08689d630be31bca1fd"), looks := true }, kinds := [], alts := [], laidByText := true, laidKinds := [.data, .data, .data, .data, .sentinel, .sentinel, .pinned], laidTests := true, laidLooks := .later }
def FnConnectCutCardSaid : Prop := Claim7.holds Tryz.pinned (.plain (OpenSpec.ofChange fnConnectCutSpec)) fnConnectCutCard

/-- THE SECOND FORM's CARD OF 'laws.FnConnect'. -/
def fnConnectUptoCard : Claim7 := { stood := { row := fnConnectUptoRow, standIns := [], harness := (true, "12f77fffc38f7406a318995ee6b2027e38e9c71ed0cba08689d630be31bca1fd"), looks := true }, kinds := [], alts := [], laidByText := true, laidKinds := [.data, .data, .data, .data, .sentinel, .sentinel, .pinned], laidTests := true, laidLooks := .later }
def FnConnectUptoCardSaid : Prop := Claim7.holds Tryz.pinned (.plain (OpenSpec.upto fnConnectSpec)) fnConnectUptoCard

/-- THE SECOND FORM's CARD OF 'laws.FnExactConnectFrom'. -/
def fnExactConnectFromUptoCard : Claim7 := { stood := { row := fnExactConnectFromUptoRow, standIns := [], harness := (true, "12f77fffc38f7406a318995ee6b2027e38e9c71ed0cba08689d630be31bca1fd"), looks := true }, kinds := [], alts := [], laidByText := true, laidKinds := [.data, .data, .data, .data, .sentinel, .sentinel, .pinned], laidTests := true, laidLooks := .later }
def FnExactConnectFromUptoCardSaid : Prop := Claim7.holds Tryz.pinned (.plain (OpenSpec.upto fnExactConnectFromSpec)) fnExactConnectFromUptoCard

/-- THE SECOND FORM's CARD OF 'laws.FnConnectFrom'. -/
def fnConnectFromUptoCard : Claim7 := { stood := { row := fnConnectFromUptoRow, standIns := [], harness := (true, "12f77fffc38f7406a318995ee6b2027e38e9c71ed0cba08689d630be31bca1fd"), looks := true }, kinds := [], alts := [], laidByText := true, laidKinds := [.data, .data, .data, .data, .sentinel, .sentinel, .pinned], laidTests := true, laidLooks := .later }
def FnConnectFromUptoCardSaid : Prop := Claim7.holds Tryz.pinned (.plain (OpenSpec.upto fnConnectFromSpec)) fnConnectFromUptoCard

/-- THE SECOND FORM's CARD OF 'laws.FnConnectCut'. -/
def fnConnectCutUptoCard : Claim7 := { stood := { row := fnConnectCutUptoRow, standIns := [], harness := (true, "12f77fffc38f7406a318995ee6b2027e38e9c71ed0cba08689d630be31bca1fd"), looks := true }, kinds := [], alts := [], laidByText := true, laidKinds := [.data, .data, .data, .data, .sentinel, .sentinel, .pinned], laidTests := true, laidLooks := .later }
def FnConnectCutUptoCardSaid : Prop := Claim7.holds Tryz.pinned (.plain (OpenSpec.upto fnConnectCutSpec)) fnConnectCutUptoCard
end Rows
end Go.Proofs.YtjnnmihbkieblaaGreatDoor

/-
  DERIVED. GIVEN WITH THE SEED: THE CARDS: each row of YtdmkacbjdojkpaaDoorRows.lean that lists a variable, with what it lists TIED to the program's text (the seventh form; the later family's looks); each row that meets fmt, with fmt's text TOLD by the authors' own Lean function (tested against real Go, not proved from fmt's source: count such statements apart). THE CARD IS WHAT COUNTS. Prove the row's statement (the work); the ties are given (YtdmkacbjdojkpaaDoorTie.lean); close each card by the builder's one call (the guide's Derived/Test/ToyasCard.lean, 'card_holds'). Laid BY PROGRAM, IN A SANDBOX (cutbox-door.mjs). By AI agents, Wed Nov 11 2026. No macro, syntax, notation, axiom, sorry.
-/
import Derived.Test.YtdmkacbjdojkpaaDoorRows
import GoSem.ClaimSeven
namespace Go.Proofs.YtdmkacbjdojkpaaDoor
namespace Rows

/-- THE TIED CARD OF 'laws.FnCut'. -/
def fnCutCard : Claim7 := { stood := { row := fnCutRow, standIns := [], harness := (true, "be973a5d57cf08116a7e6a47837bfd3f23ecac6c98cd868bd1c5ddfbe69aa512"), looks := false }, kinds := [], alts := [], laidByText := true, laidKinds := [.data, .data, .data, .data, .pinned], laidTests := true, laidLooks := .later }
def FnCutCardSaid : Prop := Claim7.holds Tryd.pinned (.plain (OpenSpec.ofChange fnCutSpec)) fnCutCard

/-- THE TIED CARD OF 'laws.FnJoin'. -/
def fnJoinCard : Claim7 := { stood := { row := fnJoinRow, standIns := [], harness := (true, "be973a5d57cf08116a7e6a47837bfd3f23ecac6c98cd868bd1c5ddfbe69aa512"), looks := false }, kinds := [], alts := [], laidByText := true, laidKinds := [.data, .data, .data, .data, .pinned], laidTests := true, laidLooks := .later }
def FnJoinCardSaid : Prop := Claim7.holds Tryd.pinned (.plain (OpenSpec.ofChange fnJoinSpec)) fnJoinCard

/-- THE TIED CARD OF 'laws.FnJoinAddress'. -/
def fnJoinAddressCard : Claim7 := { stood := { row := fnJoinAddressRow, standIns := [], harness := (true, "be973a5d57cf08116a7e6a47837bfd3f23ecac6c98cd868bd1c5ddfbe69aa512"), looks := false }, kinds := [], alts := [], laidByText := true, laidKinds := [.data, .data, .data, .data, .pinned], laidTests := true, laidLooks := .later }
def FnJoinAddressCardSaid : Prop := Claim7.holds Tryd.pinned (.plain (OpenSpec.ofChange fnJoinAddressSpec)) fnJoinAddressCard

/-- THE TIED CARD OF 'laws.FnJoinSize'. -/
def fnJoinSizeCard : Claim7 := { stood := { row := fnJoinSizeRow, standIns := [], harness := (true, "be973a5d57cf08116a7e6a47837bfd3f23ecac6c98cd868bd1c5ddfbe69aa512"), looks := false }, kinds := [], alts := [], laidByText := true, laidKinds := [.data, .data, .data, .data, .pinned], laidTests := true, laidLooks := .later }
def FnJoinSizeCardSaid : Prop := Claim7.holds Tryd.pinned (.plain (OpenSpec.ofChange fnJoinSizeSpec)) fnJoinSizeCard

/-- THE TIED CARD OF 'laws.FnExactPacketJoin'. -/
def fnExactPacketJoinCard : Claim7 := { stood := { row := fnExactPacketJoinRow, standIns := [], harness := (true, "be973a5d57cf08116a7e6a47837bfd3f23ecac6c98cd868bd1c5ddfbe69aa512"), looks := false }, kinds := [], alts := [], laidByText := true, laidKinds := [.data, .data, .data, .data, .pinned], laidTests := true, laidLooks := .later }
def FnExactPacketJoinCardSaid : Prop := Claim7.holds Tryd.pinned (.plain (OpenSpec.ofChange fnExactPacketJoinSpec)) fnExactPacketJoinCard

/-- THE TIED CARD OF 'laws.FnConnectBegin'. -/
def fnConnectBeginCard : Claim7 := { stood := { row := fnConnectBeginRow, standIns := [], harness := (true, "be973a5d57cf08116a7e6a47837bfd3f23ecac6c98cd868bd1c5ddfbe69aa512"), looks := false }, kinds := [], alts := [], laidByText := true, laidKinds := [.data, .data, .data, .data, .pinned], laidTests := true, laidLooks := .later }
def FnConnectBeginCardSaid : Prop := Claim7.holds Tryd.pinned (.plain (OpenSpec.ofChange fnConnectBeginSpec)) fnConnectBeginCard

/-- THE TIED CARD OF 'laws.FnConnectSize'. -/
def fnConnectSizeCard : Claim7 := { stood := { row := fnConnectSizeRow, standIns := [], harness := (true, "be973a5d57cf08116a7e6a47837bfd3f23ecac6c98cd868bd1c5ddfbe69aa512"), looks := false }, kinds := [], alts := [], laidByText := true, laidKinds := [.data, .data, .data, .data, .pinned], laidTests := true, laidLooks := .later }
def FnConnectSizeCardSaid : Prop := Claim7.holds Tryd.pinned (.plain (OpenSpec.ofChange fnConnectSizeSpec)) fnConnectSizeCard

/-- THE TIED CARD OF 'laws.FnExactConnectText'. -/
def fnExactConnectTextCard : Claim7 := { stood := { row := fnExactConnectTextRow, standIns := [], harness := (true, "be973a5d57cf08116a7e6a47837bfd3f23ecac6c98cd868bd1c5ddfbe69aa512"), looks := false }, kinds := [], alts := [], laidByText := true, laidKinds := [.data, .data, .data, .data, .pinned], laidTests := true, laidLooks := .later }
def FnExactConnectTextCardSaid : Prop := Claim7.holds Tryd.pinned (.plain (OpenSpec.ofChange fnExactConnectTextSpec)) fnExactConnectTextCard

/-- THE SECOND FORM's CARD OF 'laws.FnCut'. -/
def fnCutUptoCard : Claim7 := { stood := { row := fnCutUptoRow, standIns := [], harness := (true, "be973a5d57cf08116a7e6a47837bfd3f23ecac6c98cd868bd1c5ddfbe69aa512"), looks := false }, kinds := [], alts := [], laidByText := true, laidKinds := [.data, .data, .data, .data, .pinned], laidTests := true, laidLooks := .later }
def FnCutUptoCardSaid : Prop := Claim7.holds Tryd.pinned (.plain (OpenSpec.upto fnCutSpec)) fnCutUptoCard

/-- THE SECOND FORM's CARD OF 'laws.FnJoin'. -/
def fnJoinUptoCard : Claim7 := { stood := { row := fnJoinUptoRow, standIns := [], harness := (true, "be973a5d57cf08116a7e6a47837bfd3f23ecac6c98cd868bd1c5ddfbe69aa512"), looks := false }, kinds := [], alts := [], laidByText := true, laidKinds := [.data, .data, .data, .data, .pinned], laidTests := true, laidLooks := .later }
def FnJoinUptoCardSaid : Prop := Claim7.holds Tryd.pinned (.plain (OpenSpec.upto fnJoinSpec)) fnJoinUptoCard

/-- THE SECOND FORM's CARD OF 'laws.FnJoinAddress'. -/
def fnJoinAddressUptoCard : Claim7 := { stood := { row := fnJoinAddressUptoRow, standIns := [], harness := (true, "be973a5d57cf08116a7e6a47837bfd3f23ecac6c98cd868bd1c5ddfbe69aa512"), looks := false }, kinds := [], alts := [], laidByText := true, laidKinds := [.data, .data, .data, .data, .pinned], laidTests := true, laidLooks := .later }
def FnJoinAddressUptoCardSaid : Prop := Claim7.holds Tryd.pinned (.plain (OpenSpec.upto fnJoinAddressSpec)) fnJoinAddressUptoCard

/-- THE SECOND FORM's CARD OF 'laws.FnJoinSize'. -/
def fnJoinSizeUptoCard : Claim7 := { stood := { row := fnJoinSizeUptoRow, standIns := [], harness := (true, "be973a5d57cf08116a7e6a47837bfd3f23ecac6c98cd868bd1c5ddfbe69aa512"), looks := false }, kinds := [], alts := [], laidByText := true, laidKinds := [.data, .data, .data, .data, .pinned], laidTests := true, laidLooks := .later }
def FnJoinSizeUptoCardSaid : Prop := Claim7.holds Tryd.pinned (.plain (OpenSpec.upto fnJoinSizeSpec)) fnJoinSizeUptoCard

/-- THE SECOND FORM's CARD OF 'laws.FnExactPacketJoin'. -/
def fnExactPacketJoinUptoCard : Claim7 := { stood := { row := fnExactPacketJoinUptoRow, standIns := [], harness := (true, "be973a5d57cf08116a7e6a47837bfd3f23ecac6c98cd868bd1c5ddfbe69aa512"), looks := false }, kinds := [], alts := [], laidByText := true, laidKinds := [.data, .data, .data, .data, .pinned], laidTests := true, laidLooks := .later }
def FnExactPacketJoinUptoCardSaid : Prop := Claim7.holds Tryd.pinned (.plain (OpenSpec.upto fnExactPacketJoinSpec)) fnExactPacketJoinUptoCard

/-- THE SECOND FORM's CARD OF 'laws.FnConnectBegin'. -/
def fnConnectBeginUptoCard : Claim7 := { stood := { row := fnConnectBeginUptoRow, standIns := [], harness := (true, "be973a5d57cf08116a7e6a47837bfd3f23ecac6c98cd868bd1c5ddfbe69aa512"), looks := false }, kinds := [], alts := [], laidByText := true, laidKinds := [.data, .data, .data, .data, .pinned], laidTests := true, laidLooks := .later }
def FnConnectBeginUptoCardSaid : Prop := Claim7.holds Tryd.pinned (.plain (OpenSpec.upto fnConnectBeginSpec)) fnConnectBeginUptoCard

/-- THE SECOND FORM's CARD OF 'laws.FnConnectSize'. -/
def fnConnectSizeUptoCard : Claim7 := { stood := { row := fnConnectSizeUptoRow, standIns := [], harness := (true, "be973a5d57cf08116a7e6a47837bfd3f23ecac6c98cd868bd1c5ddfbe69aa512"), looks := false }, kinds := [], alts := [], laidByText := true, laidKinds := [.data, .data, .data, .data, .pinned], laidTests := true, laidLooks := .later }
def FnConnectSizeUptoCardSaid : Prop := Claim7.holds Tryd.pinned (.plain (OpenSpec.upto fnConnectSizeSpec)) fnConnectSizeUptoCard

/-- THE SECOND FORM's CARD OF 'laws.FnExactConnectText'. -/
def fnExactConnectTextUptoCard : Claim7 := { stood := { row := fnExactConnectTextUptoRow, standIns := [], harness := (true, "be973a5d57cf08116a7e6a47837bfd3f23ecac6c98cd868bd1c5ddfbe69aa512"), looks := false }, kinds := [], alts := [], laidByText := true, laidKinds := [.data, .data, .data, .data, .pinned], laidTests := true, laidLooks := .later }
def FnExactConnectTextUptoCardSaid : Prop := Claim7.holds Tryd.pinned (.plain (OpenSpec.upto fnExactConnectTextSpec)) fnExactConnectTextUptoCard
end Rows
end Go.Proofs.YtdmkacbjdojkpaaDoor

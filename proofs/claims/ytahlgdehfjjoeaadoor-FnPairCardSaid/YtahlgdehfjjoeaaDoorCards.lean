/-
  DERIVED. GIVEN WITH THE SEED: THE CARDS: each row of YtahlgdehfjjoeaaDoorRows.lean that lists a variable, with what it lists TIED to the program's text (the seventh form; the later family's looks); each row that meets fmt, with fmt's text TOLD by the authors' own Lean function (tested against real Go, not proved from fmt's source: count such statements apart). THE CARD IS WHAT COUNTS. Prove the row's statement (the work); the ties are given (YtahlgdehfjjoeaaDoorTie.lean); close each card by the builder's one call (the guide's Derived/Test/ToyasCard.lean, 'card_holds'). Laid BY PROGRAM, IN A SANDBOX (cutbox-door.mjs). By AI agents, Wed Nov 11 2026. No macro, syntax, notation, axiom, sorry.
-/
import Derived.Test.YtahlgdehfjjoeaaDoorRows
import GoSem.ClaimSeven
namespace Go.Proofs.YtahlgdehfjjoeaaDoor
namespace Rows

/-- THE TIED CARD OF 'laws.FnPair'. -/
def fnPairCard : Claim7 := { stood := { row := fnPairRow, standIns := [], harness := (true, "ddde8ea9baa7a1e5dd8529c3c4e771e6d4cb3dba0431e3a41231ca5bdcf81568"), looks := false }, kinds := [], alts := [], laidByText := true, laidKinds := [.data, .pinned], laidTests := true, laidLooks := .later }
def FnPairCardSaid : Prop := Claim7.holds Tryd.pinned (.plain (OpenSpec.ofChange fnPairSpec)) fnPairCard

/-- THE TIED CARD OF 'laws.FnExactReplyBytes'. -/
def fnExactReplyBytesCard : Claim7 := { stood := { row := fnExactReplyBytesRow, standIns := [], harness := (true, "ddde8ea9baa7a1e5dd8529c3c4e771e6d4cb3dba0431e3a41231ca5bdcf81568"), looks := false }, kinds := [], alts := [], laidByText := true, laidKinds := [.data, .pinned], laidTests := true, laidLooks := .later }
def FnExactReplyBytesCardSaid : Prop := Claim7.holds Tryd.pinned (.plain (OpenSpec.ofChange fnExactReplyBytesSpec)) fnExactReplyBytesCard

/-- THE TIED CARD OF 'laws.FnRequestAddress'. -/
def fnRequestAddressCard : Claim7 := { stood := { row := fnRequestAddressRow, standIns := [], harness := (true, "ddde8ea9baa7a1e5dd8529c3c4e771e6d4cb3dba0431e3a41231ca5bdcf81568"), looks := false }, kinds := [], alts := [], laidByText := true, laidKinds := [.data, .pinned], laidTests := true, laidLooks := .later }
def FnRequestAddressCardSaid : Prop := Claim7.holds Tryd.pinned (.plain (OpenSpec.ofChange fnRequestAddressSpec)) fnRequestAddressCard

/-- THE TIED CARD OF 'laws.FnExactRequestBytes'. -/
def fnExactRequestBytesCard : Claim7 := { stood := { row := fnExactRequestBytesRow, standIns := [], harness := (true, "ddde8ea9baa7a1e5dd8529c3c4e771e6d4cb3dba0431e3a41231ca5bdcf81568"), looks := false }, kinds := [], alts := [], laidByText := true, laidKinds := [.data, .pinned], laidTests := true, laidLooks := .later }
def FnExactRequestBytesCardSaid : Prop := Claim7.holds Tryd.pinned (.plain (OpenSpec.ofChange fnExactRequestBytesSpec)) fnExactRequestBytesCard

/-- THE TIED CARD OF 'laws.FnExactReplyFrom'. -/
def fnExactReplyFromCard : Claim7 := { stood := { row := fnExactReplyFromRow, standIns := [], harness := (true, "ddde8ea9baa7a1e5dd8529c3c4e771e6d4cb3dba0431e3a41231ca5bdcf81568"), looks := false }, kinds := [], alts := [], laidByText := true, laidKinds := [.data, .pinned], laidTests := true, laidLooks := .later }
def FnExactReplyFromCardSaid : Prop := Claim7.holds Tryd.pinned (.plain (OpenSpec.ofChange fnExactReplyFromSpec)) fnExactReplyFromCard

/-- THE TIED CARD OF 'laws.FnReplyCut'. -/
def fnReplyCutCard : Claim7 := { stood := { row := fnReplyCutRow, standIns := [], harness := (true, "ddde8ea9baa7a1e5dd8529c3c4e771e6d4cb3dba0431e3a41231ca5bdcf81568"), looks := false }, kinds := [], alts := [], laidByText := true, laidKinds := [.data, .pinned], laidTests := true, laidLooks := .later }
def FnReplyCutCardSaid : Prop := Claim7.holds Tryd.pinned (.plain (OpenSpec.ofChange fnReplyCutSpec)) fnReplyCutCard

/-- THE TIED CARD OF 'laws.FnReplyBytes'. -/
def fnReplyBytesCard : Claim7 := { stood := { row := fnReplyBytesRow, standIns := [], harness := (true, "ddde8ea9baa7a1e5dd8529c3c4e771e6d4cb3dba0431e3a41231ca5bdcf81568"), looks := false }, kinds := [], alts := [], laidByText := true, laidKinds := [.data, .pinned], laidTests := true, laidLooks := .later }
def FnReplyBytesCardSaid : Prop := Claim7.holds Tryd.pinned (.plain (OpenSpec.ofChange fnReplyBytesSpec)) fnReplyBytesCard

/-- THE TIED CARD OF 'laws.FnExactRequestFrom'. -/
def fnExactRequestFromCard : Claim7 := { stood := { row := fnExactRequestFromRow, standIns := [], harness := (true, "ddde8ea9baa7a1e5dd8529c3c4e771e6d4cb3dba0431e3a41231ca5bdcf81568"), looks := false }, kinds := [], alts := [], laidByText := true, laidKinds := [.data, .pinned], laidTests := true, laidLooks := .later }
def FnExactRequestFromCardSaid : Prop := Claim7.holds Tryd.pinned (.plain (OpenSpec.ofChange fnExactRequestFromSpec)) fnExactRequestFromCard

/-- THE TIED CARD OF 'laws.FnReplyRequest'. -/
def fnReplyRequestCard : Claim7 := { stood := { row := fnReplyRequestRow, standIns := [], harness := (true, "ddde8ea9baa7a1e5dd8529c3c4e771e6d4cb3dba0431e3a41231ca5bdcf81568"), looks := false }, kinds := [], alts := [], laidByText := true, laidKinds := [.data, .pinned], laidTests := true, laidLooks := .later }
def FnReplyRequestCardSaid : Prop := Claim7.holds Tryd.pinned (.plain (OpenSpec.ofChange fnReplyRequestSpec)) fnReplyRequestCard

/-- THE TIED CARD OF 'laws.FnRequestCut'. -/
def fnRequestCutCard : Claim7 := { stood := { row := fnRequestCutRow, standIns := [], harness := (true, "ddde8ea9baa7a1e5dd8529c3c4e771e6d4cb3dba0431e3a41231ca5bdcf81568"), looks := false }, kinds := [], alts := [], laidByText := true, laidKinds := [.data, .pinned], laidTests := true, laidLooks := .later }
def FnRequestCutCardSaid : Prop := Claim7.holds Tryd.pinned (.plain (OpenSpec.ofChange fnRequestCutSpec)) fnRequestCutCard

/-- THE TIED CARD OF 'laws.FnRequestVersion'. -/
def fnRequestVersionCard : Claim7 := { stood := { row := fnRequestVersionRow, standIns := [], harness := (true, "ddde8ea9baa7a1e5dd8529c3c4e771e6d4cb3dba0431e3a41231ca5bdcf81568"), looks := false }, kinds := [], alts := [], laidByText := true, laidKinds := [.data, .pinned], laidTests := true, laidLooks := .later }
def FnRequestVersionCardSaid : Prop := Claim7.holds Tryd.pinned (.plain (OpenSpec.ofChange fnRequestVersionSpec)) fnRequestVersionCard

/-- THE TIED CARD OF 'laws.FnRequest'. -/
def fnRequestCard : Claim7 := { stood := { row := fnRequestRow, standIns := [], harness := (true, "ddde8ea9baa7a1e5dd8529c3c4e771e6d4cb3dba0431e3a41231ca5bdcf81568"), looks := false }, kinds := [], alts := [], laidByText := true, laidKinds := [.data, .pinned], laidTests := true, laidLooks := .later }
def FnRequestCardSaid : Prop := Claim7.holds Tryd.pinned (.plain (OpenSpec.ofChange fnRequestSpec)) fnRequestCard

/-- THE SECOND FORM's CARD OF 'laws.FnPair'. -/
def fnPairUptoCard : Claim7 := { stood := { row := fnPairUptoRow, standIns := [], harness := (true, "ddde8ea9baa7a1e5dd8529c3c4e771e6d4cb3dba0431e3a41231ca5bdcf81568"), looks := false }, kinds := [], alts := [], laidByText := true, laidKinds := [.data, .pinned], laidTests := true, laidLooks := .later }
def FnPairUptoCardSaid : Prop := Claim7.holds Tryd.pinned (.plain (OpenSpec.upto fnPairSpec)) fnPairUptoCard

/-- THE SECOND FORM's CARD OF 'laws.FnExactReplyBytes'. -/
def fnExactReplyBytesUptoCard : Claim7 := { stood := { row := fnExactReplyBytesUptoRow, standIns := [], harness := (true, "ddde8ea9baa7a1e5dd8529c3c4e771e6d4cb3dba0431e3a41231ca5bdcf81568"), looks := false }, kinds := [], alts := [], laidByText := true, laidKinds := [.data, .pinned], laidTests := true, laidLooks := .later }
def FnExactReplyBytesUptoCardSaid : Prop := Claim7.holds Tryd.pinned (.plain (OpenSpec.upto fnExactReplyBytesSpec)) fnExactReplyBytesUptoCard

/-- THE SECOND FORM's CARD OF 'laws.FnRequestAddress'. -/
def fnRequestAddressUptoCard : Claim7 := { stood := { row := fnRequestAddressUptoRow, standIns := [], harness := (true, "ddde8ea9baa7a1e5dd8529c3c4e771e6d4cb3dba0431e3a41231ca5bdcf81568"), looks := false }, kinds := [], alts := [], laidByText := true, laidKinds := [.data, .pinned], laidTests := true, laidLooks := .later }
def FnRequestAddressUptoCardSaid : Prop := Claim7.holds Tryd.pinned (.plain (OpenSpec.upto fnRequestAddressSpec)) fnRequestAddressUptoCard

/-- THE SECOND FORM's CARD OF 'laws.FnExactRequestBytes'. -/
def fnExactRequestBytesUptoCard : Claim7 := { stood := { row := fnExactRequestBytesUptoRow, standIns := [], harness := (true, "ddde8ea9baa7a1e5dd8529c3c4e771e6d4cb3dba0431e3a41231ca5bdcf81568"), looks := false }, kinds := [], alts := [], laidByText := true, laidKinds := [.data, .pinned], laidTests := true, laidLooks := .later }
def FnExactRequestBytesUptoCardSaid : Prop := Claim7.holds Tryd.pinned (.plain (OpenSpec.upto fnExactRequestBytesSpec)) fnExactRequestBytesUptoCard

/-- THE SECOND FORM's CARD OF 'laws.FnExactReplyFrom'. -/
def fnExactReplyFromUptoCard : Claim7 := { stood := { row := fnExactReplyFromUptoRow, standIns := [], harness := (true, "ddde8ea9baa7a1e5dd8529c3c4e771e6d4cb3dba0431e3a41231ca5bdcf81568"), looks := false }, kinds := [], alts := [], laidByText := true, laidKinds := [.data, .pinned], laidTests := true, laidLooks := .later }
def FnExactReplyFromUptoCardSaid : Prop := Claim7.holds Tryd.pinned (.plain (OpenSpec.upto fnExactReplyFromSpec)) fnExactReplyFromUptoCard

/-- THE SECOND FORM's CARD OF 'laws.FnReplyCut'. -/
def fnReplyCutUptoCard : Claim7 := { stood := { row := fnReplyCutUptoRow, standIns := [], harness := (true, "ddde8ea9baa7a1e5dd8529c3c4e771e6d4cb3dba0431e3a41231ca5bdcf81568"), looks := false }, kinds := [], alts := [], laidByText := true, laidKinds := [.data, .pinned], laidTests := true, laidLooks := .later }
def FnReplyCutUptoCardSaid : Prop := Claim7.holds Tryd.pinned (.plain (OpenSpec.upto fnReplyCutSpec)) fnReplyCutUptoCard

/-- THE SECOND FORM's CARD OF 'laws.FnReplyBytes'. -/
def fnReplyBytesUptoCard : Claim7 := { stood := { row := fnReplyBytesUptoRow, standIns := [], harness := (true, "ddde8ea9baa7a1e5dd8529c3c4e771e6d4cb3dba0431e3a41231ca5bdcf81568"), looks := false }, kinds := [], alts := [], laidByText := true, laidKinds := [.data, .pinned], laidTests := true, laidLooks := .later }
def FnReplyBytesUptoCardSaid : Prop := Claim7.holds Tryd.pinned (.plain (OpenSpec.upto fnReplyBytesSpec)) fnReplyBytesUptoCard

/-- THE SECOND FORM's CARD OF 'laws.FnExactRequestFrom'. -/
def fnExactRequestFromUptoCard : Claim7 := { stood := { row := fnExactRequestFromUptoRow, standIns := [], harness := (true, "ddde8ea9baa7a1e5dd8529c3c4e771e6d4cb3dba0431e3a41231ca5bdcf81568"), looks := false }, kinds := [], alts := [], laidByText := true, laidKinds := [.data, .pinned], laidTests := true, laidLooks := .later }
def FnExactRequestFromUptoCardSaid : Prop := Claim7.holds Tryd.pinned (.plain (OpenSpec.upto fnExactRequestFromSpec)) fnExactRequestFromUptoCard

/-- THE SECOND FORM's CARD OF 'laws.FnReplyRequest'. -/
def fnReplyRequestUptoCard : Claim7 := { stood := { row := fnReplyRequestUptoRow, standIns := [], harness := (true, "ddde8ea9baa7a1e5dd8529c3c4e771e6d4cb3dba0431e3a41231ca5bdcf81568"), looks := false }, kinds := [], alts := [], laidByText := true, laidKinds := [.data, .pinned], laidTests := true, laidLooks := .later }
def FnReplyRequestUptoCardSaid : Prop := Claim7.holds Tryd.pinned (.plain (OpenSpec.upto fnReplyRequestSpec)) fnReplyRequestUptoCard

/-- THE SECOND FORM's CARD OF 'laws.FnRequestCut'. -/
def fnRequestCutUptoCard : Claim7 := { stood := { row := fnRequestCutUptoRow, standIns := [], harness := (true, "ddde8ea9baa7a1e5dd8529c3c4e771e6d4cb3dba0431e3a41231ca5bdcf81568"), looks := false }, kinds := [], alts := [], laidByText := true, laidKinds := [.data, .pinned], laidTests := true, laidLooks := .later }
def FnRequestCutUptoCardSaid : Prop := Claim7.holds Tryd.pinned (.plain (OpenSpec.upto fnRequestCutSpec)) fnRequestCutUptoCard

/-- THE SECOND FORM's CARD OF 'laws.FnRequestVersion'. -/
def fnRequestVersionUptoCard : Claim7 := { stood := { row := fnRequestVersionUptoRow, standIns := [], harness := (true, "ddde8ea9baa7a1e5dd8529c3c4e771e6d4cb3dba0431e3a41231ca5bdcf81568"), looks := false }, kinds := [], alts := [], laidByText := true, laidKinds := [.data, .pinned], laidTests := true, laidLooks := .later }
def FnRequestVersionUptoCardSaid : Prop := Claim7.holds Tryd.pinned (.plain (OpenSpec.upto fnRequestVersionSpec)) fnRequestVersionUptoCard

/-- THE SECOND FORM's CARD OF 'laws.FnRequest'. -/
def fnRequestUptoCard : Claim7 := { stood := { row := fnRequestUptoRow, standIns := [], harness := (true, "ddde8ea9baa7a1e5dd8529c3c4e771e6d4cb3dba0431e3a41231ca5bdcf81568"), looks := false }, kinds := [], alts := [], laidByText := true, laidKinds := [.data, .pinned], laidTests := true, laidLooks := .later }
def FnRequestUptoCardSaid : Prop := Claim7.holds Tryd.pinned (.plain (OpenSpec.upto fnRequestSpec)) fnRequestUptoCard
end Rows
end Go.Proofs.YtahlgdehfjjoeaaDoor

/-
  DERIVED. GIVEN WITH THE SEED: THE CARDS: each row of YtolbkdcnmkmncaaDoorRows.lean that lists a variable, with what it lists TIED to the program's text (the seventh form; the later family's looks); each row that meets fmt, with fmt's text TOLD by the authors' own Lean function (tested against real Go, not proved from fmt's source: count such statements apart). THE CARD IS WHAT COUNTS. Prove the row's statement (the work); the ties are given (YtolbkdcnmkmncaaDoorTie.lean); close each card by the builder's one call (the guide's Derived/Test/ToyasCard.lean, 'card_holds'). Laid BY PROGRAM, IN A SANDBOX (cutbox-door.mjs). By AI agents, Wed Nov 11 2026. No macro, syntax, notation, axiom, sorry.
-/
import Derived.Test.YtolbkdcnmkmncaaDoorRows
import GoSem.ClaimSeven
namespace Go.Proofs.YtolbkdcnmkmncaaDoor
namespace Rows

/-- THE TIED CARD OF 'laws.FnReplyFrom'. -/
def fnReplyFromCard : Claim7 := { stood := { row := fnReplyFromRow, standIns := [], harness := (true, "71cb2da78bc50782ad828c61a4547b3a4c8bb6d1fee47442386dd17ce480b237"), looks := false }, kinds := [], alts := [], laidByText := true, laidKinds := [.data, .pinned], laidTests := true, laidLooks := .later }
def FnReplyFromCardSaid : Prop := Claim7.holds Tryd.pinned (.plain (OpenSpec.ofChange fnReplyFromSpec)) fnReplyFromCard

/-- THE TIED CARD OF 'laws.FnRequestFrom'. -/
def fnRequestFromCard : Claim7 := { stood := { row := fnRequestFromRow, standIns := [], harness := (true, "71cb2da78bc50782ad828c61a4547b3a4c8bb6d1fee47442386dd17ce480b237"), looks := false }, kinds := [], alts := [], laidByText := true, laidKinds := [.data, .pinned], laidTests := true, laidLooks := .later }
def FnRequestFromCardSaid : Prop := Claim7.holds Tryd.pinned (.plain (OpenSpec.ofChange fnRequestFromSpec)) fnRequestFromCard

/-- THE TIED CARD OF 'laws.FnPacketSize'. -/
def fnPacketSizeCard : Claim7 := { stood := { row := fnPacketSizeRow, standIns := [], harness := (true, "71cb2da78bc50782ad828c61a4547b3a4c8bb6d1fee47442386dd17ce480b237"), looks := false }, kinds := [], alts := [], laidByText := true, laidKinds := [.data, .pinned], laidTests := true, laidLooks := .later }
def FnPacketSizeCardSaid : Prop := Claim7.holds Tryd.pinned (.plain (OpenSpec.ofChange fnPacketSizeSpec)) fnPacketSizeCard

/-- THE TIED CARD OF 'laws.FnExactPacketBytes'. -/
def fnExactPacketBytesCard : Claim7 := { stood := { row := fnExactPacketBytesRow, standIns := [], harness := (true, "71cb2da78bc50782ad828c61a4547b3a4c8bb6d1fee47442386dd17ce480b237"), looks := false }, kinds := [], alts := [], laidByText := true, laidKinds := [.data, .pinned], laidTests := true, laidLooks := .later }
def FnExactPacketBytesCardSaid : Prop := Claim7.holds Tryd.pinned (.plain (OpenSpec.ofChange fnExactPacketBytesSpec)) fnExactPacketBytesCard

/-- THE TIED CARD OF 'laws.FnExactPacketFrom'. -/
def fnExactPacketFromCard : Claim7 := { stood := { row := fnExactPacketFromRow, standIns := [], harness := (true, "71cb2da78bc50782ad828c61a4547b3a4c8bb6d1fee47442386dd17ce480b237"), looks := false }, kinds := [], alts := [], laidByText := true, laidKinds := [.data, .pinned], laidTests := true, laidLooks := .later }
def FnExactPacketFromCardSaid : Prop := Claim7.holds Tryd.pinned (.plain (OpenSpec.ofChange fnExactPacketFromSpec)) fnExactPacketFromCard

/-- THE TIED CARD OF 'laws.FnPacket'. -/
def fnPacketCard : Claim7 := { stood := { row := fnPacketRow, standIns := [], harness := (true, "71cb2da78bc50782ad828c61a4547b3a4c8bb6d1fee47442386dd17ce480b237"), looks := false }, kinds := [], alts := [], laidByText := true, laidKinds := [.data, .pinned], laidTests := true, laidLooks := .later }
def FnPacketCardSaid : Prop := Claim7.holds Tryd.pinned (.plain (OpenSpec.ofChange fnPacketSpec)) fnPacketCard

/-- THE TIED CARD OF 'laws.FnPacketFrom'. -/
def fnPacketFromCard : Claim7 := { stood := { row := fnPacketFromRow, standIns := [], harness := (true, "71cb2da78bc50782ad828c61a4547b3a4c8bb6d1fee47442386dd17ce480b237"), looks := false }, kinds := [], alts := [], laidByText := true, laidKinds := [.data, .pinned], laidTests := true, laidLooks := .later }
def FnPacketFromCardSaid : Prop := Claim7.holds Tryd.pinned (.plain (OpenSpec.ofChange fnPacketFromSpec)) fnPacketFromCard

/-- THE TIED CARD OF 'laws.FnCutMark'. -/
def fnCutMarkCard : Claim7 := { stood := { row := fnCutMarkRow, standIns := [], harness := (true, "71cb2da78bc50782ad828c61a4547b3a4c8bb6d1fee47442386dd17ce480b237"), looks := false }, kinds := [], alts := [], laidByText := true, laidKinds := [.data, .pinned], laidTests := true, laidLooks := .later }
def FnCutMarkCardSaid : Prop := Claim7.holds Tryd.pinned (.plain (OpenSpec.ofChange fnCutMarkSpec)) fnCutMarkCard

/-- THE TIED CARD OF 'laws.FnCutOne'. -/
def fnCutOneCard : Claim7 := { stood := { row := fnCutOneRow, standIns := [], harness := (true, "71cb2da78bc50782ad828c61a4547b3a4c8bb6d1fee47442386dd17ce480b237"), looks := false }, kinds := [], alts := [], laidByText := true, laidKinds := [.data, .pinned], laidTests := true, laidLooks := .later }
def FnCutOneCardSaid : Prop := Claim7.holds Tryd.pinned (.plain (OpenSpec.ofChange fnCutOneSpec)) fnCutOneCard

/-- THE TIED CARD OF 'laws.FnCutSize'. -/
def fnCutSizeCard : Claim7 := { stood := { row := fnCutSizeRow, standIns := [], harness := (true, "71cb2da78bc50782ad828c61a4547b3a4c8bb6d1fee47442386dd17ce480b237"), looks := false }, kinds := [], alts := [], laidByText := true, laidKinds := [.data, .pinned], laidTests := true, laidLooks := .later }
def FnCutSizeCardSaid : Prop := Claim7.holds Tryd.pinned (.plain (OpenSpec.ofChange fnCutSizeSpec)) fnCutSizeCard

/-- THE TIED CARD OF 'laws.FnCutBytes'. -/
def fnCutBytesCard : Claim7 := { stood := { row := fnCutBytesRow, standIns := [], harness := (true, "71cb2da78bc50782ad828c61a4547b3a4c8bb6d1fee47442386dd17ce480b237"), looks := false }, kinds := [], alts := [], laidByText := true, laidKinds := [.data, .pinned], laidTests := true, laidLooks := .later }
def FnCutBytesCardSaid : Prop := Claim7.holds Tryd.pinned (.plain (OpenSpec.ofChange fnCutBytesSpec)) fnCutBytesCard

/-- THE TIED CARD OF 'laws.FnExactPacketCut'. -/
def fnExactPacketCutCard : Claim7 := { stood := { row := fnExactPacketCutRow, standIns := [], harness := (true, "71cb2da78bc50782ad828c61a4547b3a4c8bb6d1fee47442386dd17ce480b237"), looks := false }, kinds := [], alts := [], laidByText := true, laidKinds := [.data, .pinned], laidTests := true, laidLooks := .later }
def FnExactPacketCutCardSaid : Prop := Claim7.holds Tryd.pinned (.plain (OpenSpec.ofChange fnExactPacketCutSpec)) fnExactPacketCutCard

/-- THE SECOND FORM's CARD OF 'laws.FnReplyFrom'. -/
def fnReplyFromUptoCard : Claim7 := { stood := { row := fnReplyFromUptoRow, standIns := [], harness := (true, "71cb2da78bc50782ad828c61a4547b3a4c8bb6d1fee47442386dd17ce480b237"), looks := false }, kinds := [], alts := [], laidByText := true, laidKinds := [.data, .pinned], laidTests := true, laidLooks := .later }
def FnReplyFromUptoCardSaid : Prop := Claim7.holds Tryd.pinned (.plain (OpenSpec.upto fnReplyFromSpec)) fnReplyFromUptoCard

/-- THE SECOND FORM's CARD OF 'laws.FnRequestFrom'. -/
def fnRequestFromUptoCard : Claim7 := { stood := { row := fnRequestFromUptoRow, standIns := [], harness := (true, "71cb2da78bc50782ad828c61a4547b3a4c8bb6d1fee47442386dd17ce480b237"), looks := false }, kinds := [], alts := [], laidByText := true, laidKinds := [.data, .pinned], laidTests := true, laidLooks := .later }
def FnRequestFromUptoCardSaid : Prop := Claim7.holds Tryd.pinned (.plain (OpenSpec.upto fnRequestFromSpec)) fnRequestFromUptoCard

/-- THE SECOND FORM's CARD OF 'laws.FnPacketSize'. -/
def fnPacketSizeUptoCard : Claim7 := { stood := { row := fnPacketSizeUptoRow, standIns := [], harness := (true, "71cb2da78bc50782ad828c61a4547b3a4c8bb6d1fee47442386dd17ce480b237"), looks := false }, kinds := [], alts := [], laidByText := true, laidKinds := [.data, .pinned], laidTests := true, laidLooks := .later }
def FnPacketSizeUptoCardSaid : Prop := Claim7.holds Tryd.pinned (.plain (OpenSpec.upto fnPacketSizeSpec)) fnPacketSizeUptoCard

/-- THE SECOND FORM's CARD OF 'laws.FnExactPacketBytes'. -/
def fnExactPacketBytesUptoCard : Claim7 := { stood := { row := fnExactPacketBytesUptoRow, standIns := [], harness := (true, "71cb2da78bc50782ad828c61a4547b3a4c8bb6d1fee47442386dd17ce480b237"), looks := false }, kinds := [], alts := [], laidByText := true, laidKinds := [.data, .pinned], laidTests := true, laidLooks := .later }
def FnExactPacketBytesUptoCardSaid : Prop := Claim7.holds Tryd.pinned (.plain (OpenSpec.upto fnExactPacketBytesSpec)) fnExactPacketBytesUptoCard

/-- THE SECOND FORM's CARD OF 'laws.FnExactPacketFrom'. -/
def fnExactPacketFromUptoCard : Claim7 := { stood := { row := fnExactPacketFromUptoRow, standIns := [], harness := (true, "71cb2da78bc50782ad828c61a4547b3a4c8bb6d1fee47442386dd17ce480b237"), looks := false }, kinds := [], alts := [], laidByText := true, laidKinds := [.data, .pinned], laidTests := true, laidLooks := .later }
def FnExactPacketFromUptoCardSaid : Prop := Claim7.holds Tryd.pinned (.plain (OpenSpec.upto fnExactPacketFromSpec)) fnExactPacketFromUptoCard

/-- THE SECOND FORM's CARD OF 'laws.FnPacket'. -/
def fnPacketUptoCard : Claim7 := { stood := { row := fnPacketUptoRow, standIns := [], harness := (true, "71cb2da78bc50782ad828c61a4547b3a4c8bb6d1fee47442386dd17ce480b237"), looks := false }, kinds := [], alts := [], laidByText := true, laidKinds := [.data, .pinned], laidTests := true, laidLooks := .later }
def FnPacketUptoCardSaid : Prop := Claim7.holds Tryd.pinned (.plain (OpenSpec.upto fnPacketSpec)) fnPacketUptoCard

/-- THE SECOND FORM's CARD OF 'laws.FnPacketFrom'. -/
def fnPacketFromUptoCard : Claim7 := { stood := { row := fnPacketFromUptoRow, standIns := [], harness := (true, "71cb2da78bc50782ad828c61a4547b3a4c8bb6d1fee47442386dd17ce480b237"), looks := false }, kinds := [], alts := [], laidByText := true, laidKinds := [.data, .pinned], laidTests := true, laidLooks := .later }
def FnPacketFromUptoCardSaid : Prop := Claim7.holds Tryd.pinned (.plain (OpenSpec.upto fnPacketFromSpec)) fnPacketFromUptoCard

/-- THE SECOND FORM's CARD OF 'laws.FnCutMark'. -/
def fnCutMarkUptoCard : Claim7 := { stood := { row := fnCutMarkUptoRow, standIns := [], harness := (true, "71cb2da78bc50782ad828c61a4547b3a4c8bb6d1fee47442386dd17ce480b237"), looks := false }, kinds := [], alts := [], laidByText := true, laidKinds := [.data, .pinned], laidTests := true, laidLooks := .later }
def FnCutMarkUptoCardSaid : Prop := Claim7.holds Tryd.pinned (.plain (OpenSpec.upto fnCutMarkSpec)) fnCutMarkUptoCard

/-- THE SECOND FORM's CARD OF 'laws.FnCutOne'. -/
def fnCutOneUptoCard : Claim7 := { stood := { row := fnCutOneUptoRow, standIns := [], harness := (true, "71cb2da78bc50782ad828c61a4547b3a4c8bb6d1fee47442386dd17ce480b237"), looks := false }, kinds := [], alts := [], laidByText := true, laidKinds := [.data, .pinned], laidTests := true, laidLooks := .later }
def FnCutOneUptoCardSaid : Prop := Claim7.holds Tryd.pinned (.plain (OpenSpec.upto fnCutOneSpec)) fnCutOneUptoCard

/-- THE SECOND FORM's CARD OF 'laws.FnCutSize'. -/
def fnCutSizeUptoCard : Claim7 := { stood := { row := fnCutSizeUptoRow, standIns := [], harness := (true, "71cb2da78bc50782ad828c61a4547b3a4c8bb6d1fee47442386dd17ce480b237"), looks := false }, kinds := [], alts := [], laidByText := true, laidKinds := [.data, .pinned], laidTests := true, laidLooks := .later }
def FnCutSizeUptoCardSaid : Prop := Claim7.holds Tryd.pinned (.plain (OpenSpec.upto fnCutSizeSpec)) fnCutSizeUptoCard

/-- THE SECOND FORM's CARD OF 'laws.FnCutBytes'. -/
def fnCutBytesUptoCard : Claim7 := { stood := { row := fnCutBytesUptoRow, standIns := [], harness := (true, "71cb2da78bc50782ad828c61a4547b3a4c8bb6d1fee47442386dd17ce480b237"), looks := false }, kinds := [], alts := [], laidByText := true, laidKinds := [.data, .pinned], laidTests := true, laidLooks := .later }
def FnCutBytesUptoCardSaid : Prop := Claim7.holds Tryd.pinned (.plain (OpenSpec.upto fnCutBytesSpec)) fnCutBytesUptoCard

/-- THE SECOND FORM's CARD OF 'laws.FnExactPacketCut'. -/
def fnExactPacketCutUptoCard : Claim7 := { stood := { row := fnExactPacketCutUptoRow, standIns := [], harness := (true, "71cb2da78bc50782ad828c61a4547b3a4c8bb6d1fee47442386dd17ce480b237"), looks := false }, kinds := [], alts := [], laidByText := true, laidKinds := [.data, .pinned], laidTests := true, laidLooks := .later }
def FnExactPacketCutUptoCardSaid : Prop := Claim7.holds Tryd.pinned (.plain (OpenSpec.upto fnExactPacketCutSpec)) fnExactPacketCutUptoCard
end Rows
end Go.Proofs.YtolbkdcnmkmncaaDoor

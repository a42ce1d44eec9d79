/-
  DERIVED. GIVEN WITH THE SEED: THE CARDS: each row of YtpcflkdeoafpeaaDoorRows.lean that lists a variable, with what it lists TIED to the program's text (the seventh form; the later family's looks); each row that meets fmt, with fmt's text TOLD by the authors' own Lean function (tested against real Go, not proved from fmt's source: count such statements apart). THE CARD IS WHAT COUNTS. Prove the row's statement (the work); the ties are given (YtpcflkdeoafpeaaDoorTie.lean); close each card by the builder's one call (the guide's Derived/Test/ToyasCard.lean, 'card_holds'). Laid BY PROGRAM, IN A SANDBOX (cutbox-door.mjs). By AI agents, Wed Nov 11 2026. No macro, syntax, notation, axiom, sorry.
-/
import Derived.Test.YtpcflkdeoafpeaaDoorRows
import GoSem.ClaimSeven
namespace Go.Proofs.YtpcflkdeoafpeaaDoor
namespace Rows

/-- THE TIED CARD OF 'laws.FnJoinAddress'. -/
def fnJoinAddressCard : Claim7 := { stood := { row := fnJoinAddressRow, standIns := [], harness := (true, "3a864b4685e6cea88bebef4558091b545bd973ee43f7e9a4cfd9b8a469ac3e59"), looks := false }, kinds := [], alts := [], laidByText := true, laidKinds := [.data, .data, .data, .data, .pinned], laidTests := true, laidLooks := .later }
def FnJoinAddressCardSaid : Prop := Claim7.holds Tryd.pinned (.plain (OpenSpec.ofChange fnJoinAddressSpec)) fnJoinAddressCard

/-- THE TIED CARD OF 'laws.FnExactPacketJoin'. -/
def fnExactPacketJoinCard : Claim7 := { stood := { row := fnExactPacketJoinRow, standIns := [], harness := (true, "3a864b4685e6cea88bebef4558091b545bd973ee43f7e9a4cfd9b8a469ac3e59"), looks := false }, kinds := [], alts := [], laidByText := true, laidKinds := [.data, .data, .data, .data, .pinned], laidTests := true, laidLooks := .later }
def FnExactPacketJoinCardSaid : Prop := Claim7.holds Tryd.pinned (.plain (OpenSpec.ofChange fnExactPacketJoinSpec)) fnExactPacketJoinCard

/-- THE SECOND FORM's CARD OF 'laws.FnJoinAddress'. -/
def fnJoinAddressUptoCard : Claim7 := { stood := { row := fnJoinAddressUptoRow, standIns := [], harness := (true, "3a864b4685e6cea88bebef4558091b545bd973ee43f7e9a4cfd9b8a469ac3e59"), looks := false }, kinds := [], alts := [], laidByText := true, laidKinds := [.data, .data, .data, .data, .pinned], laidTests := true, laidLooks := .later }
def FnJoinAddressUptoCardSaid : Prop := Claim7.holds Tryd.pinned (.plain (OpenSpec.upto fnJoinAddressSpec)) fnJoinAddressUptoCard

/-- THE SECOND FORM's CARD OF 'laws.FnExactPacketJoin'. -/
def fnExactPacketJoinUptoCard : Claim7 := { stood := { row := fnExactPacketJoinUptoRow, standIns := [], harness := (true, "3a864b4685e6cea88bebef4558091b545bd973ee43f7e9a4cfd9b8a469ac3e59"), looks := false }, kinds := [], alts := [], laidByText := true, laidKinds := [.data, .data, .data, .data, .pinned], laidTests := true, laidLooks := .later }
def FnExactPacketJoinUptoCardSaid : Prop := Claim7.holds Tryd.pinned (.plain (OpenSpec.upto fnExactPacketJoinSpec)) fnExactPacketJoinUptoCard
end Rows
end Go.Proofs.YtpcflkdeoafpeaaDoor

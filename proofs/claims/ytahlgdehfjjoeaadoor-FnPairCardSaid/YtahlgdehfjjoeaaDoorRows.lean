/-
  NARROWER THAN 'FOR EVERY INPUT', by the rows' own cells (each row's printed sentence says how): FnPair: laid · FnExactReplyBytes: laid · FnRequestAddress: laid · FnExactRequestBytes: laid · FnExactReplyFrom: laid · FnReplyCut: laid · FnReplyBytes: laid · FnExactRequestFrom: laid · FnReplyRequest: laid · FnRequestCut: laid · FnRequestVersion: laid · FnRequest: laid.
  DERIVED. THE GIVEN ROWS OF THIS SEAT. 12 by the template 'for every input the law returns true; each argument reads behind the call as it read before'; 0 by the template 'total and deterministic' (their statements: YtahlgdehfjjoeaaDoorTotals.lean).
  GIVEN WITH THE SEED: the statements are not yours to turn. If you find one false, say at which input.
  Laid BY PROGRAM, IN A SANDBOX (cutbox-rows.mjs): the forced cells as the released guide's own fill.sh prints them over the translation 69757e3d1cc1dbd1… (all of the seat's roots in one cut). By AI agents, Wed Nov 11 2026. No macro, syntax, notation, axiom, sorry.
-/
import Derived.Test.YtahlgdehfjjoeaaDoorChecked
import GoSem.PinnedTables
import GoSem.Claim
import GoSem.ClaimJoined
import GoSem.ClaimMapViews
import Derived.JoinedTies
import Derived.KernelRfl
namespace Go.Proofs.YtahlgdehfjjoeaaDoor
/- THE CELL 'sum', in the pinned program and in every row, IS THE sha256 OF THE DUMP (.gsa) THAT YtahlgdehfjjoeaaDoorProg.lean LOADS. Nothing in Lean hashes anything: it is a label: what it is worth is what the hold of that sum in a sandbox is worth. -/
noncomputable def Tryd.pinned : Pinned := { name := "ytahlgdehfjjoeaadoor", sum := "69757e3d1cc1dbd1bdf51f317d2c8e01c2096d5886b87c4bda1dd525b99fe738", checked := Tryd.checked }
namespace Rows
def none {H : Type} : Left H := { results := [], args := [] }

/- WHAT THE LISTED PACKAGE-LEVEL VARIABLES READ AS WHEN THE CALL BEGINS. Each datum BY PROGRAM (the guide's laid-datum.mjs) off the statement by which the dump's own 'gosem.cut.vars' lays the variable. In a bare row this is a premise. The card (YtahlgdehfjjoeaaDoorCards.lean) ties it to the program's text. -/
def laid_unicode_utf8_acceptRanges {H : Type} : DataW H := .agg [.agg [.lit (.int .u8 128), .lit (.int .u8 191)], .agg [.lit (.int .u8 160), .lit (.int .u8 191)], .agg [.lit (.int .u8 128), .lit (.int .u8 159)], .agg [.lit (.int .u8 144), .lit (.int .u8 191)], .agg [.lit (.int .u8 128), .lit (.int .u8 143)], .agg [.lit (.int .u8 0), .lit (.int .u8 0)], .agg [.lit (.int .u8 0), .lit (.int .u8 0)], .agg [.lit (.int .u8 0), .lit (.int .u8 0)], .agg [.lit (.int .u8 0), .lit (.int .u8 0)], .agg [.lit (.int .u8 0), .lit (.int .u8 0)], .agg [.lit (.int .u8 0), .lit (.int .u8 0)], .agg [.lit (.int .u8 0), .lit (.int .u8 0)], .agg [.lit (.int .u8 0), .lit (.int .u8 0)], .agg [.lit (.int .u8 0), .lit (.int .u8 0)], .agg [.lit (.int .u8 0), .lit (.int .u8 0)], .agg [.lit (.int .u8 0), .lit (.int .u8 0)]]
/-- One of Go's own tables, pinned by name: the form's constant. -/
def laid_unicode_utf8_first : DataW Unit := Go.Pinned.utf8First

/-- 'laws.FnPair': WHATEVER THE INPUT: true; the input reads as it did. -/
def fnPairSpec : ChangeSpec := { name := "fnPair", fn := fun _ => fun
  | [d] => { results := [.lit (.bool true)], args := [d] }
  | _ => none }
def fnPairRow : OpenClaim := { program := "ytahlgdehfjjoeaadoor", sum := "69757e3d1cc1dbd1bdf51f317d2c8e01c2096d5886b87c4bda1dd525b99fe738", func := "loop.example/proxyframes/laws.FnPair", spec := "fnPair", inPlace := ["internal/bytealg.CountString", "internal/bytealg.IndexByteString", "internal/bytealg.IndexString"], unfollowed := true, recurses := true, named := ["unicode/utf8.first", "unicode/utf8.acceptRanges", "internal/bytealg.MaxLen"], apart := false, laid := [("unicode/utf8.acceptRanges", laid_unicode_utf8_acceptRanges), ("unicode/utf8.first", laid_unicode_utf8_first)] }
def FnPairSaid : Prop := fnPairRow.holds Tryd.pinned (OpenSpec.ofChange fnPairSpec)

/-- ITS FALSE NEIGHBOUR: 'it returns false'. Refute it at one input. -/
def fnPairWrong : ChangeSpec := { name := "fnPair", fn := fun _ => fun
  | [d] => { results := [.lit (.bool false)], args := [d] }
  | _ => none }
def FnPairWrongFalsely : Prop := fnPairRow.holds Tryd.pinned (OpenSpec.ofChange fnPairWrong)

/-- 'laws.FnExactReplyBytes': WHATEVER THE INPUT: true; the input reads as it did. -/
def fnExactReplyBytesSpec : ChangeSpec := { name := "fnExactReplyBytes", fn := fun _ => fun
  | [d1, d2] => { results := [.lit (.bool true)], args := [d1, d2] }
  | _ => none }
def fnExactReplyBytesRow : OpenClaim := { program := "ytahlgdehfjjoeaadoor", sum := "69757e3d1cc1dbd1bdf51f317d2c8e01c2096d5886b87c4bda1dd525b99fe738", func := "loop.example/proxyframes/laws.FnExactReplyBytes", spec := "fnExactReplyBytes", inPlace := ["internal/bytealg.CountString", "internal/bytealg.IndexByteString", "internal/bytealg.IndexString"], unfollowed := true, recurses := true, named := ["unicode/utf8.first", "unicode/utf8.acceptRanges", "internal/bytealg.MaxLen"], apart := false, laid := [("unicode/utf8.acceptRanges", laid_unicode_utf8_acceptRanges), ("unicode/utf8.first", laid_unicode_utf8_first)] }
def FnExactReplyBytesSaid : Prop := fnExactReplyBytesRow.holds Tryd.pinned (OpenSpec.ofChange fnExactReplyBytesSpec)

/-- ITS FALSE NEIGHBOUR: 'it returns false'. Refute it at one input. -/
def fnExactReplyBytesWrong : ChangeSpec := { name := "fnExactReplyBytes", fn := fun _ => fun
  | [d1, d2] => { results := [.lit (.bool false)], args := [d1, d2] }
  | _ => none }
def FnExactReplyBytesWrongFalsely : Prop := fnExactReplyBytesRow.holds Tryd.pinned (OpenSpec.ofChange fnExactReplyBytesWrong)

/-- 'laws.FnRequestAddress': WHATEVER THE INPUT: true; the input reads as it did. -/
def fnRequestAddressSpec : ChangeSpec := { name := "fnRequestAddress", fn := fun _ => fun
  | [d] => { results := [.lit (.bool true)], args := [d] }
  | _ => none }
def fnRequestAddressRow : OpenClaim := { program := "ytahlgdehfjjoeaadoor", sum := "69757e3d1cc1dbd1bdf51f317d2c8e01c2096d5886b87c4bda1dd525b99fe738", func := "loop.example/proxyframes/laws.FnRequestAddress", spec := "fnRequestAddress", inPlace := ["internal/bytealg.CountString", "internal/bytealg.IndexByteString", "internal/bytealg.IndexString"], unfollowed := true, recurses := true, named := ["unicode/utf8.first", "unicode/utf8.acceptRanges", "internal/bytealg.MaxLen"], apart := false, laid := [("unicode/utf8.acceptRanges", laid_unicode_utf8_acceptRanges), ("unicode/utf8.first", laid_unicode_utf8_first)] }
def FnRequestAddressSaid : Prop := fnRequestAddressRow.holds Tryd.pinned (OpenSpec.ofChange fnRequestAddressSpec)

/-- ITS FALSE NEIGHBOUR: 'it returns false'. Refute it at one input. -/
def fnRequestAddressWrong : ChangeSpec := { name := "fnRequestAddress", fn := fun _ => fun
  | [d] => { results := [.lit (.bool false)], args := [d] }
  | _ => none }
def FnRequestAddressWrongFalsely : Prop := fnRequestAddressRow.holds Tryd.pinned (OpenSpec.ofChange fnRequestAddressWrong)

/-- 'laws.FnExactRequestBytes': WHATEVER THE INPUT: true; the input reads as it did. -/
def fnExactRequestBytesSpec : ChangeSpec := { name := "fnExactRequestBytes", fn := fun _ => fun
  | [d] => { results := [.lit (.bool true)], args := [d] }
  | _ => none }
def fnExactRequestBytesRow : OpenClaim := { program := "ytahlgdehfjjoeaadoor", sum := "69757e3d1cc1dbd1bdf51f317d2c8e01c2096d5886b87c4bda1dd525b99fe738", func := "loop.example/proxyframes/laws.FnExactRequestBytes", spec := "fnExactRequestBytes", inPlace := ["internal/bytealg.CountString", "internal/bytealg.IndexByteString", "internal/bytealg.IndexString"], unfollowed := true, recurses := true, named := ["unicode/utf8.first", "unicode/utf8.acceptRanges", "internal/bytealg.MaxLen"], apart := false, laid := [("unicode/utf8.acceptRanges", laid_unicode_utf8_acceptRanges), ("unicode/utf8.first", laid_unicode_utf8_first)] }
def FnExactRequestBytesSaid : Prop := fnExactRequestBytesRow.holds Tryd.pinned (OpenSpec.ofChange fnExactRequestBytesSpec)

/-- ITS FALSE NEIGHBOUR: 'it returns false'. Refute it at one input. -/
def fnExactRequestBytesWrong : ChangeSpec := { name := "fnExactRequestBytes", fn := fun _ => fun
  | [d] => { results := [.lit (.bool false)], args := [d] }
  | _ => none }
def FnExactRequestBytesWrongFalsely : Prop := fnExactRequestBytesRow.holds Tryd.pinned (OpenSpec.ofChange fnExactRequestBytesWrong)

/-- 'laws.FnExactReplyFrom': WHATEVER THE INPUT: true; the input reads as it did. -/
def fnExactReplyFromSpec : ChangeSpec := { name := "fnExactReplyFrom", fn := fun _ => fun
  | [d] => { results := [.lit (.bool true)], args := [d] }
  | _ => none }
def fnExactReplyFromRow : OpenClaim := { program := "ytahlgdehfjjoeaadoor", sum := "69757e3d1cc1dbd1bdf51f317d2c8e01c2096d5886b87c4bda1dd525b99fe738", func := "loop.example/proxyframes/laws.FnExactReplyFrom", spec := "fnExactReplyFrom", inPlace := ["internal/bytealg.CountString", "internal/bytealg.IndexByteString", "internal/bytealg.IndexString"], unfollowed := true, recurses := true, named := ["unicode/utf8.first", "unicode/utf8.acceptRanges", "internal/bytealg.MaxLen"], apart := false, laid := [("unicode/utf8.acceptRanges", laid_unicode_utf8_acceptRanges), ("unicode/utf8.first", laid_unicode_utf8_first)] }
def FnExactReplyFromSaid : Prop := fnExactReplyFromRow.holds Tryd.pinned (OpenSpec.ofChange fnExactReplyFromSpec)

/-- ITS FALSE NEIGHBOUR: 'it returns false'. Refute it at one input. -/
def fnExactReplyFromWrong : ChangeSpec := { name := "fnExactReplyFrom", fn := fun _ => fun
  | [d] => { results := [.lit (.bool false)], args := [d] }
  | _ => none }
def FnExactReplyFromWrongFalsely : Prop := fnExactReplyFromRow.holds Tryd.pinned (OpenSpec.ofChange fnExactReplyFromWrong)

/-- 'laws.FnReplyCut': WHATEVER THE INPUT: true; the input reads as it did. -/
def fnReplyCutSpec : ChangeSpec := { name := "fnReplyCut", fn := fun _ => fun
  | [d1, d2] => { results := [.lit (.bool true)], args := [d1, d2] }
  | _ => none }
def fnReplyCutRow : OpenClaim := { program := "ytahlgdehfjjoeaadoor", sum := "69757e3d1cc1dbd1bdf51f317d2c8e01c2096d5886b87c4bda1dd525b99fe738", func := "loop.example/proxyframes/laws.FnReplyCut", spec := "fnReplyCut", inPlace := ["internal/bytealg.CountString", "internal/bytealg.IndexByteString", "internal/bytealg.IndexString"], unfollowed := true, recurses := true, named := ["unicode/utf8.first", "unicode/utf8.acceptRanges", "internal/bytealg.MaxLen"], apart := false, laid := [("unicode/utf8.acceptRanges", laid_unicode_utf8_acceptRanges), ("unicode/utf8.first", laid_unicode_utf8_first)] }
def FnReplyCutSaid : Prop := fnReplyCutRow.holds Tryd.pinned (OpenSpec.ofChange fnReplyCutSpec)

/-- ITS FALSE NEIGHBOUR: 'it returns false'. Refute it at one input. -/
def fnReplyCutWrong : ChangeSpec := { name := "fnReplyCut", fn := fun _ => fun
  | [d1, d2] => { results := [.lit (.bool false)], args := [d1, d2] }
  | _ => none }
def FnReplyCutWrongFalsely : Prop := fnReplyCutRow.holds Tryd.pinned (OpenSpec.ofChange fnReplyCutWrong)

/-- 'laws.FnReplyBytes': WHATEVER THE INPUT: true; the input reads as it did. -/
def fnReplyBytesSpec : ChangeSpec := { name := "fnReplyBytes", fn := fun _ => fun
  | [d] => { results := [.lit (.bool true)], args := [d] }
  | _ => none }
def fnReplyBytesRow : OpenClaim := { program := "ytahlgdehfjjoeaadoor", sum := "69757e3d1cc1dbd1bdf51f317d2c8e01c2096d5886b87c4bda1dd525b99fe738", func := "loop.example/proxyframes/laws.FnReplyBytes", spec := "fnReplyBytes", inPlace := ["internal/bytealg.CountString", "internal/bytealg.IndexByteString", "internal/bytealg.IndexString"], unfollowed := true, recurses := true, named := ["unicode/utf8.first", "unicode/utf8.acceptRanges", "internal/bytealg.MaxLen"], apart := false, laid := [("unicode/utf8.acceptRanges", laid_unicode_utf8_acceptRanges), ("unicode/utf8.first", laid_unicode_utf8_first)] }
def FnReplyBytesSaid : Prop := fnReplyBytesRow.holds Tryd.pinned (OpenSpec.ofChange fnReplyBytesSpec)

/-- ITS FALSE NEIGHBOUR: 'it returns false'. Refute it at one input. -/
def fnReplyBytesWrong : ChangeSpec := { name := "fnReplyBytes", fn := fun _ => fun
  | [d] => { results := [.lit (.bool false)], args := [d] }
  | _ => none }
def FnReplyBytesWrongFalsely : Prop := fnReplyBytesRow.holds Tryd.pinned (OpenSpec.ofChange fnReplyBytesWrong)

/-- 'laws.FnExactRequestFrom': WHATEVER THE INPUT: true; the input reads as it did. -/
def fnExactRequestFromSpec : ChangeSpec := { name := "fnExactRequestFrom", fn := fun _ => fun
  | [d] => { results := [.lit (.bool true)], args := [d] }
  | _ => none }
def fnExactRequestFromRow : OpenClaim := { program := "ytahlgdehfjjoeaadoor", sum := "69757e3d1cc1dbd1bdf51f317d2c8e01c2096d5886b87c4bda1dd525b99fe738", func := "loop.example/proxyframes/laws.FnExactRequestFrom", spec := "fnExactRequestFrom", inPlace := ["internal/bytealg.CountString", "internal/bytealg.IndexByteString", "internal/bytealg.IndexString"], unfollowed := true, recurses := true, named := ["unicode/utf8.first", "unicode/utf8.acceptRanges", "internal/bytealg.MaxLen"], apart := false, laid := [("unicode/utf8.acceptRanges", laid_unicode_utf8_acceptRanges), ("unicode/utf8.first", laid_unicode_utf8_first)] }
def FnExactRequestFromSaid : Prop := fnExactRequestFromRow.holds Tryd.pinned (OpenSpec.ofChange fnExactRequestFromSpec)

/-- ITS FALSE NEIGHBOUR: 'it returns false'. Refute it at one input. -/
def fnExactRequestFromWrong : ChangeSpec := { name := "fnExactRequestFrom", fn := fun _ => fun
  | [d] => { results := [.lit (.bool false)], args := [d] }
  | _ => none }
def FnExactRequestFromWrongFalsely : Prop := fnExactRequestFromRow.holds Tryd.pinned (OpenSpec.ofChange fnExactRequestFromWrong)

/-- 'laws.FnReplyRequest': WHATEVER THE INPUT: true; the input reads as it did. -/
def fnReplyRequestSpec : ChangeSpec := { name := "fnReplyRequest", fn := fun _ => fun
  | [d] => { results := [.lit (.bool true)], args := [d] }
  | _ => none }
def fnReplyRequestRow : OpenClaim := { program := "ytahlgdehfjjoeaadoor", sum := "69757e3d1cc1dbd1bdf51f317d2c8e01c2096d5886b87c4bda1dd525b99fe738", func := "loop.example/proxyframes/laws.FnReplyRequest", spec := "fnReplyRequest", inPlace := ["internal/bytealg.CountString", "internal/bytealg.IndexByteString", "internal/bytealg.IndexString"], unfollowed := true, recurses := true, named := ["unicode/utf8.first", "unicode/utf8.acceptRanges", "internal/bytealg.MaxLen"], apart := false, laid := [("unicode/utf8.acceptRanges", laid_unicode_utf8_acceptRanges), ("unicode/utf8.first", laid_unicode_utf8_first)] }
def FnReplyRequestSaid : Prop := fnReplyRequestRow.holds Tryd.pinned (OpenSpec.ofChange fnReplyRequestSpec)

/-- ITS FALSE NEIGHBOUR: 'it returns false'. Refute it at one input. -/
def fnReplyRequestWrong : ChangeSpec := { name := "fnReplyRequest", fn := fun _ => fun
  | [d] => { results := [.lit (.bool false)], args := [d] }
  | _ => none }
def FnReplyRequestWrongFalsely : Prop := fnReplyRequestRow.holds Tryd.pinned (OpenSpec.ofChange fnReplyRequestWrong)

/-- 'laws.FnRequestCut': WHATEVER THE INPUT: true; the input reads as it did. -/
def fnRequestCutSpec : ChangeSpec := { name := "fnRequestCut", fn := fun _ => fun
  | [d1, d2] => { results := [.lit (.bool true)], args := [d1, d2] }
  | _ => none }
def fnRequestCutRow : OpenClaim := { program := "ytahlgdehfjjoeaadoor", sum := "69757e3d1cc1dbd1bdf51f317d2c8e01c2096d5886b87c4bda1dd525b99fe738", func := "loop.example/proxyframes/laws.FnRequestCut", spec := "fnRequestCut", inPlace := ["internal/bytealg.CountString", "internal/bytealg.IndexByteString", "internal/bytealg.IndexString"], unfollowed := true, recurses := true, named := ["unicode/utf8.first", "unicode/utf8.acceptRanges", "internal/bytealg.MaxLen"], apart := false, laid := [("unicode/utf8.acceptRanges", laid_unicode_utf8_acceptRanges), ("unicode/utf8.first", laid_unicode_utf8_first)] }
def FnRequestCutSaid : Prop := fnRequestCutRow.holds Tryd.pinned (OpenSpec.ofChange fnRequestCutSpec)

/-- ITS FALSE NEIGHBOUR: 'it returns false'. Refute it at one input. -/
def fnRequestCutWrong : ChangeSpec := { name := "fnRequestCut", fn := fun _ => fun
  | [d1, d2] => { results := [.lit (.bool false)], args := [d1, d2] }
  | _ => none }
def FnRequestCutWrongFalsely : Prop := fnRequestCutRow.holds Tryd.pinned (OpenSpec.ofChange fnRequestCutWrong)

/-- 'laws.FnRequestVersion': WHATEVER THE INPUT: true; the input reads as it did. -/
def fnRequestVersionSpec : ChangeSpec := { name := "fnRequestVersion", fn := fun _ => fun
  | [d] => { results := [.lit (.bool true)], args := [d] }
  | _ => none }
def fnRequestVersionRow : OpenClaim := { program := "ytahlgdehfjjoeaadoor", sum := "69757e3d1cc1dbd1bdf51f317d2c8e01c2096d5886b87c4bda1dd525b99fe738", func := "loop.example/proxyframes/laws.FnRequestVersion", spec := "fnRequestVersion", inPlace := ["internal/bytealg.CountString", "internal/bytealg.IndexByteString", "internal/bytealg.IndexString"], unfollowed := true, recurses := true, named := ["unicode/utf8.first", "unicode/utf8.acceptRanges", "internal/bytealg.MaxLen"], apart := false, laid := [("unicode/utf8.acceptRanges", laid_unicode_utf8_acceptRanges), ("unicode/utf8.first", laid_unicode_utf8_first)] }
def FnRequestVersionSaid : Prop := fnRequestVersionRow.holds Tryd.pinned (OpenSpec.ofChange fnRequestVersionSpec)

/-- ITS FALSE NEIGHBOUR: 'it returns false'. Refute it at one input. -/
def fnRequestVersionWrong : ChangeSpec := { name := "fnRequestVersion", fn := fun _ => fun
  | [d] => { results := [.lit (.bool false)], args := [d] }
  | _ => none }
def FnRequestVersionWrongFalsely : Prop := fnRequestVersionRow.holds Tryd.pinned (OpenSpec.ofChange fnRequestVersionWrong)

/-- 'laws.FnRequest': WHATEVER THE INPUT: true; the input reads as it did. -/
def fnRequestSpec : ChangeSpec := { name := "fnRequest", fn := fun _ => fun
  | [d] => { results := [.lit (.bool true)], args := [d] }
  | _ => none }
def fnRequestRow : OpenClaim := { program := "ytahlgdehfjjoeaadoor", sum := "69757e3d1cc1dbd1bdf51f317d2c8e01c2096d5886b87c4bda1dd525b99fe738", func := "loop.example/proxyframes/laws.FnRequest", spec := "fnRequest", inPlace := ["internal/bytealg.CountString", "internal/bytealg.IndexByteString", "internal/bytealg.IndexString"], unfollowed := true, recurses := true, named := ["unicode/utf8.first", "unicode/utf8.acceptRanges", "internal/bytealg.MaxLen"], apart := false, laid := [("unicode/utf8.acceptRanges", laid_unicode_utf8_acceptRanges), ("unicode/utf8.first", laid_unicode_utf8_first)] }
def FnRequestSaid : Prop := fnRequestRow.holds Tryd.pinned (OpenSpec.ofChange fnRequestSpec)

/-- ITS FALSE NEIGHBOUR: 'it returns false'. Refute it at one input. -/
def fnRequestWrong : ChangeSpec := { name := "fnRequest", fn := fun _ => fun
  | [d] => { results := [.lit (.bool false)], args := [d] }
  | _ => none }
def FnRequestWrongFalsely : Prop := fnRequestRow.holds Tryd.pinned (OpenSpec.ofChange fnRequestWrong)

/- THE SECOND FORM. 'bulk': how many values and letters a reading holds, each counted each time it is reached (what is shared counts as often as it is met; a slice's spare places count too). A statement '..UptoSaid' is the law's where the arguments, and the package variables that the reading takes, are together of bulk at most 1048576: NARROWER than '..Said'. Prove '..Said' where nothing that the law and all that it calls make is longer than what came in: it says more and counts as full. Else prove '..UptoSaid'. A law counts once. -/
mutual
def uptoBulk {H : Type} : DataW H → Nat
  | .lit (.string bytes) => bytes.length + 1
  | .lit _ => 1
  | .nil => 1
  | .ptr d => uptoBulk d + 1
  | .slice elems spare => uptoBulkAll elems + uptoBulkAll spare + 1
  | .agg parts => uptoBulkAll parts + 1
  | .iface _ d => uptoBulk d + 1
  | .map entries => uptoBulkEntries entries + 1
  | .held _ => 1
def uptoBulkAll {H : Type} : List (DataW H) → Nat
  | [] => 0
  | d :: r => uptoBulk d + uptoBulkAll r
def uptoBulkEntries {H : Type} : List (Lit × DataW H) → Nat
  | [] => 0
  | x :: r => uptoBulkEntry x + uptoBulkEntries r
def uptoBulkEntry {H : Type} : Lit × DataW H → Nat
  | (.string bytes, d) => bytes.length + uptoBulk d + 1
  | (_, d) => uptoBulk d + 1
 end
def uptoSmall : (H : Type) → List (DataW H) → Bool := fun _ ds => decide (uptoBulkAll ds ≤ 1048576)
def OpenSpec.upto (s : _root_.Go.ChangeSpec) : _root_.Go.OpenSpec := { _root_.Go.OpenSpec.ofChange s with cond := some uptoSmall }

/-- 'laws.FnPair', WHERE WHAT IT READS IS OF BULK AT MOST 1048576: true; the input reads as it did. -/
def fnPairUptoRow : OpenClaim := { program := "ytahlgdehfjjoeaadoor", sum := "69757e3d1cc1dbd1bdf51f317d2c8e01c2096d5886b87c4bda1dd525b99fe738", func := "loop.example/proxyframes/laws.FnPair", spec := "fnPair", inPlace := ["internal/bytealg.CountString", "internal/bytealg.IndexByteString", "internal/bytealg.IndexString"], unfollowed := true, recurses := true, named := ["unicode/utf8.first", "unicode/utf8.acceptRanges", "internal/bytealg.MaxLen"], apart := false, laid := [("unicode/utf8.acceptRanges", laid_unicode_utf8_acceptRanges), ("unicode/utf8.first", laid_unicode_utf8_first)], narrowed := true }
def FnPairUptoSaid : Prop := fnPairUptoRow.holds Tryd.pinned (OpenSpec.upto fnPairSpec)

/-- 'laws.FnExactReplyBytes', WHERE WHAT IT READS IS OF BULK AT MOST 1048576: true; the input reads as it did. -/
def fnExactReplyBytesUptoRow : OpenClaim := { program := "ytahlgdehfjjoeaadoor", sum := "69757e3d1cc1dbd1bdf51f317d2c8e01c2096d5886b87c4bda1dd525b99fe738", func := "loop.example/proxyframes/laws.FnExactReplyBytes", spec := "fnExactReplyBytes", inPlace := ["internal/bytealg.CountString", "internal/bytealg.IndexByteString", "internal/bytealg.IndexString"], unfollowed := true, recurses := true, named := ["unicode/utf8.first", "unicode/utf8.acceptRanges", "internal/bytealg.MaxLen"], apart := false, laid := [("unicode/utf8.acceptRanges", laid_unicode_utf8_acceptRanges), ("unicode/utf8.first", laid_unicode_utf8_first)], narrowed := true }
def FnExactReplyBytesUptoSaid : Prop := fnExactReplyBytesUptoRow.holds Tryd.pinned (OpenSpec.upto fnExactReplyBytesSpec)

/-- 'laws.FnRequestAddress', WHERE WHAT IT READS IS OF BULK AT MOST 1048576: true; the input reads as it did. -/
def fnRequestAddressUptoRow : OpenClaim := { program := "ytahlgdehfjjoeaadoor", sum := "69757e3d1cc1dbd1bdf51f317d2c8e01c2096d5886b87c4bda1dd525b99fe738", func := "loop.example/proxyframes/laws.FnRequestAddress", spec := "fnRequestAddress", inPlace := ["internal/bytealg.CountString", "internal/bytealg.IndexByteString", "internal/bytealg.IndexString"], unfollowed := true, recurses := true, named := ["unicode/utf8.first", "unicode/utf8.acceptRanges", "internal/bytealg.MaxLen"], apart := false, laid := [("unicode/utf8.acceptRanges", laid_unicode_utf8_acceptRanges), ("unicode/utf8.first", laid_unicode_utf8_first)], narrowed := true }
def FnRequestAddressUptoSaid : Prop := fnRequestAddressUptoRow.holds Tryd.pinned (OpenSpec.upto fnRequestAddressSpec)

/-- 'laws.FnExactRequestBytes', WHERE WHAT IT READS IS OF BULK AT MOST 1048576: true; the input reads as it did. -/
def fnExactRequestBytesUptoRow : OpenClaim := { program := "ytahlgdehfjjoeaadoor", sum := "69757e3d1cc1dbd1bdf51f317d2c8e01c2096d5886b87c4bda1dd525b99fe738", func := "loop.example/proxyframes/laws.FnExactRequestBytes", spec := "fnExactRequestBytes", inPlace := ["internal/bytealg.CountString", "internal/bytealg.IndexByteString", "internal/bytealg.IndexString"], unfollowed := true, recurses := true, named := ["unicode/utf8.first", "unicode/utf8.acceptRanges", "internal/bytealg.MaxLen"], apart := false, laid := [("unicode/utf8.acceptRanges", laid_unicode_utf8_acceptRanges), ("unicode/utf8.first", laid_unicode_utf8_first)], narrowed := true }
def FnExactRequestBytesUptoSaid : Prop := fnExactRequestBytesUptoRow.holds Tryd.pinned (OpenSpec.upto fnExactRequestBytesSpec)

/-- 'laws.FnExactReplyFrom', WHERE WHAT IT READS IS OF BULK AT MOST 1048576: true; the input reads as it did. -/
def fnExactReplyFromUptoRow : OpenClaim := { program := "ytahlgdehfjjoeaadoor", sum := "69757e3d1cc1dbd1bdf51f317d2c8e01c2096d5886b87c4bda1dd525b99fe738", func := "loop.example/proxyframes/laws.FnExactReplyFrom", spec := "fnExactReplyFrom", inPlace := ["internal/bytealg.CountString", "internal/bytealg.IndexByteString", "internal/bytealg.IndexString"], unfollowed := true, recurses := true, named := ["unicode/utf8.first", "unicode/utf8.acceptRanges", "internal/bytealg.MaxLen"], apart := false, laid := [("unicode/utf8.acceptRanges", laid_unicode_utf8_acceptRanges), ("unicode/utf8.first", laid_unicode_utf8_first)], narrowed := true }
def FnExactReplyFromUptoSaid : Prop := fnExactReplyFromUptoRow.holds Tryd.pinned (OpenSpec.upto fnExactReplyFromSpec)

/-- 'laws.FnReplyCut', WHERE WHAT IT READS IS OF BULK AT MOST 1048576: true; the input reads as it did. -/
def fnReplyCutUptoRow : OpenClaim := { program := "ytahlgdehfjjoeaadoor", sum := "69757e3d1cc1dbd1bdf51f317d2c8e01c2096d5886b87c4bda1dd525b99fe738", func := "loop.example/proxyframes/laws.FnReplyCut", spec := "fnReplyCut", inPlace := ["internal/bytealg.CountString", "internal/bytealg.IndexByteString", "internal/bytealg.IndexString"], unfollowed := true, recurses := true, named := ["unicode/utf8.first", "unicode/utf8.acceptRanges", "internal/bytealg.MaxLen"], apart := false, laid := [("unicode/utf8.acceptRanges", laid_unicode_utf8_acceptRanges), ("unicode/utf8.first", laid_unicode_utf8_first)], narrowed := true }
def FnReplyCutUptoSaid : Prop := fnReplyCutUptoRow.holds Tryd.pinned (OpenSpec.upto fnReplyCutSpec)

/-- 'laws.FnReplyBytes', WHERE WHAT IT READS IS OF BULK AT MOST 1048576: true; the input reads as it did. -/
def fnReplyBytesUptoRow : OpenClaim := { program := "ytahlgdehfjjoeaadoor", sum := "69757e3d1cc1dbd1bdf51f317d2c8e01c2096d5886b87c4bda1dd525b99fe738", func := "loop.example/proxyframes/laws.FnReplyBytes", spec := "fnReplyBytes", inPlace := ["internal/bytealg.CountString", "internal/bytealg.IndexByteString", "internal/bytealg.IndexString"], unfollowed := true, recurses := true, named := ["unicode/utf8.first", "unicode/utf8.acceptRanges", "internal/bytealg.MaxLen"], apart := false, laid := [("unicode/utf8.acceptRanges", laid_unicode_utf8_acceptRanges), ("unicode/utf8.first", laid_unicode_utf8_first)], narrowed := true }
def FnReplyBytesUptoSaid : Prop := fnReplyBytesUptoRow.holds Tryd.pinned (OpenSpec.upto fnReplyBytesSpec)

/-- 'laws.FnExactRequestFrom', WHERE WHAT IT READS IS OF BULK AT MOST 1048576: true; the input reads as it did. -/
def fnExactRequestFromUptoRow : OpenClaim := { program := "ytahlgdehfjjoeaadoor", sum := "69757e3d1cc1dbd1bdf51f317d2c8e01c2096d5886b87c4bda1dd525b99fe738", func := "loop.example/proxyframes/laws.FnExactRequestFrom", spec := "fnExactRequestFrom", inPlace := ["internal/bytealg.CountString", "internal/bytealg.IndexByteString", "internal/bytealg.IndexString"], unfollowed := true, recurses := true, named := ["unicode/utf8.first", "unicode/utf8.acceptRanges", "internal/bytealg.MaxLen"], apart := false, laid := [("unicode/utf8.acceptRanges", laid_unicode_utf8_acceptRanges), ("unicode/utf8.first", laid_unicode_utf8_first)], narrowed := true }
def FnExactRequestFromUptoSaid : Prop := fnExactRequestFromUptoRow.holds Tryd.pinned (OpenSpec.upto fnExactRequestFromSpec)

/-- 'laws.FnReplyRequest', WHERE WHAT IT READS IS OF BULK AT MOST 1048576: true; the input reads as it did. -/
def fnReplyRequestUptoRow : OpenClaim := { program := "ytahlgdehfjjoeaadoor", sum := "69757e3d1cc1dbd1bdf51f317d2c8e01c2096d5886b87c4bda1dd525b99fe738", func := "loop.example/proxyframes/laws.FnReplyRequest", spec := "fnReplyRequest", inPlace := ["internal/bytealg.CountString", "internal/bytealg.IndexByteString", "internal/bytealg.IndexString"], unfollowed := true, recurses := true, named := ["unicode/utf8.first", "unicode/utf8.acceptRanges", "internal/bytealg.MaxLen"], apart := false, laid := [("unicode/utf8.acceptRanges", laid_unicode_utf8_acceptRanges), ("unicode/utf8.first", laid_unicode_utf8_first)], narrowed := true }
def FnReplyRequestUptoSaid : Prop := fnReplyRequestUptoRow.holds Tryd.pinned (OpenSpec.upto fnReplyRequestSpec)

/-- 'laws.FnRequestCut', WHERE WHAT IT READS IS OF BULK AT MOST 1048576: true; the input reads as it did. -/
def fnRequestCutUptoRow : OpenClaim := { program := "ytahlgdehfjjoeaadoor", sum := "69757e3d1cc1dbd1bdf51f317d2c8e01c2096d5886b87c4bda1dd525b99fe738", func := "loop.example/proxyframes/laws.FnRequestCut", spec := "fnRequestCut", inPlace := ["internal/bytealg.CountString", "internal/bytealg.IndexByteString", "internal/bytealg.IndexString"], unfollowed := true, recurses := true, named := ["unicode/utf8.first", "unicode/utf8.acceptRanges", "internal/bytealg.MaxLen"], apart := false, laid := [("unicode/utf8.acceptRanges", laid_unicode_utf8_acceptRanges), ("unicode/utf8.first", laid_unicode_utf8_first)], narrowed := true }
def FnRequestCutUptoSaid : Prop := fnRequestCutUptoRow.holds Tryd.pinned (OpenSpec.upto fnRequestCutSpec)

/-- 'laws.FnRequestVersion', WHERE WHAT IT READS IS OF BULK AT MOST 1048576: true; the input reads as it did. -/
def fnRequestVersionUptoRow : OpenClaim := { program := "ytahlgdehfjjoeaadoor", sum := "69757e3d1cc1dbd1bdf51f317d2c8e01c2096d5886b87c4bda1dd525b99fe738", func := "loop.example/proxyframes/laws.FnRequestVersion", spec := "fnRequestVersion", inPlace := ["internal/bytealg.CountString", "internal/bytealg.IndexByteString", "internal/bytealg.IndexString"], unfollowed := true, recurses := true, named := ["unicode/utf8.first", "unicode/utf8.acceptRanges", "internal/bytealg.MaxLen"], apart := false, laid := [("unicode/utf8.acceptRanges", laid_unicode_utf8_acceptRanges), ("unicode/utf8.first", laid_unicode_utf8_first)], narrowed := true }
def FnRequestVersionUptoSaid : Prop := fnRequestVersionUptoRow.holds Tryd.pinned (OpenSpec.upto fnRequestVersionSpec)

/-- 'laws.FnRequest', WHERE WHAT IT READS IS OF BULK AT MOST 1048576: true; the input reads as it did. -/
def fnRequestUptoRow : OpenClaim := { program := "ytahlgdehfjjoeaadoor", sum := "69757e3d1cc1dbd1bdf51f317d2c8e01c2096d5886b87c4bda1dd525b99fe738", func := "loop.example/proxyframes/laws.FnRequest", spec := "fnRequest", inPlace := ["internal/bytealg.CountString", "internal/bytealg.IndexByteString", "internal/bytealg.IndexString"], unfollowed := true, recurses := true, named := ["unicode/utf8.first", "unicode/utf8.acceptRanges", "internal/bytealg.MaxLen"], apart := false, laid := [("unicode/utf8.acceptRanges", laid_unicode_utf8_acceptRanges), ("unicode/utf8.first", laid_unicode_utf8_first)], narrowed := true }
def FnRequestUptoSaid : Prop := fnRequestUptoRow.holds Tryd.pinned (OpenSpec.upto fnRequestSpec)

end Rows
end Go.Proofs.YtahlgdehfjjoeaaDoor

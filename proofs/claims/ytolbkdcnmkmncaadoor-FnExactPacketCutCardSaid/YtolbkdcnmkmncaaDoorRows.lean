/-
  NARROWER THAN 'FOR EVERY INPUT', by the rows' own cells (each row's printed sentence says how): FnReplyFrom: laid · FnRequestFrom: laid · FnPacketSize: laid · FnExactPacketBytes: laid · FnExactPacketFrom: laid · FnPacket: laid · FnPacketFrom: laid · FnCutMark: laid · FnCutOne: laid · FnCutSize: laid · FnCutBytes: laid · FnExactPacketCut: laid.
  DERIVED. THE GIVEN ROWS OF THIS SEAT. 12 by the template 'for every input the law returns true; each argument reads behind the call as it read before'; 0 by the template 'total and deterministic' (their statements: YtolbkdcnmkmncaaDoorTotals.lean).
  GIVEN WITH THE SEED: the statements are not yours to turn. If you find one false, say at which input.
  Laid BY PROGRAM, IN A SANDBOX (cutbox-rows.mjs): the forced cells as the released guide's own fill.sh prints them over the translation 30446cfcf4277ad3… (all of the seat's roots in one cut). By AI agents, Wed Nov 11 2026. No macro, syntax, notation, axiom, sorry.
-/
import Derived.Test.YtolbkdcnmkmncaaDoorChecked
import GoSem.PinnedTables
import GoSem.Claim
import GoSem.ClaimJoined
import GoSem.ClaimMapViews
import Derived.JoinedTies
import Derived.KernelRfl
namespace Go.Proofs.YtolbkdcnmkmncaaDoor
/- THE CELL 'sum', in the pinned program and in every row, IS THE sha256 OF THE DUMP (.gsa) THAT YtolbkdcnmkmncaaDoorProg.lean LOADS. Nothing in Lean hashes anything: it is a label: what it is worth is what the hold of that sum in a sandbox is worth. -/
noncomputable def Tryd.pinned : Pinned := { name := "ytolbkdcnmkmncaadoor", sum := "30446cfcf4277ad307d5d09d11bb578f29f12a8d13af0f7799d78a7f926fe63d", checked := Tryd.checked }
namespace Rows
def none {H : Type} : Left H := { results := [], args := [] }

/- WHAT THE LISTED PACKAGE-LEVEL VARIABLES READ AS WHEN THE CALL BEGINS. Each datum BY PROGRAM (the guide's laid-datum.mjs) off the statement by which the dump's own 'gosem.cut.vars' lays the variable. In a bare row this is a premise. The card (YtolbkdcnmkmncaaDoorCards.lean) ties it to the program's text. -/
def laid_unicode_utf8_acceptRanges {H : Type} : DataW H := .agg [.agg [.lit (.int .u8 128), .lit (.int .u8 191)], .agg [.lit (.int .u8 160), .lit (.int .u8 191)], .agg [.lit (.int .u8 128), .lit (.int .u8 159)], .agg [.lit (.int .u8 144), .lit (.int .u8 191)], .agg [.lit (.int .u8 128), .lit (.int .u8 143)], .agg [.lit (.int .u8 0), .lit (.int .u8 0)], .agg [.lit (.int .u8 0), .lit (.int .u8 0)], .agg [.lit (.int .u8 0), .lit (.int .u8 0)], .agg [.lit (.int .u8 0), .lit (.int .u8 0)], .agg [.lit (.int .u8 0), .lit (.int .u8 0)], .agg [.lit (.int .u8 0), .lit (.int .u8 0)], .agg [.lit (.int .u8 0), .lit (.int .u8 0)], .agg [.lit (.int .u8 0), .lit (.int .u8 0)], .agg [.lit (.int .u8 0), .lit (.int .u8 0)], .agg [.lit (.int .u8 0), .lit (.int .u8 0)], .agg [.lit (.int .u8 0), .lit (.int .u8 0)]]
/-- One of Go's own tables, pinned by name: the form's constant. -/
def laid_unicode_utf8_first : DataW Unit := Go.Pinned.utf8First

/-- 'laws.FnReplyFrom': WHATEVER THE INPUT: true; the input reads as it did. -/
def fnReplyFromSpec : ChangeSpec := { name := "fnReplyFrom", fn := fun _ => fun
  | [d] => { results := [.lit (.bool true)], args := [d] }
  | _ => none }
def fnReplyFromRow : OpenClaim := { program := "ytolbkdcnmkmncaadoor", sum := "30446cfcf4277ad307d5d09d11bb578f29f12a8d13af0f7799d78a7f926fe63d", func := "loop.example/proxyframes/laws.FnReplyFrom", spec := "fnReplyFrom", inPlace := ["internal/bytealg.CountString", "internal/bytealg.IndexByteString", "internal/bytealg.IndexString"], unfollowed := true, recurses := true, named := ["unicode/utf8.first", "unicode/utf8.acceptRanges", "internal/bytealg.MaxLen"], apart := false, laid := [("unicode/utf8.acceptRanges", laid_unicode_utf8_acceptRanges), ("unicode/utf8.first", laid_unicode_utf8_first)] }
def FnReplyFromSaid : Prop := fnReplyFromRow.holds Tryd.pinned (OpenSpec.ofChange fnReplyFromSpec)

/-- ITS FALSE NEIGHBOUR: 'it returns false'. Refute it at one input. -/
def fnReplyFromWrong : ChangeSpec := { name := "fnReplyFrom", fn := fun _ => fun
  | [d] => { results := [.lit (.bool false)], args := [d] }
  | _ => none }
def FnReplyFromWrongFalsely : Prop := fnReplyFromRow.holds Tryd.pinned (OpenSpec.ofChange fnReplyFromWrong)

/-- 'laws.FnRequestFrom': WHATEVER THE INPUT: true; the input reads as it did. -/
def fnRequestFromSpec : ChangeSpec := { name := "fnRequestFrom", fn := fun _ => fun
  | [d] => { results := [.lit (.bool true)], args := [d] }
  | _ => none }
def fnRequestFromRow : OpenClaim := { program := "ytolbkdcnmkmncaadoor", sum := "30446cfcf4277ad307d5d09d11bb578f29f12a8d13af0f7799d78a7f926fe63d", func := "loop.example/proxyframes/laws.FnRequestFrom", spec := "fnRequestFrom", inPlace := ["internal/bytealg.CountString", "internal/bytealg.IndexByteString", "internal/bytealg.IndexString"], unfollowed := true, recurses := true, named := ["unicode/utf8.first", "unicode/utf8.acceptRanges", "internal/bytealg.MaxLen"], apart := false, laid := [("unicode/utf8.acceptRanges", laid_unicode_utf8_acceptRanges), ("unicode/utf8.first", laid_unicode_utf8_first)] }
def FnRequestFromSaid : Prop := fnRequestFromRow.holds Tryd.pinned (OpenSpec.ofChange fnRequestFromSpec)

/-- ITS FALSE NEIGHBOUR: 'it returns false'. Refute it at one input. -/
def fnRequestFromWrong : ChangeSpec := { name := "fnRequestFrom", fn := fun _ => fun
  | [d] => { results := [.lit (.bool false)], args := [d] }
  | _ => none }
def FnRequestFromWrongFalsely : Prop := fnRequestFromRow.holds Tryd.pinned (OpenSpec.ofChange fnRequestFromWrong)

/-- 'laws.FnPacketSize': WHATEVER THE INPUT: true; the input reads as it did. -/
def fnPacketSizeSpec : ChangeSpec := { name := "fnPacketSize", fn := fun _ => fun
  | [d] => { results := [.lit (.bool true)], args := [d] }
  | _ => none }
def fnPacketSizeRow : OpenClaim := { program := "ytolbkdcnmkmncaadoor", sum := "30446cfcf4277ad307d5d09d11bb578f29f12a8d13af0f7799d78a7f926fe63d", func := "loop.example/proxyframes/laws.FnPacketSize", spec := "fnPacketSize", inPlace := ["internal/bytealg.CountString", "internal/bytealg.IndexByteString", "internal/bytealg.IndexString"], unfollowed := true, recurses := true, named := ["unicode/utf8.first", "unicode/utf8.acceptRanges", "internal/bytealg.MaxLen"], apart := false, laid := [("unicode/utf8.acceptRanges", laid_unicode_utf8_acceptRanges), ("unicode/utf8.first", laid_unicode_utf8_first)] }
def FnPacketSizeSaid : Prop := fnPacketSizeRow.holds Tryd.pinned (OpenSpec.ofChange fnPacketSizeSpec)

/-- ITS FALSE NEIGHBOUR: 'it returns false'. Refute it at one input. -/
def fnPacketSizeWrong : ChangeSpec := { name := "fnPacketSize", fn := fun _ => fun
  | [d] => { results := [.lit (.bool false)], args := [d] }
  | _ => none }
def FnPacketSizeWrongFalsely : Prop := fnPacketSizeRow.holds Tryd.pinned (OpenSpec.ofChange fnPacketSizeWrong)

/-- 'laws.FnExactPacketBytes': WHATEVER THE INPUT: true; the input reads as it did. -/
def fnExactPacketBytesSpec : ChangeSpec := { name := "fnExactPacketBytes", fn := fun _ => fun
  | [d] => { results := [.lit (.bool true)], args := [d] }
  | _ => none }
def fnExactPacketBytesRow : OpenClaim := { program := "ytolbkdcnmkmncaadoor", sum := "30446cfcf4277ad307d5d09d11bb578f29f12a8d13af0f7799d78a7f926fe63d", func := "loop.example/proxyframes/laws.FnExactPacketBytes", spec := "fnExactPacketBytes", inPlace := ["internal/bytealg.CountString", "internal/bytealg.IndexByteString", "internal/bytealg.IndexString"], unfollowed := true, recurses := true, named := ["unicode/utf8.first", "unicode/utf8.acceptRanges", "internal/bytealg.MaxLen"], apart := false, laid := [("unicode/utf8.acceptRanges", laid_unicode_utf8_acceptRanges), ("unicode/utf8.first", laid_unicode_utf8_first)] }
def FnExactPacketBytesSaid : Prop := fnExactPacketBytesRow.holds Tryd.pinned (OpenSpec.ofChange fnExactPacketBytesSpec)

/-- ITS FALSE NEIGHBOUR: 'it returns false'. Refute it at one input. -/
def fnExactPacketBytesWrong : ChangeSpec := { name := "fnExactPacketBytes", fn := fun _ => fun
  | [d] => { results := [.lit (.bool false)], args := [d] }
  | _ => none }
def FnExactPacketBytesWrongFalsely : Prop := fnExactPacketBytesRow.holds Tryd.pinned (OpenSpec.ofChange fnExactPacketBytesWrong)

/-- 'laws.FnExactPacketFrom': WHATEVER THE INPUT: true; the input reads as it did. -/
def fnExactPacketFromSpec : ChangeSpec := { name := "fnExactPacketFrom", fn := fun _ => fun
  | [d] => { results := [.lit (.bool true)], args := [d] }
  | _ => none }
def fnExactPacketFromRow : OpenClaim := { program := "ytolbkdcnmkmncaadoor", sum := "30446cfcf4277ad307d5d09d11bb578f29f12a8d13af0f7799d78a7f926fe63d", func := "loop.example/proxyframes/laws.FnExactPacketFrom", spec := "fnExactPacketFrom", inPlace := ["internal/bytealg.CountString", "internal/bytealg.IndexByteString", "internal/bytealg.IndexString"], unfollowed := true, recurses := true, named := ["unicode/utf8.first", "unicode/utf8.acceptRanges", "internal/bytealg.MaxLen"], apart := false, laid := [("unicode/utf8.acceptRanges", laid_unicode_utf8_acceptRanges), ("unicode/utf8.first", laid_unicode_utf8_first)] }
def FnExactPacketFromSaid : Prop := fnExactPacketFromRow.holds Tryd.pinned (OpenSpec.ofChange fnExactPacketFromSpec)

/-- ITS FALSE NEIGHBOUR: 'it returns false'. Refute it at one input. -/
def fnExactPacketFromWrong : ChangeSpec := { name := "fnExactPacketFrom", fn := fun _ => fun
  | [d] => { results := [.lit (.bool false)], args := [d] }
  | _ => none }
def FnExactPacketFromWrongFalsely : Prop := fnExactPacketFromRow.holds Tryd.pinned (OpenSpec.ofChange fnExactPacketFromWrong)

/-- 'laws.FnPacket': WHATEVER THE INPUT: true; the input reads as it did. -/
def fnPacketSpec : ChangeSpec := { name := "fnPacket", fn := fun _ => fun
  | [d] => { results := [.lit (.bool true)], args := [d] }
  | _ => none }
def fnPacketRow : OpenClaim := { program := "ytolbkdcnmkmncaadoor", sum := "30446cfcf4277ad307d5d09d11bb578f29f12a8d13af0f7799d78a7f926fe63d", func := "loop.example/proxyframes/laws.FnPacket", spec := "fnPacket", inPlace := ["internal/bytealg.CountString", "internal/bytealg.IndexByteString", "internal/bytealg.IndexString"], unfollowed := true, recurses := true, named := ["unicode/utf8.first", "unicode/utf8.acceptRanges", "internal/bytealg.MaxLen"], apart := false, laid := [("unicode/utf8.acceptRanges", laid_unicode_utf8_acceptRanges), ("unicode/utf8.first", laid_unicode_utf8_first)] }
def FnPacketSaid : Prop := fnPacketRow.holds Tryd.pinned (OpenSpec.ofChange fnPacketSpec)

/-- ITS FALSE NEIGHBOUR: 'it returns false'. Refute it at one input. -/
def fnPacketWrong : ChangeSpec := { name := "fnPacket", fn := fun _ => fun
  | [d] => { results := [.lit (.bool false)], args := [d] }
  | _ => none }
def FnPacketWrongFalsely : Prop := fnPacketRow.holds Tryd.pinned (OpenSpec.ofChange fnPacketWrong)

/-- 'laws.FnPacketFrom': WHATEVER THE INPUT: true; the input reads as it did. -/
def fnPacketFromSpec : ChangeSpec := { name := "fnPacketFrom", fn := fun _ => fun
  | [d] => { results := [.lit (.bool true)], args := [d] }
  | _ => none }
def fnPacketFromRow : OpenClaim := { program := "ytolbkdcnmkmncaadoor", sum := "30446cfcf4277ad307d5d09d11bb578f29f12a8d13af0f7799d78a7f926fe63d", func := "loop.example/proxyframes/laws.FnPacketFrom", spec := "fnPacketFrom", inPlace := ["internal/bytealg.CountString", "internal/bytealg.IndexByteString", "internal/bytealg.IndexString"], unfollowed := true, recurses := true, named := ["unicode/utf8.first", "unicode/utf8.acceptRanges", "internal/bytealg.MaxLen"], apart := false, laid := [("unicode/utf8.acceptRanges", laid_unicode_utf8_acceptRanges), ("unicode/utf8.first", laid_unicode_utf8_first)] }
def FnPacketFromSaid : Prop := fnPacketFromRow.holds Tryd.pinned (OpenSpec.ofChange fnPacketFromSpec)

/-- ITS FALSE NEIGHBOUR: 'it returns false'. Refute it at one input. -/
def fnPacketFromWrong : ChangeSpec := { name := "fnPacketFrom", fn := fun _ => fun
  | [d] => { results := [.lit (.bool false)], args := [d] }
  | _ => none }
def FnPacketFromWrongFalsely : Prop := fnPacketFromRow.holds Tryd.pinned (OpenSpec.ofChange fnPacketFromWrong)

/-- 'laws.FnCutMark': WHATEVER THE INPUT: true; the input reads as it did. -/
def fnCutMarkSpec : ChangeSpec := { name := "fnCutMark", fn := fun _ => fun
  | [d] => { results := [.lit (.bool true)], args := [d] }
  | _ => none }
def fnCutMarkRow : OpenClaim := { program := "ytolbkdcnmkmncaadoor", sum := "30446cfcf4277ad307d5d09d11bb578f29f12a8d13af0f7799d78a7f926fe63d", func := "loop.example/proxyframes/laws.FnCutMark", spec := "fnCutMark", inPlace := ["internal/bytealg.CountString", "internal/bytealg.IndexByteString", "internal/bytealg.IndexString"], unfollowed := true, recurses := true, named := ["unicode/utf8.first", "unicode/utf8.acceptRanges", "internal/bytealg.MaxLen"], apart := false, laid := [("unicode/utf8.acceptRanges", laid_unicode_utf8_acceptRanges), ("unicode/utf8.first", laid_unicode_utf8_first)] }
def FnCutMarkSaid : Prop := fnCutMarkRow.holds Tryd.pinned (OpenSpec.ofChange fnCutMarkSpec)

/-- ITS FALSE NEIGHBOUR: 'it returns false'. Refute it at one input. -/
def fnCutMarkWrong : ChangeSpec := { name := "fnCutMark", fn := fun _ => fun
  | [d] => { results := [.lit (.bool false)], args := [d] }
  | _ => none }
def FnCutMarkWrongFalsely : Prop := fnCutMarkRow.holds Tryd.pinned (OpenSpec.ofChange fnCutMarkWrong)

/-- 'laws.FnCutOne': WHATEVER THE INPUT: true; the input reads as it did. -/
def fnCutOneSpec : ChangeSpec := { name := "fnCutOne", fn := fun _ => fun
  | [d] => { results := [.lit (.bool true)], args := [d] }
  | _ => none }
def fnCutOneRow : OpenClaim := { program := "ytolbkdcnmkmncaadoor", sum := "30446cfcf4277ad307d5d09d11bb578f29f12a8d13af0f7799d78a7f926fe63d", func := "loop.example/proxyframes/laws.FnCutOne", spec := "fnCutOne", inPlace := ["internal/bytealg.CountString", "internal/bytealg.IndexByteString", "internal/bytealg.IndexString"], unfollowed := true, recurses := true, named := ["unicode/utf8.first", "unicode/utf8.acceptRanges", "internal/bytealg.MaxLen"], apart := false, laid := [("unicode/utf8.acceptRanges", laid_unicode_utf8_acceptRanges), ("unicode/utf8.first", laid_unicode_utf8_first)] }
def FnCutOneSaid : Prop := fnCutOneRow.holds Tryd.pinned (OpenSpec.ofChange fnCutOneSpec)

/-- ITS FALSE NEIGHBOUR: 'it returns false'. Refute it at one input. -/
def fnCutOneWrong : ChangeSpec := { name := "fnCutOne", fn := fun _ => fun
  | [d] => { results := [.lit (.bool false)], args := [d] }
  | _ => none }
def FnCutOneWrongFalsely : Prop := fnCutOneRow.holds Tryd.pinned (OpenSpec.ofChange fnCutOneWrong)

/-- 'laws.FnCutSize': WHATEVER THE INPUT: true; the input reads as it did. -/
def fnCutSizeSpec : ChangeSpec := { name := "fnCutSize", fn := fun _ => fun
  | [d] => { results := [.lit (.bool true)], args := [d] }
  | _ => none }
def fnCutSizeRow : OpenClaim := { program := "ytolbkdcnmkmncaadoor", sum := "30446cfcf4277ad307d5d09d11bb578f29f12a8d13af0f7799d78a7f926fe63d", func := "loop.example/proxyframes/laws.FnCutSize", spec := "fnCutSize", inPlace := ["internal/bytealg.CountString", "internal/bytealg.IndexByteString", "internal/bytealg.IndexString"], unfollowed := true, recurses := true, named := ["unicode/utf8.first", "unicode/utf8.acceptRanges", "internal/bytealg.MaxLen"], apart := false, laid := [("unicode/utf8.acceptRanges", laid_unicode_utf8_acceptRanges), ("unicode/utf8.first", laid_unicode_utf8_first)] }
def FnCutSizeSaid : Prop := fnCutSizeRow.holds Tryd.pinned (OpenSpec.ofChange fnCutSizeSpec)

/-- ITS FALSE NEIGHBOUR: 'it returns false'. Refute it at one input. -/
def fnCutSizeWrong : ChangeSpec := { name := "fnCutSize", fn := fun _ => fun
  | [d] => { results := [.lit (.bool false)], args := [d] }
  | _ => none }
def FnCutSizeWrongFalsely : Prop := fnCutSizeRow.holds Tryd.pinned (OpenSpec.ofChange fnCutSizeWrong)

/-- 'laws.FnCutBytes': WHATEVER THE INPUT: true; the input reads as it did. -/
def fnCutBytesSpec : ChangeSpec := { name := "fnCutBytes", fn := fun _ => fun
  | [d] => { results := [.lit (.bool true)], args := [d] }
  | _ => none }
def fnCutBytesRow : OpenClaim := { program := "ytolbkdcnmkmncaadoor", sum := "30446cfcf4277ad307d5d09d11bb578f29f12a8d13af0f7799d78a7f926fe63d", func := "loop.example/proxyframes/laws.FnCutBytes", spec := "fnCutBytes", inPlace := ["internal/bytealg.CountString", "internal/bytealg.IndexByteString", "internal/bytealg.IndexString"], unfollowed := true, recurses := true, named := ["unicode/utf8.first", "unicode/utf8.acceptRanges", "internal/bytealg.MaxLen"], apart := false, laid := [("unicode/utf8.acceptRanges", laid_unicode_utf8_acceptRanges), ("unicode/utf8.first", laid_unicode_utf8_first)] }
def FnCutBytesSaid : Prop := fnCutBytesRow.holds Tryd.pinned (OpenSpec.ofChange fnCutBytesSpec)

/-- ITS FALSE NEIGHBOUR: 'it returns false'. Refute it at one input. -/
def fnCutBytesWrong : ChangeSpec := { name := "fnCutBytes", fn := fun _ => fun
  | [d] => { results := [.lit (.bool false)], args := [d] }
  | _ => none }
def FnCutBytesWrongFalsely : Prop := fnCutBytesRow.holds Tryd.pinned (OpenSpec.ofChange fnCutBytesWrong)

/-- 'laws.FnExactPacketCut': WHATEVER THE INPUT: true; the input reads as it did. -/
def fnExactPacketCutSpec : ChangeSpec := { name := "fnExactPacketCut", fn := fun _ => fun
  | [d1, d2, d3] => { results := [.lit (.bool true)], args := [d1, d2, d3] }
  | _ => none }
def fnExactPacketCutRow : OpenClaim := { program := "ytolbkdcnmkmncaadoor", sum := "30446cfcf4277ad307d5d09d11bb578f29f12a8d13af0f7799d78a7f926fe63d", func := "loop.example/proxyframes/laws.FnExactPacketCut", spec := "fnExactPacketCut", inPlace := ["internal/bytealg.CountString", "internal/bytealg.IndexByteString", "internal/bytealg.IndexString"], unfollowed := true, recurses := true, named := ["unicode/utf8.first", "unicode/utf8.acceptRanges", "internal/bytealg.MaxLen"], apart := false, laid := [("unicode/utf8.acceptRanges", laid_unicode_utf8_acceptRanges), ("unicode/utf8.first", laid_unicode_utf8_first)] }
def FnExactPacketCutSaid : Prop := fnExactPacketCutRow.holds Tryd.pinned (OpenSpec.ofChange fnExactPacketCutSpec)

/-- ITS FALSE NEIGHBOUR: 'it returns false'. Refute it at one input. -/
def fnExactPacketCutWrong : ChangeSpec := { name := "fnExactPacketCut", fn := fun _ => fun
  | [d1, d2, d3] => { results := [.lit (.bool false)], args := [d1, d2, d3] }
  | _ => none }
def FnExactPacketCutWrongFalsely : Prop := fnExactPacketCutRow.holds Tryd.pinned (OpenSpec.ofChange fnExactPacketCutWrong)

/- THE SECOND FORM. 'bulk': how many values and letters a reading holds, each counted each time it is reached (what is shared counts as often as it is met; a slice's spare places count too). A statement '..UptoSaid' is the law's where the arguments, and the package variables that the reading takes, are together of bulk at most 1048576: NARROWER than '..Said'. Prove '..Said' where nothing that the law and all that it calls make is longer than what came in: it says more and counts as full. Else prove '..UptoSaid'. A law counts once. -/
mutual
def uptoBulk {H : Type} : DataW H → Nat
  | .lit (.string bytes) => bytes.length + 1
  | .lit _ => 1
  | .nil => 1
  | .ptr d => uptoBulk d + 1
  | .slice elems spare => uptoBulkAll elems + uptoBulkAll spare + 1
  | .agg parts => uptoBulkAll parts + 1
  | .iface _ d => uptoBulk d + 1
  | .map entries => uptoBulkEntries entries + 1
  | .held _ => 1
def uptoBulkAll {H : Type} : List (DataW H) → Nat
  | [] => 0
  | d :: r => uptoBulk d + uptoBulkAll r
def uptoBulkEntries {H : Type} : List (Lit × DataW H) → Nat
  | [] => 0
  | x :: r => uptoBulkEntry x + uptoBulkEntries r
def uptoBulkEntry {H : Type} : Lit × DataW H → Nat
  | (.string bytes, d) => bytes.length + uptoBulk d + 1
  | (_, d) => uptoBulk d + 1
 end
def uptoSmall : (H : Type) → List (DataW H) → Bool := fun _ ds => decide (uptoBulkAll ds ≤ 1048576)
def OpenSpec.upto (s : _root_.Go.ChangeSpec) : _root_.Go.OpenSpec := { _root_.Go.OpenSpec.ofChange s with cond := some uptoSmall }

/-- 'laws.FnReplyFrom', WHERE WHAT IT READS IS OF BULK AT MOST 1048576: true; the input reads as it did. -/
def fnReplyFromUptoRow : OpenClaim := { program := "ytolbkdcnmkmncaadoor", sum := "30446cfcf4277ad307d5d09d11bb578f29f12a8d13af0f7799d78a7f926fe63d", func := "loop.example/proxyframes/laws.FnReplyFrom", spec := "fnReplyFrom", inPlace := ["internal/bytealg.CountString", "internal/bytealg.IndexByteString", "internal/bytealg.IndexString"], unfollowed := true, recurses := true, named := ["unicode/utf8.first", "unicode/utf8.acceptRanges", "internal/bytealg.MaxLen"], apart := false, laid := [("unicode/utf8.acceptRanges", laid_unicode_utf8_acceptRanges), ("unicode/utf8.first", laid_unicode_utf8_first)], narrowed := true }
def FnReplyFromUptoSaid : Prop := fnReplyFromUptoRow.holds Tryd.pinned (OpenSpec.upto fnReplyFromSpec)

/-- 'laws.FnRequestFrom', WHERE WHAT IT READS IS OF BULK AT MOST 1048576: true; the input reads as it did. -/
def fnRequestFromUptoRow : OpenClaim := { program := "ytolbkdcnmkmncaadoor", sum := "30446cfcf4277ad307d5d09d11bb578f29f12a8d13af0f7799d78a7f926fe63d", func := "loop.example/proxyframes/laws.FnRequestFrom", spec := "fnRequestFrom", inPlace := ["internal/bytealg.CountString", "internal/bytealg.IndexByteString", "internal/bytealg.IndexString"], unfollowed := true, recurses := true, named := ["unicode/utf8.first", "unicode/utf8.acceptRanges", "internal/bytealg.MaxLen"], apart := false, laid := [("unicode/utf8.acceptRanges", laid_unicode_utf8_acceptRanges), ("unicode/utf8.first", laid_unicode_utf8_first)], narrowed := true }
def FnRequestFromUptoSaid : Prop := fnRequestFromUptoRow.holds Tryd.pinned (OpenSpec.upto fnRequestFromSpec)

/-- 'laws.FnPacketSize', WHERE WHAT IT READS IS OF BULK AT MOST 1048576: true; the input reads as it did. -/
def fnPacketSizeUptoRow : OpenClaim := { program := "ytolbkdcnmkmncaadoor", sum := "30446cfcf4277ad307d5d09d11bb578f29f12a8d13af0f7799d78a7f926fe63d", func := "loop.example/proxyframes/laws.FnPacketSize", spec := "fnPacketSize", inPlace := ["internal/bytealg.CountString", "internal/bytealg.IndexByteString", "internal/bytealg.IndexString"], unfollowed := true, recurses := true, named := ["unicode/utf8.first", "unicode/utf8.acceptRanges", "internal/bytealg.MaxLen"], apart := false, laid := [("unicode/utf8.acceptRanges", laid_unicode_utf8_acceptRanges), ("unicode/utf8.first", laid_unicode_utf8_first)], narrowed := true }
def FnPacketSizeUptoSaid : Prop := fnPacketSizeUptoRow.holds Tryd.pinned (OpenSpec.upto fnPacketSizeSpec)

/-- 'laws.FnExactPacketBytes', WHERE WHAT IT READS IS OF BULK AT MOST 1048576: true; the input reads as it did. -/
def fnExactPacketBytesUptoRow : OpenClaim := { program := "ytolbkdcnmkmncaadoor", sum := "30446cfcf4277ad307d5d09d11bb578f29f12a8d13af0f7799d78a7f926fe63d", func := "loop.example/proxyframes/laws.FnExactPacketBytes", spec := "fnExactPacketBytes", inPlace := ["internal/bytealg.CountString", "internal/bytealg.IndexByteString", "internal/bytealg.IndexString"], unfollowed := true, recurses := true, named := ["unicode/utf8.first", "unicode/utf8.acceptRanges", "internal/bytealg.MaxLen"], apart := false, laid := [("unicode/utf8.acceptRanges", laid_unicode_utf8_acceptRanges), ("unicode/utf8.first", laid_unicode_utf8_first)], narrowed := true }
def FnExactPacketBytesUptoSaid : Prop := fnExactPacketBytesUptoRow.holds Tryd.pinned (OpenSpec.upto fnExactPacketBytesSpec)

/-- 'laws.FnExactPacketFrom', WHERE WHAT IT READS IS OF BULK AT MOST 1048576: true; the input reads as it did. -/
def fnExactPacketFromUptoRow : OpenClaim := { program := "ytolbkdcnmkmncaadoor", sum := "30446cfcf4277ad307d5d09d11bb578f29f12a8d13af0f7799d78a7f926fe63d", func := "loop.example/proxyframes/laws.FnExactPacketFrom", spec := "fnExactPacketFrom", inPlace := ["internal/bytealg.CountString", "internal/bytealg.IndexByteString", "internal/bytealg.IndexString"], unfollowed := true, recurses := true, named := ["unicode/utf8.first", "unicode/utf8.acceptRanges", "internal/bytealg.MaxLen"], apart := false, laid := [("unicode/utf8.acceptRanges", laid_unicode_utf8_acceptRanges), ("unicode/utf8.first", laid_unicode_utf8_first)], narrowed := true }
def FnExactPacketFromUptoSaid : Prop := fnExactPacketFromUptoRow.holds Tryd.pinned (OpenSpec.upto fnExactPacketFromSpec)

/-- 'laws.FnPacket', WHERE WHAT IT READS IS OF BULK AT MOST 1048576: true; the input reads as it did. -/
def fnPacketUptoRow : OpenClaim := { program := "ytolbkdcnmkmncaadoor", sum := "30446cfcf4277ad307d5d09d11bb578f29f12a8d13af0f7799d78a7f926fe63d", func := "loop.example/proxyframes/laws.FnPacket", spec := "fnPacket", inPlace := ["internal/bytealg.CountString", "internal/bytealg.IndexByteString", "internal/bytealg.IndexString"], unfollowed := true, recurses := true, named := ["unicode/utf8.first", "unicode/utf8.acceptRanges", "internal/bytealg.MaxLen"], apart := false, laid := [("unicode/utf8.acceptRanges", laid_unicode_utf8_acceptRanges), ("unicode/utf8.first", laid_unicode_utf8_first)], narrowed := true }
def FnPacketUptoSaid : Prop := fnPacketUptoRow.holds Tryd.pinned (OpenSpec.upto fnPacketSpec)

/-- 'laws.FnPacketFrom', WHERE WHAT IT READS IS OF BULK AT MOST 1048576: true; the input reads as it did. -/
def fnPacketFromUptoRow : OpenClaim := { program := "ytolbkdcnmkmncaadoor", sum := "30446cfcf4277ad307d5d09d11bb578f29f12a8d13af0f7799d78a7f926fe63d", func := "loop.example/proxyframes/laws.FnPacketFrom", spec := "fnPacketFrom", inPlace := ["internal/bytealg.CountString", "internal/bytealg.IndexByteString", "internal/bytealg.IndexString"], unfollowed := true, recurses := true, named := ["unicode/utf8.first", "unicode/utf8.acceptRanges", "internal/bytealg.MaxLen"], apart := false, laid := [("unicode/utf8.acceptRanges", laid_unicode_utf8_acceptRanges), ("unicode/utf8.first", laid_unicode_utf8_first)], narrowed := true }
def FnPacketFromUptoSaid : Prop := fnPacketFromUptoRow.holds Tryd.pinned (OpenSpec.upto fnPacketFromSpec)

/-- 'laws.FnCutMark', WHERE WHAT IT READS IS OF BULK AT MOST 1048576: true; the input reads as it did. -/
def fnCutMarkUptoRow : OpenClaim := { program := "ytolbkdcnmkmncaadoor", sum := "30446cfcf4277ad307d5d09d11bb578f29f12a8d13af0f7799d78a7f926fe63d", func := "loop.example/proxyframes/laws.FnCutMark", spec := "fnCutMark", inPlace := ["internal/bytealg.CountString", "internal/bytealg.IndexByteString", "internal/bytealg.IndexString"], unfollowed := true, recurses := true, named := ["unicode/utf8.first", "unicode/utf8.acceptRanges", "internal/bytealg.MaxLen"], apart := false, laid := [("unicode/utf8.acceptRanges", laid_unicode_utf8_acceptRanges), ("unicode/utf8.first", laid_unicode_utf8_first)], narrowed := true }
def FnCutMarkUptoSaid : Prop := fnCutMarkUptoRow.holds Tryd.pinned (OpenSpec.upto fnCutMarkSpec)

/-- 'laws.FnCutOne', WHERE WHAT IT READS IS OF BULK AT MOST 1048576: true; the input reads as it did. -/
def fnCutOneUptoRow : OpenClaim := { program := "ytolbkdcnmkmncaadoor", sum := "30446cfcf4277ad307d5d09d11bb578f29f12a8d13af0f7799d78a7f926fe63d", func := "loop.example/proxyframes/laws.FnCutOne", spec := "fnCutOne", inPlace := ["internal/bytealg.CountString", "internal/bytealg.IndexByteString", "internal/bytealg.IndexString"], unfollowed := true, recurses := true, named := ["unicode/utf8.first", "unicode/utf8.acceptRanges", "internal/bytealg.MaxLen"], apart := false, laid := [("unicode/utf8.acceptRanges", laid_unicode_utf8_acceptRanges), ("unicode/utf8.first", laid_unicode_utf8_first)], narrowed := true }
def FnCutOneUptoSaid : Prop := fnCutOneUptoRow.holds Tryd.pinned (OpenSpec.upto fnCutOneSpec)

/-- 'laws.FnCutSize', WHERE WHAT IT READS IS OF BULK AT MOST 1048576: true; the input reads as it did. -/
def fnCutSizeUptoRow : OpenClaim := { program := "ytolbkdcnmkmncaadoor", sum := "30446cfcf4277ad307d5d09d11bb578f29f12a8d13af0f7799d78a7f926fe63d", func := "loop.example/proxyframes/laws.FnCutSize", spec := "fnCutSize", inPlace := ["internal/bytealg.CountString", "internal/bytealg.IndexByteString", "internal/bytealg.IndexString"], unfollowed := true, recurses := true, named := ["unicode/utf8.first", "unicode/utf8.acceptRanges", "internal/bytealg.MaxLen"], apart := false, laid := [("unicode/utf8.acceptRanges", laid_unicode_utf8_acceptRanges), ("unicode/utf8.first", laid_unicode_utf8_first)], narrowed := true }
def FnCutSizeUptoSaid : Prop := fnCutSizeUptoRow.holds Tryd.pinned (OpenSpec.upto fnCutSizeSpec)

/-- 'laws.FnCutBytes', WHERE WHAT IT READS IS OF BULK AT MOST 1048576: true; the input reads as it did. -/
def fnCutBytesUptoRow : OpenClaim := { program := "ytolbkdcnmkmncaadoor", sum := "30446cfcf4277ad307d5d09d11bb578f29f12a8d13af0f7799d78a7f926fe63d", func := "loop.example/proxyframes/laws.FnCutBytes", spec := "fnCutBytes", inPlace := ["internal/bytealg.CountString", "internal/bytealg.IndexByteString", "internal/bytealg.IndexString"], unfollowed := true, recurses := true, named := ["unicode/utf8.first", "unicode/utf8.acceptRanges", "internal/bytealg.MaxLen"], apart := false, laid := [("unicode/utf8.acceptRanges", laid_unicode_utf8_acceptRanges), ("unicode/utf8.first", laid_unicode_utf8_first)], narrowed := true }
def FnCutBytesUptoSaid : Prop := fnCutBytesUptoRow.holds Tryd.pinned (OpenSpec.upto fnCutBytesSpec)

/-- 'laws.FnExactPacketCut', WHERE WHAT IT READS IS OF BULK AT MOST 1048576: true; the input reads as it did. -/
def fnExactPacketCutUptoRow : OpenClaim := { program := "ytolbkdcnmkmncaadoor", sum := "30446cfcf4277ad307d5d09d11bb578f29f12a8d13af0f7799d78a7f926fe63d", func := "loop.example/proxyframes/laws.FnExactPacketCut", spec := "fnExactPacketCut", inPlace := ["internal/bytealg.CountString", "internal/bytealg.IndexByteString", "internal/bytealg.IndexString"], unfollowed := true, recurses := true, named := ["unicode/utf8.first", "unicode/utf8.acceptRanges", "internal/bytealg.MaxLen"], apart := false, laid := [("unicode/utf8.acceptRanges", laid_unicode_utf8_acceptRanges), ("unicode/utf8.first", laid_unicode_utf8_first)], narrowed := true }
def FnExactPacketCutUptoSaid : Prop := fnExactPacketCutUptoRow.holds Tryd.pinned (OpenSpec.upto fnExactPacketCutSpec)

end Rows
end Go.Proofs.YtolbkdcnmkmncaaDoor

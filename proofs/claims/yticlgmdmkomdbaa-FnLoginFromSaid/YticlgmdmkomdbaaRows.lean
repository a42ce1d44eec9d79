/-
  No cell of these rows narrows 'for every input' (looked for: loops, veiled, ifaces, maps, wideKeys, modest, calm, conditions, laid).
  DERIVED. THE GIVEN ROWS OF THIS SEAT. 21 by the template 'for every input the law returns true; each argument reads behind the call as it read before'; 0 by the template 'total and deterministic' (their statements: YticlgmdmkomdbaaTotals.lean).
  GIVEN WITH THE SEED: the statements are not yours to turn. If you find one false, say at which input.
  Laid BY PROGRAM, IN A SANDBOX (cutbox-rows.mjs): the forced cells as the released guide's own fill.sh prints them over the translation 4ef9ee194bcc7af0… (all of the seat's roots in one cut). By AI agents, Wed Nov 11 2026. No macro, syntax, notation, axiom, sorry.
-/
import Derived.Test.YticlgmdmkomdbaaChecked
import GoSem.Claim
import GoSem.ClaimJoined
import GoSem.ClaimMapViews
import Derived.JoinedTies
import Derived.KernelRfl
namespace Go.Proofs.Yticlgmdmkomdbaa
/- THE CELL 'sum', in the pinned program and in every row, IS THE sha256 OF THE DUMP (.gsa) THAT YticlgmdmkomdbaaProg.lean LOADS. Nothing in Lean hashes anything: it is a label: what it is worth is what the hold of that sum in a sandbox is worth. -/
noncomputable def Try.pinned : Pinned := { name := "yticlgmdmkomdbaa", sum := "4ef9ee194bcc7af0ad73659227c7ac3901c464133da0794f4e9eb37c34350358", checked := Try.checked }
namespace Rows
def none {H : Type} : Left H := { results := [], args := [] }

/-- 'laws.FnExactLoginReply': WHATEVER THE INPUT: true; the input reads as it did. -/
def fnExactLoginReplySpec : ChangeSpec := { name := "fnExactLoginReply", fn := fun _ => fun
  | [d] => { results := [.lit (.bool true)], args := [d] }
  | _ => none }
def fnExactLoginReplyRow : OpenClaim := { program := "yticlgmdmkomdbaa", sum := "4ef9ee194bcc7af0ad73659227c7ac3901c464133da0794f4e9eb37c34350358", func := "loop.example/proxyframes/laws.FnExactLoginReply", spec := "fnExactLoginReply", apart := false }
def FnExactLoginReplySaid : Prop := fnExactLoginReplyRow.holds Try.pinned (OpenSpec.ofChange fnExactLoginReplySpec)

/-- ITS FALSE NEIGHBOUR: 'it returns false'. Refute it at one input. -/
def fnExactLoginReplyWrong : ChangeSpec := { name := "fnExactLoginReply", fn := fun _ => fun
  | [d] => { results := [.lit (.bool false)], args := [d] }
  | _ => none }
def FnExactLoginReplyWrongFalsely : Prop := fnExactLoginReplyRow.holds Try.pinned (OpenSpec.ofChange fnExactLoginReplyWrong)

/-- 'laws.FnLoginReply': WHATEVER THE INPUT: true; the input reads as it did. -/
def fnLoginReplySpec : ChangeSpec := { name := "fnLoginReply", fn := fun _ => fun
  | [d] => { results := [.lit (.bool true)], args := [d] }
  | _ => none }
def fnLoginReplyRow : OpenClaim := { program := "yticlgmdmkomdbaa", sum := "4ef9ee194bcc7af0ad73659227c7ac3901c464133da0794f4e9eb37c34350358", func := "loop.example/proxyframes/laws.FnLoginReply", spec := "fnLoginReply", apart := false }
def FnLoginReplySaid : Prop := fnLoginReplyRow.holds Try.pinned (OpenSpec.ofChange fnLoginReplySpec)

/-- ITS FALSE NEIGHBOUR: 'it returns false'. Refute it at one input. -/
def fnLoginReplyWrong : ChangeSpec := { name := "fnLoginReply", fn := fun _ => fun
  | [d] => { results := [.lit (.bool false)], args := [d] }
  | _ => none }
def FnLoginReplyWrongFalsely : Prop := fnLoginReplyRow.holds Try.pinned (OpenSpec.ofChange fnLoginReplyWrong)

/-- 'laws.FnLoginFitsMore': WHATEVER THE INPUT: true; the input reads as it did. -/
def fnLoginFitsMoreSpec : ChangeSpec := { name := "fnLoginFitsMore", fn := fun _ => fun
  | [d] => { results := [.lit (.bool true)], args := [d] }
  | _ => none }
def fnLoginFitsMoreRow : OpenClaim := { program := "yticlgmdmkomdbaa", sum := "4ef9ee194bcc7af0ad73659227c7ac3901c464133da0794f4e9eb37c34350358", func := "loop.example/proxyframes/laws.FnLoginFitsMore", spec := "fnLoginFitsMore", inPlace := ["internal/bytealg.IndexByteString"], apart := false }
def FnLoginFitsMoreSaid : Prop := fnLoginFitsMoreRow.holds Try.pinned (OpenSpec.ofChange fnLoginFitsMoreSpec)

/-- ITS FALSE NEIGHBOUR: 'it returns false'. Refute it at one input. -/
def fnLoginFitsMoreWrong : ChangeSpec := { name := "fnLoginFitsMore", fn := fun _ => fun
  | [d] => { results := [.lit (.bool false)], args := [d] }
  | _ => none }
def FnLoginFitsMoreWrongFalsely : Prop := fnLoginFitsMoreRow.holds Try.pinned (OpenSpec.ofChange fnLoginFitsMoreWrong)

/-- 'laws.FnHelloPick': WHATEVER THE INPUT: true; the input reads as it did. -/
def fnHelloPickSpec : ChangeSpec := { name := "fnHelloPick", fn := fun _ => fun
  | [d] => { results := [.lit (.bool true)], args := [d] }
  | _ => none }
def fnHelloPickRow : OpenClaim := { program := "yticlgmdmkomdbaa", sum := "4ef9ee194bcc7af0ad73659227c7ac3901c464133da0794f4e9eb37c34350358", func := "loop.example/proxyframes/laws.FnHelloPick", spec := "fnHelloPick", apart := false }
def FnHelloPickSaid : Prop := fnHelloPickRow.holds Try.pinned (OpenSpec.ofChange fnHelloPickSpec)

/-- ITS FALSE NEIGHBOUR: 'it returns false'. Refute it at one input. -/
def fnHelloPickWrong : ChangeSpec := { name := "fnHelloPick", fn := fun _ => fun
  | [d] => { results := [.lit (.bool false)], args := [d] }
  | _ => none }
def FnHelloPickWrongFalsely : Prop := fnHelloPickRow.holds Try.pinned (OpenSpec.ofChange fnHelloPickWrong)

/-- 'laws.FnHelloPickSelf': WHATEVER THE INPUT: true; the input reads as it did. -/
def fnHelloPickSelfSpec : ChangeSpec := { name := "fnHelloPickSelf", fn := fun _ => fun
  | [d] => { results := [.lit (.bool true)], args := [d] }
  | _ => none }
def fnHelloPickSelfRow : OpenClaim := { program := "yticlgmdmkomdbaa", sum := "4ef9ee194bcc7af0ad73659227c7ac3901c464133da0794f4e9eb37c34350358", func := "loop.example/proxyframes/laws.FnHelloPickSelf", spec := "fnHelloPickSelf", apart := false }
def FnHelloPickSelfSaid : Prop := fnHelloPickSelfRow.holds Try.pinned (OpenSpec.ofChange fnHelloPickSelfSpec)

/-- ITS FALSE NEIGHBOUR: 'it returns false'. Refute it at one input. -/
def fnHelloPickSelfWrong : ChangeSpec := { name := "fnHelloPickSelf", fn := fun _ => fun
  | [d] => { results := [.lit (.bool false)], args := [d] }
  | _ => none }
def FnHelloPickSelfWrongFalsely : Prop := fnHelloPickSelfRow.holds Try.pinned (OpenSpec.ofChange fnHelloPickSelfWrong)

/-- 'laws.FnPick': WHATEVER THE INPUT: true; the input reads as it did. -/
def fnPickSpec : ChangeSpec := { name := "fnPick", fn := fun _ => fun
  | [d] => { results := [.lit (.bool true)], args := [d] }
  | _ => none }
def fnPickRow : OpenClaim := { program := "yticlgmdmkomdbaa", sum := "4ef9ee194bcc7af0ad73659227c7ac3901c464133da0794f4e9eb37c34350358", func := "loop.example/proxyframes/laws.FnPick", spec := "fnPick", unfollowed := true, recurses := true, apart := false }
def FnPickSaid : Prop := fnPickRow.holds Try.pinned (OpenSpec.ofChange fnPickSpec)

/-- ITS FALSE NEIGHBOUR: 'it returns false'. Refute it at one input. -/
def fnPickWrong : ChangeSpec := { name := "fnPick", fn := fun _ => fun
  | [d] => { results := [.lit (.bool false)], args := [d] }
  | _ => none }
def FnPickWrongFalsely : Prop := fnPickRow.holds Try.pinned (OpenSpec.ofChange fnPickWrong)

/-- 'laws.FnExactLoginFits': WHATEVER THE INPUT: true; the input reads as it did. -/
def fnExactLoginFitsSpec : ChangeSpec := { name := "fnExactLoginFits", fn := fun _ => fun
  | [d1, d2] => { results := [.lit (.bool true)], args := [d1, d2] }
  | _ => none }
def fnExactLoginFitsRow : OpenClaim := { program := "yticlgmdmkomdbaa", sum := "4ef9ee194bcc7af0ad73659227c7ac3901c464133da0794f4e9eb37c34350358", func := "loop.example/proxyframes/laws.FnExactLoginFits", spec := "fnExactLoginFits", inPlace := ["internal/bytealg.IndexByteString"], apart := false }
def FnExactLoginFitsSaid : Prop := fnExactLoginFitsRow.holds Try.pinned (OpenSpec.ofChange fnExactLoginFitsSpec)

/-- ITS FALSE NEIGHBOUR: 'it returns false'. Refute it at one input. -/
def fnExactLoginFitsWrong : ChangeSpec := { name := "fnExactLoginFits", fn := fun _ => fun
  | [d1, d2] => { results := [.lit (.bool false)], args := [d1, d2] }
  | _ => none }
def FnExactLoginFitsWrongFalsely : Prop := fnExactLoginFitsRow.holds Try.pinned (OpenSpec.ofChange fnExactLoginFitsWrong)

/-- 'laws.FnHelloPickNo': WHATEVER THE INPUT: true; the input reads as it did. -/
def fnHelloPickNoSpec : ChangeSpec := { name := "fnHelloPickNo", fn := fun _ => fun
  | [d] => { results := [.lit (.bool true)], args := [d] }
  | _ => none }
def fnHelloPickNoRow : OpenClaim := { program := "yticlgmdmkomdbaa", sum := "4ef9ee194bcc7af0ad73659227c7ac3901c464133da0794f4e9eb37c34350358", func := "loop.example/proxyframes/laws.FnHelloPickNo", spec := "fnHelloPickNo", apart := false }
def FnHelloPickNoSaid : Prop := fnHelloPickNoRow.holds Try.pinned (OpenSpec.ofChange fnHelloPickNoSpec)

/-- ITS FALSE NEIGHBOUR: 'it returns false'. Refute it at one input. -/
def fnHelloPickNoWrong : ChangeSpec := { name := "fnHelloPickNo", fn := fun _ => fun
  | [d] => { results := [.lit (.bool false)], args := [d] }
  | _ => none }
def FnHelloPickNoWrongFalsely : Prop := fnHelloPickNoRow.holds Try.pinned (OpenSpec.ofChange fnHelloPickNoWrong)

/-- 'laws.FnLoginSize': WHATEVER THE INPUT: true; the input reads as it did. -/
def fnLoginSizeSpec : ChangeSpec := { name := "fnLoginSize", fn := fun _ => fun
  | [d] => { results := [.lit (.bool true)], args := [d] }
  | _ => none }
def fnLoginSizeRow : OpenClaim := { program := "yticlgmdmkomdbaa", sum := "4ef9ee194bcc7af0ad73659227c7ac3901c464133da0794f4e9eb37c34350358", func := "loop.example/proxyframes/laws.FnLoginSize", spec := "fnLoginSize", inPlace := ["internal/bytealg.IndexByteString"], apart := false }
def FnLoginSizeSaid : Prop := fnLoginSizeRow.holds Try.pinned (OpenSpec.ofChange fnLoginSizeSpec)

/-- ITS FALSE NEIGHBOUR: 'it returns false'. Refute it at one input. -/
def fnLoginSizeWrong : ChangeSpec := { name := "fnLoginSize", fn := fun _ => fun
  | [d] => { results := [.lit (.bool false)], args := [d] }
  | _ => none }
def FnLoginSizeWrongFalsely : Prop := fnLoginSizeRow.holds Try.pinned (OpenSpec.ofChange fnLoginSizeWrong)

/-- 'laws.FnExactLoginBytes': WHATEVER THE INPUT: true; the input reads as it did. -/
def fnExactLoginBytesSpec : ChangeSpec := { name := "fnExactLoginBytes", fn := fun _ => fun
  | [d] => { results := [.lit (.bool true)], args := [d] }
  | _ => none }
def fnExactLoginBytesRow : OpenClaim := { program := "yticlgmdmkomdbaa", sum := "4ef9ee194bcc7af0ad73659227c7ac3901c464133da0794f4e9eb37c34350358", func := "loop.example/proxyframes/laws.FnExactLoginBytes", spec := "fnExactLoginBytes", inPlace := ["internal/bytealg.IndexByteString"], apart := false }
def FnExactLoginBytesSaid : Prop := fnExactLoginBytesRow.holds Try.pinned (OpenSpec.ofChange fnExactLoginBytesSpec)

/-- ITS FALSE NEIGHBOUR: 'it returns false'. Refute it at one input. -/
def fnExactLoginBytesWrong : ChangeSpec := { name := "fnExactLoginBytes", fn := fun _ => fun
  | [d] => { results := [.lit (.bool false)], args := [d] }
  | _ => none }
def FnExactLoginBytesWrongFalsely : Prop := fnExactLoginBytesRow.holds Try.pinned (OpenSpec.ofChange fnExactLoginBytesWrong)

/-- 'laws.FnLoginFits': WHATEVER THE INPUT: true; the input reads as it did. -/
def fnLoginFitsSpec : ChangeSpec := { name := "fnLoginFits", fn := fun _ => fun
  | [d] => { results := [.lit (.bool true)], args := [d] }
  | _ => none }
def fnLoginFitsRow : OpenClaim := { program := "yticlgmdmkomdbaa", sum := "4ef9ee194bcc7af0ad73659227c7ac3901c464133da0794f4e9eb37c34350358", func := "loop.example/proxyframes/laws.FnLoginFits", spec := "fnLoginFits", inPlace := ["internal/bytealg.IndexByteString"], apart := false }
def FnLoginFitsSaid : Prop := fnLoginFitsRow.holds Try.pinned (OpenSpec.ofChange fnLoginFitsSpec)

/-- ITS FALSE NEIGHBOUR: 'it returns false'. Refute it at one input. -/
def fnLoginFitsWrong : ChangeSpec := { name := "fnLoginFits", fn := fun _ => fun
  | [d] => { results := [.lit (.bool false)], args := [d] }
  | _ => none }
def FnLoginFitsWrongFalsely : Prop := fnLoginFitsRow.holds Try.pinned (OpenSpec.ofChange fnLoginFitsWrong)

/-- 'laws.FnExactHelloFrom': WHATEVER THE INPUT: true; the input reads as it did. -/
def fnExactHelloFromSpec : ChangeSpec := { name := "fnExactHelloFrom", fn := fun _ => fun
  | [d] => { results := [.lit (.bool true)], args := [d] }
  | _ => none }
def fnExactHelloFromRow : OpenClaim := { program := "yticlgmdmkomdbaa", sum := "4ef9ee194bcc7af0ad73659227c7ac3901c464133da0794f4e9eb37c34350358", func := "loop.example/proxyframes/laws.FnExactHelloFrom", spec := "fnExactHelloFrom", unfollowed := true, recurses := true, apart := false }
def FnExactHelloFromSaid : Prop := fnExactHelloFromRow.holds Try.pinned (OpenSpec.ofChange fnExactHelloFromSpec)

/-- ITS FALSE NEIGHBOUR: 'it returns false'. Refute it at one input. -/
def fnExactHelloFromWrong : ChangeSpec := { name := "fnExactHelloFrom", fn := fun _ => fun
  | [d] => { results := [.lit (.bool false)], args := [d] }
  | _ => none }
def FnExactHelloFromWrongFalsely : Prop := fnExactHelloFromRow.holds Try.pinned (OpenSpec.ofChange fnExactHelloFromWrong)

/-- 'laws.FnPickFrom': WHATEVER THE INPUT: true; the input reads as it did. -/
def fnPickFromSpec : ChangeSpec := { name := "fnPickFrom", fn := fun _ => fun
  | [d] => { results := [.lit (.bool true)], args := [d] }
  | _ => none }
def fnPickFromRow : OpenClaim := { program := "yticlgmdmkomdbaa", sum := "4ef9ee194bcc7af0ad73659227c7ac3901c464133da0794f4e9eb37c34350358", func := "loop.example/proxyframes/laws.FnPickFrom", spec := "fnPickFrom", unfollowed := true, recurses := true, apart := false }
def FnPickFromSaid : Prop := fnPickFromRow.holds Try.pinned (OpenSpec.ofChange fnPickFromSpec)

/-- ITS FALSE NEIGHBOUR: 'it returns false'. Refute it at one input. -/
def fnPickFromWrong : ChangeSpec := { name := "fnPickFrom", fn := fun _ => fun
  | [d] => { results := [.lit (.bool false)], args := [d] }
  | _ => none }
def FnPickFromWrongFalsely : Prop := fnPickFromRow.holds Try.pinned (OpenSpec.ofChange fnPickFromWrong)

/-- 'laws.FnHello': WHATEVER THE INPUT: true; the input reads as it did. -/
def fnHelloSpec : ChangeSpec := { name := "fnHello", fn := fun _ => fun
  | [d] => { results := [.lit (.bool true)], args := [d] }
  | _ => none }
def fnHelloRow : OpenClaim := { program := "yticlgmdmkomdbaa", sum := "4ef9ee194bcc7af0ad73659227c7ac3901c464133da0794f4e9eb37c34350358", func := "loop.example/proxyframes/laws.FnHello", spec := "fnHello", unfollowed := true, recurses := true, apart := false }
def FnHelloSaid : Prop := fnHelloRow.holds Try.pinned (OpenSpec.ofChange fnHelloSpec)

/-- ITS FALSE NEIGHBOUR: 'it returns false'. Refute it at one input. -/
def fnHelloWrong : ChangeSpec := { name := "fnHello", fn := fun _ => fun
  | [d] => { results := [.lit (.bool false)], args := [d] }
  | _ => none }
def FnHelloWrongFalsely : Prop := fnHelloRow.holds Try.pinned (OpenSpec.ofChange fnHelloWrong)

/-- 'laws.FnHelloCut': WHATEVER THE INPUT: true; the input reads as it did. -/
def fnHelloCutSpec : ChangeSpec := { name := "fnHelloCut", fn := fun _ => fun
  | [d1, d2] => { results := [.lit (.bool true)], args := [d1, d2] }
  | _ => none }
def fnHelloCutRow : OpenClaim := { program := "yticlgmdmkomdbaa", sum := "4ef9ee194bcc7af0ad73659227c7ac3901c464133da0794f4e9eb37c34350358", func := "loop.example/proxyframes/laws.FnHelloCut", spec := "fnHelloCut", unfollowed := true, recurses := true, apart := false }
def FnHelloCutSaid : Prop := fnHelloCutRow.holds Try.pinned (OpenSpec.ofChange fnHelloCutSpec)

/-- ITS FALSE NEIGHBOUR: 'it returns false'. Refute it at one input. -/
def fnHelloCutWrong : ChangeSpec := { name := "fnHelloCut", fn := fun _ => fun
  | [d1, d2] => { results := [.lit (.bool false)], args := [d1, d2] }
  | _ => none }
def FnHelloCutWrongFalsely : Prop := fnHelloCutRow.holds Try.pinned (OpenSpec.ofChange fnHelloCutWrong)

/-- 'laws.FnExactLoginFrom': WHATEVER THE INPUT: true; the input reads as it did. -/
def fnExactLoginFromSpec : ChangeSpec := { name := "fnExactLoginFrom", fn := fun _ => fun
  | [d] => { results := [.lit (.bool true)], args := [d] }
  | _ => none }
def fnExactLoginFromRow : OpenClaim := { program := "yticlgmdmkomdbaa", sum := "4ef9ee194bcc7af0ad73659227c7ac3901c464133da0794f4e9eb37c34350358", func := "loop.example/proxyframes/laws.FnExactLoginFrom", spec := "fnExactLoginFrom", inPlace := ["internal/bytealg.IndexByteString"], unfollowed := true, recurses := true, apart := false }
def FnExactLoginFromSaid : Prop := fnExactLoginFromRow.holds Try.pinned (OpenSpec.ofChange fnExactLoginFromSpec)

/-- ITS FALSE NEIGHBOUR: 'it returns false'. Refute it at one input. -/
def fnExactLoginFromWrong : ChangeSpec := { name := "fnExactLoginFrom", fn := fun _ => fun
  | [d] => { results := [.lit (.bool false)], args := [d] }
  | _ => none }
def FnExactLoginFromWrongFalsely : Prop := fnExactLoginFromRow.holds Try.pinned (OpenSpec.ofChange fnExactLoginFromWrong)

/-- 'laws.FnLogin': WHATEVER THE INPUT: true; the input reads as it did. -/
def fnLoginSpec : ChangeSpec := { name := "fnLogin", fn := fun _ => fun
  | [d] => { results := [.lit (.bool true)], args := [d] }
  | _ => none }
def fnLoginRow : OpenClaim := { program := "yticlgmdmkomdbaa", sum := "4ef9ee194bcc7af0ad73659227c7ac3901c464133da0794f4e9eb37c34350358", func := "loop.example/proxyframes/laws.FnLogin", spec := "fnLogin", inPlace := ["internal/bytealg.IndexByteString"], unfollowed := true, recurses := true, apart := false }
def FnLoginSaid : Prop := fnLoginRow.holds Try.pinned (OpenSpec.ofChange fnLoginSpec)

/-- ITS FALSE NEIGHBOUR: 'it returns false'. Refute it at one input. -/
def fnLoginWrong : ChangeSpec := { name := "fnLogin", fn := fun _ => fun
  | [d] => { results := [.lit (.bool false)], args := [d] }
  | _ => none }
def FnLoginWrongFalsely : Prop := fnLoginRow.holds Try.pinned (OpenSpec.ofChange fnLoginWrong)

/-- 'laws.FnLoginCut': WHATEVER THE INPUT: true; the input reads as it did. -/
def fnLoginCutSpec : ChangeSpec := { name := "fnLoginCut", fn := fun _ => fun
  | [d1, d2] => { results := [.lit (.bool true)], args := [d1, d2] }
  | _ => none }
def fnLoginCutRow : OpenClaim := { program := "yticlgmdmkomdbaa", sum := "4ef9ee194bcc7af0ad73659227c7ac3901c464133da0794f4e9eb37c34350358", func := "loop.example/proxyframes/laws.FnLoginCut", spec := "fnLoginCut", inPlace := ["internal/bytealg.IndexByteString"], unfollowed := true, recurses := true, apart := false }
def FnLoginCutSaid : Prop := fnLoginCutRow.holds Try.pinned (OpenSpec.ofChange fnLoginCutSpec)

/-- ITS FALSE NEIGHBOUR: 'it returns false'. Refute it at one input. -/
def fnLoginCutWrong : ChangeSpec := { name := "fnLoginCut", fn := fun _ => fun
  | [d1, d2] => { results := [.lit (.bool false)], args := [d1, d2] }
  | _ => none }
def FnLoginCutWrongFalsely : Prop := fnLoginCutRow.holds Try.pinned (OpenSpec.ofChange fnLoginCutWrong)

/-- 'laws.FnLoginVersion': WHATEVER THE INPUT: true; the input reads as it did. -/
def fnLoginVersionSpec : ChangeSpec := { name := "fnLoginVersion", fn := fun _ => fun
  | [d] => { results := [.lit (.bool true)], args := [d] }
  | _ => none }
def fnLoginVersionRow : OpenClaim := { program := "yticlgmdmkomdbaa", sum := "4ef9ee194bcc7af0ad73659227c7ac3901c464133da0794f4e9eb37c34350358", func := "loop.example/proxyframes/laws.FnLoginVersion", spec := "fnLoginVersion", inPlace := ["internal/bytealg.IndexByteString"], unfollowed := true, recurses := true, apart := false }
def FnLoginVersionSaid : Prop := fnLoginVersionRow.holds Try.pinned (OpenSpec.ofChange fnLoginVersionSpec)

/-- ITS FALSE NEIGHBOUR: 'it returns false'. Refute it at one input. -/
def fnLoginVersionWrong : ChangeSpec := { name := "fnLoginVersion", fn := fun _ => fun
  | [d] => { results := [.lit (.bool false)], args := [d] }
  | _ => none }
def FnLoginVersionWrongFalsely : Prop := fnLoginVersionRow.holds Try.pinned (OpenSpec.ofChange fnLoginVersionWrong)

/-- 'laws.FnHelloFrom': WHATEVER THE INPUT: true; the input reads as it did. -/
def fnHelloFromSpec : ChangeSpec := { name := "fnHelloFrom", fn := fun _ => fun
  | [d] => { results := [.lit (.bool true)], args := [d] }
  | _ => none }
def fnHelloFromRow : OpenClaim := { program := "yticlgmdmkomdbaa", sum := "4ef9ee194bcc7af0ad73659227c7ac3901c464133da0794f4e9eb37c34350358", func := "loop.example/proxyframes/laws.FnHelloFrom", spec := "fnHelloFrom", unfollowed := true, recurses := true, apart := false }
def FnHelloFromSaid : Prop := fnHelloFromRow.holds Try.pinned (OpenSpec.ofChange fnHelloFromSpec)

/-- ITS FALSE NEIGHBOUR: 'it returns false'. Refute it at one input. -/
def fnHelloFromWrong : ChangeSpec := { name := "fnHelloFrom", fn := fun _ => fun
  | [d] => { results := [.lit (.bool false)], args := [d] }
  | _ => none }
def FnHelloFromWrongFalsely : Prop := fnHelloFromRow.holds Try.pinned (OpenSpec.ofChange fnHelloFromWrong)

/-- 'laws.FnLoginFrom': WHATEVER THE INPUT: true; the input reads as it did. -/
def fnLoginFromSpec : ChangeSpec := { name := "fnLoginFrom", fn := fun _ => fun
  | [d] => { results := [.lit (.bool true)], args := [d] }
  | _ => none }
def fnLoginFromRow : OpenClaim := { program := "yticlgmdmkomdbaa", sum := "4ef9ee194bcc7af0ad73659227c7ac3901c464133da0794f4e9eb37c34350358", func := "loop.example/proxyframes/laws.FnLoginFrom", spec := "fnLoginFrom", inPlace := ["internal/bytealg.IndexByteString"], unfollowed := true, recurses := true, apart := false }
def FnLoginFromSaid : Prop := fnLoginFromRow.holds Try.pinned (OpenSpec.ofChange fnLoginFromSpec)

/-- ITS FALSE NEIGHBOUR: 'it returns false'. Refute it at one input. -/
def fnLoginFromWrong : ChangeSpec := { name := "fnLoginFrom", fn := fun _ => fun
  | [d] => { results := [.lit (.bool false)], args := [d] }
  | _ => none }
def FnLoginFromWrongFalsely : Prop := fnLoginFromRow.holds Try.pinned (OpenSpec.ofChange fnLoginFromWrong)

/- THE SECOND FORM. 'bulk': how many values and letters a reading holds, each counted each time it is reached (what is shared counts as often as it is met; a slice's spare places count too). A statement '..UptoSaid' is the law's where the arguments, and the package variables that the reading takes, are together of bulk at most 1048576: NARROWER than '..Said'. Prove '..Said' where nothing that the law and all that it calls make is longer than what came in: it says more and counts as full. Else prove '..UptoSaid'. A law counts once. -/
mutual
def uptoBulk {H : Type} : DataW H → Nat
  | .lit (.string bytes) => bytes.length + 1
  | .lit _ => 1
  | .nil => 1
  | .ptr d => uptoBulk d + 1
  | .slice elems spare => uptoBulkAll elems + uptoBulkAll spare + 1
  | .agg parts => uptoBulkAll parts + 1
  | .iface _ d => uptoBulk d + 1
  | .map entries => uptoBulkEntries entries + 1
  | .held _ => 1
def uptoBulkAll {H : Type} : List (DataW H) → Nat
  | [] => 0
  | d :: r => uptoBulk d + uptoBulkAll r
def uptoBulkEntries {H : Type} : List (Lit × DataW H) → Nat
  | [] => 0
  | x :: r => uptoBulkEntry x + uptoBulkEntries r
def uptoBulkEntry {H : Type} : Lit × DataW H → Nat
  | (.string bytes, d) => bytes.length + uptoBulk d + 1
  | (_, d) => uptoBulk d + 1
 end
def uptoSmall : (H : Type) → List (DataW H) → Bool := fun _ ds => decide (uptoBulkAll ds ≤ 1048576)
def OpenSpec.upto (s : _root_.Go.ChangeSpec) : _root_.Go.OpenSpec := { _root_.Go.OpenSpec.ofChange s with cond := some uptoSmall }

/-- 'laws.FnExactLoginReply', WHERE WHAT IT READS IS OF BULK AT MOST 1048576: true; the input reads as it did. -/
def fnExactLoginReplyUptoRow : OpenClaim := { program := "yticlgmdmkomdbaa", sum := "4ef9ee194bcc7af0ad73659227c7ac3901c464133da0794f4e9eb37c34350358", func := "loop.example/proxyframes/laws.FnExactLoginReply", spec := "fnExactLoginReply", apart := false, narrowed := true }
def FnExactLoginReplyUptoSaid : Prop := fnExactLoginReplyUptoRow.holds Try.pinned (OpenSpec.upto fnExactLoginReplySpec)

/-- 'laws.FnLoginReply', WHERE WHAT IT READS IS OF BULK AT MOST 1048576: true; the input reads as it did. -/
def fnLoginReplyUptoRow : OpenClaim := { program := "yticlgmdmkomdbaa", sum := "4ef9ee194bcc7af0ad73659227c7ac3901c464133da0794f4e9eb37c34350358", func := "loop.example/proxyframes/laws.FnLoginReply", spec := "fnLoginReply", apart := false, narrowed := true }
def FnLoginReplyUptoSaid : Prop := fnLoginReplyUptoRow.holds Try.pinned (OpenSpec.upto fnLoginReplySpec)

/-- 'laws.FnLoginFitsMore', WHERE WHAT IT READS IS OF BULK AT MOST 1048576: true; the input reads as it did. -/
def fnLoginFitsMoreUptoRow : OpenClaim := { program := "yticlgmdmkomdbaa", sum := "4ef9ee194bcc7af0ad73659227c7ac3901c464133da0794f4e9eb37c34350358", func := "loop.example/proxyframes/laws.FnLoginFitsMore", spec := "fnLoginFitsMore", inPlace := ["internal/bytealg.IndexByteString"], apart := false, narrowed := true }
def FnLoginFitsMoreUptoSaid : Prop := fnLoginFitsMoreUptoRow.holds Try.pinned (OpenSpec.upto fnLoginFitsMoreSpec)

/-- 'laws.FnHelloPick', WHERE WHAT IT READS IS OF BULK AT MOST 1048576: true; the input reads as it did. -/
def fnHelloPickUptoRow : OpenClaim := { program := "yticlgmdmkomdbaa", sum := "4ef9ee194bcc7af0ad73659227c7ac3901c464133da0794f4e9eb37c34350358", func := "loop.example/proxyframes/laws.FnHelloPick", spec := "fnHelloPick", apart := false, narrowed := true }
def FnHelloPickUptoSaid : Prop := fnHelloPickUptoRow.holds Try.pinned (OpenSpec.upto fnHelloPickSpec)

/-- 'laws.FnHelloPickSelf', WHERE WHAT IT READS IS OF BULK AT MOST 1048576: true; the input reads as it did. -/
def fnHelloPickSelfUptoRow : OpenClaim := { program := "yticlgmdmkomdbaa", sum := "4ef9ee194bcc7af0ad73659227c7ac3901c464133da0794f4e9eb37c34350358", func := "loop.example/proxyframes/laws.FnHelloPickSelf", spec := "fnHelloPickSelf", apart := false, narrowed := true }
def FnHelloPickSelfUptoSaid : Prop := fnHelloPickSelfUptoRow.holds Try.pinned (OpenSpec.upto fnHelloPickSelfSpec)

/-- 'laws.FnPick', WHERE WHAT IT READS IS OF BULK AT MOST 1048576: true; the input reads as it did. -/
def fnPickUptoRow : OpenClaim := { program := "yticlgmdmkomdbaa", sum := "4ef9ee194bcc7af0ad73659227c7ac3901c464133da0794f4e9eb37c34350358", func := "loop.example/proxyframes/laws.FnPick", spec := "fnPick", unfollowed := true, recurses := true, apart := false, narrowed := true }
def FnPickUptoSaid : Prop := fnPickUptoRow.holds Try.pinned (OpenSpec.upto fnPickSpec)

/-- 'laws.FnExactLoginFits', WHERE WHAT IT READS IS OF BULK AT MOST 1048576: true; the input reads as it did. -/
def fnExactLoginFitsUptoRow : OpenClaim := { program := "yticlgmdmkomdbaa", sum := "4ef9ee194bcc7af0ad73659227c7ac3901c464133da0794f4e9eb37c34350358", func := "loop.example/proxyframes/laws.FnExactLoginFits", spec := "fnExactLoginFits", inPlace := ["internal/bytealg.IndexByteString"], apart := false, narrowed := true }
def FnExactLoginFitsUptoSaid : Prop := fnExactLoginFitsUptoRow.holds Try.pinned (OpenSpec.upto fnExactLoginFitsSpec)

/-- 'laws.FnHelloPickNo', WHERE WHAT IT READS IS OF BULK AT MOST 1048576: true; the input reads as it did. -/
def fnHelloPickNoUptoRow : OpenClaim := { program := "yticlgmdmkomdbaa", sum := "4ef9ee194bcc7af0ad73659227c7ac3901c464133da0794f4e9eb37c34350358", func := "loop.example/proxyframes/laws.FnHelloPickNo", spec := "fnHelloPickNo", apart := false, narrowed := true }
def FnHelloPickNoUptoSaid : Prop := fnHelloPickNoUptoRow.holds Try.pinned (OpenSpec.upto fnHelloPickNoSpec)

/-- 'laws.FnLoginSize', WHERE WHAT IT READS IS OF BULK AT MOST 1048576: true; the input reads as it did. -/
def fnLoginSizeUptoRow : OpenClaim := { program := "yticlgmdmkomdbaa", sum := "4ef9ee194bcc7af0ad73659227c7ac3901c464133da0794f4e9eb37c34350358", func := "loop.example/proxyframes/laws.FnLoginSize", spec := "fnLoginSize", inPlace := ["internal/bytealg.IndexByteString"], apart := false, narrowed := true }
def FnLoginSizeUptoSaid : Prop := fnLoginSizeUptoRow.holds Try.pinned (OpenSpec.upto fnLoginSizeSpec)

/-- 'laws.FnExactLoginBytes', WHERE WHAT IT READS IS OF BULK AT MOST 1048576: true; the input reads as it did. -/
def fnExactLoginBytesUptoRow : OpenClaim := { program := "yticlgmdmkomdbaa", sum := "4ef9ee194bcc7af0ad73659227c7ac3901c464133da0794f4e9eb37c34350358", func := "loop.example/proxyframes/laws.FnExactLoginBytes", spec := "fnExactLoginBytes", inPlace := ["internal/bytealg.IndexByteString"], apart := false, narrowed := true }
def FnExactLoginBytesUptoSaid : Prop := fnExactLoginBytesUptoRow.holds Try.pinned (OpenSpec.upto fnExactLoginBytesSpec)

/-- 'laws.FnLoginFits', WHERE WHAT IT READS IS OF BULK AT MOST 1048576: true; the input reads as it did. -/
def fnLoginFitsUptoRow : OpenClaim := { program := "yticlgmdmkomdbaa", sum := "4ef9ee194bcc7af0ad73659227c7ac3901c464133da0794f4e9eb37c34350358", func := "loop.example/proxyframes/laws.FnLoginFits", spec := "fnLoginFits", inPlace := ["internal/bytealg.IndexByteString"], apart := false, narrowed := true }
def FnLoginFitsUptoSaid : Prop := fnLoginFitsUptoRow.holds Try.pinned (OpenSpec.upto fnLoginFitsSpec)

/-- 'laws.FnExactHelloFrom', WHERE WHAT IT READS IS OF BULK AT MOST 1048576: true; the input reads as it did. -/
def fnExactHelloFromUptoRow : OpenClaim := { program := "yticlgmdmkomdbaa", sum := "4ef9ee194bcc7af0ad73659227c7ac3901c464133da0794f4e9eb37c34350358", func := "loop.example/proxyframes/laws.FnExactHelloFrom", spec := "fnExactHelloFrom", unfollowed := true, recurses := true, apart := false, narrowed := true }
def FnExactHelloFromUptoSaid : Prop := fnExactHelloFromUptoRow.holds Try.pinned (OpenSpec.upto fnExactHelloFromSpec)

/-- 'laws.FnPickFrom', WHERE WHAT IT READS IS OF BULK AT MOST 1048576: true; the input reads as it did. -/
def fnPickFromUptoRow : OpenClaim := { program := "yticlgmdmkomdbaa", sum := "4ef9ee194bcc7af0ad73659227c7ac3901c464133da0794f4e9eb37c34350358", func := "loop.example/proxyframes/laws.FnPickFrom", spec := "fnPickFrom", unfollowed := true, recurses := true, apart := false, narrowed := true }
def FnPickFromUptoSaid : Prop := fnPickFromUptoRow.holds Try.pinned (OpenSpec.upto fnPickFromSpec)

/-- 'laws.FnHello', WHERE WHAT IT READS IS OF BULK AT MOST 1048576: true; the input reads as it did. -/
def fnHelloUptoRow : OpenClaim := { program := "yticlgmdmkomdbaa", sum := "4ef9ee194bcc7af0ad73659227c7ac3901c464133da0794f4e9eb37c34350358", func := "loop.example/proxyframes/laws.FnHello", spec := "fnHello", unfollowed := true, recurses := true, apart := false, narrowed := true }
def FnHelloUptoSaid : Prop := fnHelloUptoRow.holds Try.pinned (OpenSpec.upto fnHelloSpec)

/-- 'laws.FnHelloCut', WHERE WHAT IT READS IS OF BULK AT MOST 1048576: true; the input reads as it did. -/
def fnHelloCutUptoRow : OpenClaim := { program := "yticlgmdmkomdbaa", sum := "4ef9ee194bcc7af0ad73659227c7ac3901c464133da0794f4e9eb37c34350358", func := "loop.example/proxyframes/laws.FnHelloCut", spec := "fnHelloCut", unfollowed := true, recurses := true, apart := false, narrowed := true }
def FnHelloCutUptoSaid : Prop := fnHelloCutUptoRow.holds Try.pinned (OpenSpec.upto fnHelloCutSpec)

/-- 'laws.FnExactLoginFrom', WHERE WHAT IT READS IS OF BULK AT MOST 1048576: true; the input reads as it did. -/
def fnExactLoginFromUptoRow : OpenClaim := { program := "yticlgmdmkomdbaa", sum := "4ef9ee194bcc7af0ad73659227c7ac3901c464133da0794f4e9eb37c34350358", func := "loop.example/proxyframes/laws.FnExactLoginFrom", spec := "fnExactLoginFrom", inPlace := ["internal/bytealg.IndexByteString"], unfollowed := true, recurses := true, apart := false, narrowed := true }
def FnExactLoginFromUptoSaid : Prop := fnExactLoginFromUptoRow.holds Try.pinned (OpenSpec.upto fnExactLoginFromSpec)

/-- 'laws.FnLogin', WHERE WHAT IT READS IS OF BULK AT MOST 1048576: true; the input reads as it did. -/
def fnLoginUptoRow : OpenClaim := { program := "yticlgmdmkomdbaa", sum := "4ef9ee194bcc7af0ad73659227c7ac3901c464133da0794f4e9eb37c34350358", func := "loop.example/proxyframes/laws.FnLogin", spec := "fnLogin", inPlace := ["internal/bytealg.IndexByteString"], unfollowed := true, recurses := true, apart := false, narrowed := true }
def FnLoginUptoSaid : Prop := fnLoginUptoRow.holds Try.pinned (OpenSpec.upto fnLoginSpec)

/-- 'laws.FnLoginCut', WHERE WHAT IT READS IS OF BULK AT MOST 1048576: true; the input reads as it did. -/
def fnLoginCutUptoRow : OpenClaim := { program := "yticlgmdmkomdbaa", sum := "4ef9ee194bcc7af0ad73659227c7ac3901c464133da0794f4e9eb37c34350358", func := "loop.example/proxyframes/laws.FnLoginCut", spec := "fnLoginCut", inPlace := ["internal/bytealg.IndexByteString"], unfollowed := true, recurses := true, apart := false, narrowed := true }
def FnLoginCutUptoSaid : Prop := fnLoginCutUptoRow.holds Try.pinned (OpenSpec.upto fnLoginCutSpec)

/-- 'laws.FnLoginVersion', WHERE WHAT IT READS IS OF BULK AT MOST 1048576: true; the input reads as it did. -/
def fnLoginVersionUptoRow : OpenClaim := { program := "yticlgmdmkomdbaa", sum := "4ef9ee194bcc7af0ad73659227c7ac3901c464133da0794f4e9eb37c34350358", func := "loop.example/proxyframes/laws.FnLoginVersion", spec := "fnLoginVersion", inPlace := ["internal/bytealg.IndexByteString"], unfollowed := true, recurses := true, apart := false, narrowed := true }
def FnLoginVersionUptoSaid : Prop := fnLoginVersionUptoRow.holds Try.pinned (OpenSpec.upto fnLoginVersionSpec)

/-- 'laws.FnHelloFrom', WHERE WHAT IT READS IS OF BULK AT MOST 1048576: true; the input reads as it did. -/
def fnHelloFromUptoRow : OpenClaim := { program := "yticlgmdmkomdbaa", sum := "4ef9ee194bcc7af0ad73659227c7ac3901c464133da0794f4e9eb37c34350358", func := "loop.example/proxyframes/laws.FnHelloFrom", spec := "fnHelloFrom", unfollowed := true, recurses := true, apart := false, narrowed := true }
def FnHelloFromUptoSaid : Prop := fnHelloFromUptoRow.holds Try.pinned (OpenSpec.upto fnHelloFromSpec)

/-- 'laws.FnLoginFrom', WHERE WHAT IT READS IS OF BULK AT MOST 1048576: true; the input reads as it did. -/
def fnLoginFromUptoRow : OpenClaim := { program := "yticlgmdmkomdbaa", sum := "4ef9ee194bcc7af0ad73659227c7ac3901c464133da0794f4e9eb37c34350358", func := "loop.example/proxyframes/laws.FnLoginFrom", spec := "fnLoginFrom", inPlace := ["internal/bytealg.IndexByteString"], unfollowed := true, recurses := true, apart := false, narrowed := true }
def FnLoginFromUptoSaid : Prop := fnLoginFromUptoRow.holds Try.pinned (OpenSpec.upto fnLoginFromSpec)

end Rows
end Go.Proofs.Yticlgmdmkomdbaa

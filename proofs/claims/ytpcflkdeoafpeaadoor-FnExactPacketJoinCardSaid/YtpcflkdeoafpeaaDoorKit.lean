/-
  The closed facts about the whole program that every statement's last step asks, each proved once; those that speak of the translation's head go by its first three words alone. Conditions: none.
-/
import Derived.Test.YtpcflkdeoafpeaaDoorRows
import Derived.Test.YtpcflkdeoafpeaaDoorBase
import Derived.OpenShut
import Derived.ShutString
import Derived.ChangeOld
namespace Go.Proofs.YtpcflkdeoafpeaaDoor
open Go.ChangeShapes Go.WideShapes Go.ChangeAt Go.RowKit

theorem Tryd.own : ownKnob Tryd.prog.godebug = none := by kernel_rfl
theorem Tryd.laidOut : laidOutB Tryd.prog = true := by kernel_rfl

/-- The head's beginning, and the rest. -/
def headPre : List Char := List.map Char.ofNat [104, 97, 114, 110, 101, 115, 115, 32, 51, 97, 56, 54, 52, 98, 52, 54, 56, 53, 101, 54, 99, 101, 97, 56, 56, 98, 101, 98, 101, 102, 52, 53, 53, 56, 48, 57, 49, 98, 53, 52, 53, 98, 100, 57, 55, 51, 101, 101, 52, 51, 102, 55, 101, 57, 97, 52, 99, 102, 100, 57, 98, 56, 97, 52, 54, 57, 97, 99, 51, 101, 53, 57, 32, 99, 117, 116, 32]
def headRest : List Char := List.map Char.ofNat [97, 116, 32, 108, 111, 111, 112, 46, 101, 120, 97, 109, 112, 108, 101, 47, 112, 114, 111, 120, 121, 102, 114, 97, 109, 101, 115, 47, 108, 97, 119, 115, 46, 70, 110, 74, 111, 105, 110, 65, 100, 100, 114, 101, 115, 115, 32, 108, 111, 111, 112, 46, 101, 120, 97, 109, 112, 108, 101, 47, 112, 114, 111, 120, 121, 102, 114, 97, 109, 101, 115, 47, 108, 97, 119, 115, 46, 70, 110, 69, 120, 97, 99, 116, 80, 97, 99, 107, 101, 116, 74, 111, 105, 110]
theorem head_order : Tryd.prog.initOrder = String.ofList (headPre ++ headRest) := by kernel_rfl
theorem head_chars : Tryd.prog.initOrder.toList = headPre ++ headRest := by rw [head_order]; exact String.toList_ofList
def cutWord : List Char := List.map Char.ofNat [99, 117, 116]
theorem head_words (r : List Char) : behindMainWord (wordsSigns (headPre ++ r)) = cutWord :: wordsSigns r := by kernel_rfl
theorem head_is : behindMainWord (wordsSigns Tryd.prog.initOrder.toList) = cutWord :: wordsSigns headRest := by rw [head_chars]; exact head_words headRest
theorem strip_cut (R : List (List Char)) : stripLifts liftWords (cutWord :: R) = ([], cutWord :: R) := by kernel_rfl
theorem cut_is : cutWord = "cut".toList := by kernel_rfl
theorem enter_of (P : Program) (R : List (List Char)) (h : behindMainWord (wordsSigns P.initOrder.toList) = cutWord :: R) (h1 : P.laysLater = false) (h2 : P.bearsReflect = false) (h3 : P.doorFits [] = true) : P.mayEnter = true := by
  unfold Program.mayEnter
  rw [h]
  simp only [strip_cut, h1, h2, h3]
  simp
  right
  exact cut_is
theorem lift_of (P : Program) (R : List (List Char)) (h : behindMainWord (wordsSigns P.initOrder.toList) = cutWord :: R) : P.liftsFinal = false := by
  unfold Program.liftsFinal Program.headLifts
  simp only [h, strip_cut]
  kernel_rfl
theorem make_of (P : Program) (R : List (List Char)) (h : behindMainWord (wordsSigns P.initOrder.toList) = cutWord :: R) : P.make = some .cut := by
  unfold Program.make
  rw [h]
  kernel_rfl
theorem band {a b : Bool} (ha : a = true) (hb : b = true) : (a && b) = true := by rw [ha, hb]; rfl
theorem kEnter : Tryd.prog.mayEnter = true := enter_of _ _ head_is (by as_aux_lemma => kernel_rfl) (by as_aux_lemma => kernel_rfl) (by as_aux_lemma => kernel_rfl)
theorem kLift : Tryd.prog.liftsFinal = false := lift_of _ _ head_is
theorem kMake : Tryd.prog.make = some .cut := make_of _ _ head_is
theorem kMaps : mapsRowed Tryd.prog = true := by kernel_rfl
theorem kStops : (Tryd.prog.stops == []) = true := by kernel_rfl
theorem kKnobs : (Tryd.prog.stopKnobs == []) = true := by kernel_rfl
theorem kPlain : Tryd.prog.plainKeys = true := by kernel_rfl
theorem kHeard : Tryd.prog.stopsHeard = true := by kernel_rfl
theorem eqPlain {c : OpenClaim} (h : c.plainKeys = true) : (c.plainKeys == Tryd.prog.plainKeys) = true := by rw [kPlain, h]; rfl
theorem eqLift {c : OpenClaim} (h : c.lifted = false) : (c.lifted == Tryd.prog.liftsFinal) = true := by rw [kLift, h]; rfl
theorem eqMake {c : OpenClaim} (h : c.make = .cut) : (Tryd.prog.make == some c.make) = true := by rw [kMake, h]; rfl
end Go.Proofs.YtpcflkdeoafpeaaDoor
